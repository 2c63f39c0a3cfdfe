/-
  What is to be shown of code, proved sound, and the plain form of the program's types: of any program but for the types. Conditions: none.
-/
import Derived.Test.YtemoiphdjocaiaaGreatPvReg
set_option linter.all false
set_option linter.unusedSimpArgs false
set_option linter.unusedVariables false
namespace Go.Pv
open Go.RowKit (Below)

mutual
/-- All handles lie below m. -/
def hb (m : Nat) : PV → Bool
  | .agg cs => hbL m cs | .tup cs => hbL m cs | .clo _ cs => hbL m cs
  | .ptr h _ _ _ => decide (h < m) | .own h _ _ _ => decide (h < m) | .mp h => decide (h < m)
  | _ => true
def hbL (m : Nat) : List PV → Bool
  | [] => true
  | p :: r => hb m p && hbL m r
end
def hbB (m : Nat) : Blk → Bool
  | .rows _ _ es => es.all fun e => hbL m e
  | .map _ es => es.all fun e => hb m e.2
  | .iter h _ _ => decide (h < m)
  | .siter _ _ => true
  | .dead => true

theorem hbL_getD {m : Nat} {ps : List PV} (h : hbL m ps = true) (i : Nat) : hb m (ps.getD i .undef) = true := by
  induction ps generalizing i with
  | nil => simp [hb]
  | cons p r ih =>
    simp only [hbL, Bool.and_eq_true] at h
    cases i with
    | zero => simpa using h.1
    | succ i => simpa using ih h.2 i

theorem RelV.cut {σ : List (Nat × Nat)} {F : Fr} {w : World} {v : Value} {p : PV} (m : Nat) (h : RelV σ F w v p) (hp : hb m p = true) : RelV (σ.take m) F w v p := by
  induction h with
  | frz h => exact .frz h
  | ptr h sz i off x hx => exact .ptr h sz i off x (by rw [List.getElem?_take, if_pos (by simpa [hb] using hp)]; exact hx)
  | own h sz a len cap x hx hc hn hL => exact .own h sz a len cap x (by rw [List.getElem?_take, if_pos (by simpa [hb] using hp)]; exact hx) hc hn hL
  | mp h x hx => exact .mp h x (by rw [List.getElem?_take, if_pos (by simpa [hb] using hp)]; exact hx)
  | agg cs ps hn _ ih => exact .agg cs ps hn fun i hi => ih i hi (hbL_getD (by simpa [hb] using hp) i)
  | tup cs ps hn _ ih => exact .tup cs ps hn fun i hi => ih i hi (hbL_getD (by simpa [hb] using hp) i)
  | clo f cs ps hn _ ih => exact .clo f cs ps hn fun i hi => ih i hi (hbL_getD (by simpa [hb] using hp) i)

theorem Ow.cut {B : Nat} {σ : List (Nat × Nat)} {F : Fr} {w : World} {H : Heap} (m : Nat) (h : Ow B σ F w H) (hp : (H.take m).all (hbB m) = true) : Ow B (σ.take m) F w (H.take m) := by
  have g1 : ∀ (h : Nat) (x : Nat × Nat), (σ.take m)[h]? = some x → σ[h]? = some x := by
    intro h x hx
    rw [List.getElem?_take] at hx
    split at hx
    · exact hx
    · cases hx
  have g2 : ∀ (h : Nat) (k : Blk), (H.take m)[h]? = some k → H[h]? = some k := by
    intro h x hx
    rw [List.getElem?_take] at hx
    split at hx
    · exact hx
    · cases hx
  refine ⟨by simp [h.len], fun h' x k hx hk => ?_, fun h' x k hx hk => h.big h' x k (g1 _ _ hx) (g2 _ _ hk), fun a b x y k k' h1 h2 h3 h4 h5 => h.inj a b x y k k' (g1 _ _ h1) (g1 _ _ h2) h3 (g2 _ _ h4) (g2 _ _ h5), h.old, h.base⟩
  have hb' := h.ok h' x k (g1 _ _ hx) (g2 _ _ hk)
  cases k with
  | dead => trivial
  | rows T sz es =>
    obtain ⟨arr, a1, a0, a2, a3, a4, a5⟩ := hb'
    refine ⟨arr, a1, a0, a2, a3, fun i j hi hj => (a4 i j hi hj).cut m ?_, a5⟩
    simp only [List.all_eq_true] at hp
    have := hp _ (List.mem_of_getElem? hk)
    simp only [hbB, List.all_eq_true] at this
    exact hbL_getD (this _ (by simp [List.getD, hi])) j
  | map ag es =>
    obtain ⟨⟨f, a1, a2⟩, a5⟩ := hb'
    refine ⟨⟨f, a1, fun i hi => ⟨(a2 i hi).1.cut m ?_, (a2 i hi).2⟩⟩, a5⟩
    simp only [List.all_eq_true] at hp
    have := hp _ (List.mem_of_getElem? hk)
    simp only [hbB, List.all_eq_true] at this
    exact this _ (by simp [List.getD, hi])
  | iter h0 n seen =>
    obtain ⟨⟨y, a1, a2⟩, a5⟩ := hb'
    refine ⟨⟨y, ?_, a2⟩, a5⟩
    simp only [List.all_eq_true] at hp
    have := hp _ (List.mem_of_getElem? hk)
    simp only [hbB, decide_eq_true_eq] at this
    rw [List.getElem?_take, if_pos this]; exact a1
  | siter s pos => exact hb'

def liveVals (T : TEnv) : List Nat → Option (List PV)
  | [] => some []
  | t :: r => match tg T t, liveVals T r with
    | ⟨true, [], p⟩, some ps => some (p :: ps)
    | _, _ => none
def mkT : List Nat → List PV → TEnv
  | t :: r, p :: ps => (t, [], p) :: mkT r ps
  | _, _ => []
theorem mkT_plain : ∀ (l : List Nat) (ps : List PV) (t : Nat), (tg (mkT l ps) t).c = []
  | [], _, _ => rfl
  | _ :: _, [], _ => rfl
  | u :: l, p :: ps, t => by
    simp only [mkT, tg]
    split
    · rfl
    · exact mkT_plain l ps t

mutual
def rn (sel : List Nat) : PV → PV
  | .agg cs => .agg (rnL sel cs) | .tup cs => .tup (rnL sel cs) | .clo f cs => .clo f (rnL sel cs)
  | .ptr h sz i off => .ptr (sel.idxOf h) sz i off | .own h sz a len => .own (sel.idxOf h) sz a len | .mp h => .mp (sel.idxOf h)
  | .int k n => .int k n | .bool b => .bool b | .str s => .str s | .nil => .nil | .sl sz es => .sl sz es | .fs sz es => .fs sz es | .ref cs => .ref cs | .undef => .undef
def rnL (sel : List Nat) : List PV → List PV
  | [] => []
  | p :: r => rn sel p :: rnL sel r
end
mutual
def inS (sel : List Nat) : PV → Bool
  | .agg cs => inSL sel cs | .tup cs => inSL sel cs | .clo _ cs => inSL sel cs
  | .ptr h _ _ _ => sel.contains h | .own h _ _ _ => sel.contains h | .mp h => sel.contains h
  | _ => true
def inSL (sel : List Nat) : List PV → Bool
  | [] => true
  | p :: r => inS sel p && inSL sel r
end
def rnB (sel : List Nat) : Blk → Blk
  | .rows T sz es => .rows T sz (es.map (rnL sel))
  | .map ag es => .map ag (es.map fun e => (e.1, rn sel e.2))
  | .iter h n s => .iter (sel.idxOf h) n s
  | .siter s p => .siter s p
  | .dead => .dead
def inSB (sel : List Nat) : Blk → Bool
  | .rows _ _ es => es.all fun e => inSL sel e
  | .map _ es => es.all fun e => inS sel e.2
  | .iter h _ _ => sel.contains h
  | _ => true
def selH (sel : List Nat) (H : Heap) : Heap := sel.map fun h => rnB sel (H.getD h .dead)
def okSel (sel : List Nat) (vs : List PV) (H : Heap) : Prop := sel.Nodup ∧ (sel.all fun h => decide (h < H.length)) = true ∧ inSL sel vs = true ∧ (sel.all fun h => inSB sel (H.getD h .dead)) = true

theorem rnL_length (sel : List Nat) : ∀ ps, (rnL sel ps).length = ps.length
  | [] => rfl
  | _ :: r => by simp [rnL, rnL_length sel r]
theorem rnL_getD (sel : List Nat) : ∀ (ps : List PV) (i : Nat), (rnL sel ps).getD i .undef = rn sel (ps.getD i .undef)
  | [], i => by simp [rnL, rn]
  | p :: r, 0 => by simp [rnL]
  | p :: r, i + 1 => by simpa [rnL] using rnL_getD sel r i
theorem inSL_getD {sel : List Nat} : ∀ {ps : List PV}, inSL sel ps = true → ∀ i, inS sel (ps.getD i .undef) = true
  | [], _, i => by simp [inS]
  | p :: r, h, 0 => by simp only [inSL, Bool.and_eq_true] at h; simpa using h.1
  | p :: r, h, i + 1 => by simp only [inSL, Bool.and_eq_true] at h; simpa using inSL_getD h.2 i

theorem RelF.rn (sel : List Nat) {F : Fr} {w : World} {v : Value} {p : PV} (h : RelF F w v p) : RelF F w v (rn sel p) := by
  induction h with
  | int k n => simp only [Pv.rn]; exact .int k n
  | bool b => simp only [Pv.rn]; exact .bool b
  | str s hs => simp only [Pv.rn]; exact .str s hs
  | agg cs ps hn _ ih => simp only [Pv.rn]; exact .agg cs _ (by rw [rnL_length]; exact hn) fun i hi => by rw [rnL_getD]; exact ih i (by rwa [rnL_length] at hi)
  | tup cs ps hn _ ih => simp only [Pv.rn]; exact .tup cs _ (by rw [rnL_length]; exact hn) fun i hi => by rw [rnL_getD]; exact ih i (by rwa [rnL_length] at hi)
  | clo f cs ps hn _ ih => simp only [Pv.rn]; exact .clo f cs _ (by rw [rnL_length]; exact hn) fun i hi => by rw [rnL_getD]; exact ih i (by rwa [rnL_length] at hi)
  | nil => simp only [Pv.rn]; exact .nil
  | sl0 a cap sz => simp only [Pv.rn]; exact .sl0 a cap sz
  | sl b off n cap sz es v hb hn hc hL hz hv h _ => simp only [Pv.rn]; exact .sl b off n cap sz es v hb hn hc hL hz hv h
  | fs0 a cap sz => simp only [Pv.rn]; exact .fs0 a cap sz
  | fs b off n cap sz es v hb hw ha hn hc hL hz hv h _ => simp only [Pv.rn]; exact .fs b off n cap sz es v hb hw ha hn hc hL hz hv h
  | ref b off cs v hb hv h _ => simp only [Pv.rn]; exact .ref b off cs v hb hv h
  | undef v => simp only [Pv.rn]; exact .undef v
theorem sel_at {sel : List Nat} {σ : List (Nat × Nat)} {h : Nat} (hm : h ∈ sel) : (sel.map fun h => σ.getD h (0, 0))[sel.idxOf h]? = some (σ.getD h (0, 0)) := by
  have hl : sel.idxOf h < sel.length := List.idxOf_lt_length_of_mem hm
  rw [List.getElem?_map, List.getElem?_eq_getElem hl]
  simp [List.getElem_idxOf]

theorem RelV.sel {sel : List Nat} {σ : List (Nat × Nat)} {F : Fr} {w : World} {v : Value} {p : PV} (h : RelV σ F w v p) (hp : inS sel p = true) : RelV (sel.map fun h => σ.getD h (0, 0)) F w v (rn sel p) := by
  have at' : ∀ (g : Nat) (x : Nat × Nat), σ[g]? = some x → sel.contains g = true → (sel.map fun h => σ.getD h (0, 0))[sel.idxOf g]? = some x := by
    intro g x hx hc
    have hm : g ∈ sel := by simpa using hc
    rw [sel_at hm]
    simp [List.getD, hx]
  induction h with
  | frz h =>
    exact .frz (h.rn sel)
  | ptr h sz i off x hx => rw [Pv.rn]; exact .ptr _ sz i off x (at' _ _ hx (by simpa [inS] using hp))
  | own h sz a len cap x hx hc hn hL => rw [Pv.rn]; exact .own _ sz a len cap x (at' _ _ hx (by simpa [inS] using hp)) hc hn hL
  | mp h x hx => rw [Pv.rn]; exact .mp _ x (at' _ _ hx (by simpa [inS] using hp))
  | agg cs ps hn _ ih => rw [Pv.rn]; exact .agg cs _ (by rw [rnL_length]; exact hn) fun i hi => by rw [rnL_getD]; exact ih i (by rwa [rnL_length] at hi) (inSL_getD (by simpa [inS] using hp) i)
  | tup cs ps hn _ ih => rw [Pv.rn]; exact .tup cs _ (by rw [rnL_length]; exact hn) fun i hi => by rw [rnL_getD]; exact ih i (by rwa [rnL_length] at hi) (inSL_getD (by simpa [inS] using hp) i)
  | clo f cs ps hn _ ih => rw [Pv.rn]; exact .clo f cs _ (by rw [rnL_length]; exact hn) fun i hi => by rw [rnL_getD]; exact ih i (by rwa [rnL_length] at hi) (inSL_getD (by simpa [inS] using hp) i)

theorem rnB_dead {sel : List Nat} {k : Blk} (h : rnB sel k ≠ .dead) : k ≠ .dead := fun e => h (by rw [e]; rfl)
theorem rows_rn (sel : List Nat) (es : List (List PV)) (i : Nat) : (es.map (rnL sel)).getD i [] = rnL sel (es.getD i []) := by
  simp only [List.getD, List.getElem?_map]
  cases es[i]? <;> rfl

theorem Ow.sel {B : Nat} {σ : List (Nat × Nat)} {F : Fr} {w : World} {H : Heap} (sel : List Nat) (h : Ow B σ F w H) (hnd : sel.Nodup) (hlt : ∀ g, g ∈ sel → g < H.length) (hin : ∀ g, g ∈ sel → inSB sel (H.getD g .dead) = true) :
    Ow B (sel.map fun h => σ.getD h (0, 0)) F w (selH sel H) := by
  have g1 : ∀ (i : Nat) (x : Nat × Nat) (k : Blk), (sel.map fun h => σ.getD h (0, 0))[i]? = some x → (selH sel H)[i]? = some k → ∃ g, sel[i]? = some g ∧ σ[g]? = some x ∧ H[g]? = some (H.getD g .dead) ∧ k = rnB sel (H.getD g .dead) := by
    intro i x k hx hk
    simp only [List.getElem?_map, selH, Option.map_eq_some_iff] at hx hk
    obtain ⟨g, hg, rfl⟩ := hx
    obtain ⟨g', hg', rfl⟩ := hk
    rw [hg] at hg'; cases hg'
    have hm : g ∈ sel := List.mem_of_getElem? hg
    have hl := hlt g hm
    exact ⟨g, hg, by simp [List.getD, show g < σ.length by rw [h.len]; exact hl], by simp [List.getD, hl], rfl⟩
  refine ⟨by simp [selH], fun i x k hx hk => ?_, fun i x k hx hk hd => ?_, fun i j x y k k' hx hy e hk hk' hd hd' => ?_, h.old, h.base⟩
  · obtain ⟨g, hg, hx', hk', rfl⟩ := g1 i x k hx hk
    have hi := hin g (List.mem_of_getElem? hg)
    have hb := h.ok g x _ hx' hk'
    generalize H.getD g .dead = b at hi hb
    cases b with
    | dead => trivial
    | rows T sz es =>
      obtain ⟨arr, a1, a0, a2, a3, a4, a5⟩ := hb
      refine ⟨arr, a1, a0, by simpa using a2, fun i hi => by rw [rows_rn, rnL_length]; exact a3 i (by simpa using hi), fun i j hi' hj => ?_, a5⟩
      rw [rows_rn, rnL_getD]
      refine (a4 i j (by simpa using hi') hj).sel ?_
      simp only [inSB, List.all_eq_true] at hi
      have hi2 : i < es.length := by simpa using hi'
      exact inSL_getD (hi _ (by simp [List.getD, hi2])) j
    | map ag es =>
      obtain ⟨⟨f, a1, a2⟩, a5⟩ := hb
      have e1 : ∀ i, i < es.length → (es.map fun e => (e.1, Pv.rn sel e.2)).getD i ([], .undef) = ((es.getD i ([], .undef)).1, Pv.rn sel (es.getD i ([], .undef)).2) := fun i hi => by simp [List.getD, hi]
      have e2 : mArr ag (es.map fun e => (e.1, Pv.rn sel e.2)) f = mArr ag es f := by
        unfold mArr
        congr 1
        rw [List.length_map]
        apply List.map_congr_left
        intro i hi
        rw [e1 i (List.mem_range.1 hi)]
      refine ⟨⟨f, by rw [e2]; simpa using a1, fun i hi' => ?_⟩, a5⟩
      have hi2 : i < es.length := by simpa using hi'
      rw [e1 i hi2]
      refine ⟨(a2 i hi2).1.sel ?_, (a2 i hi2).2⟩
      simp only [inSB, List.all_eq_true] at hi
      exact hi _ (by simp [List.getD, hi2])
    | iter h0 n seen =>
      obtain ⟨⟨y, a1, a2⟩, a5⟩ := hb
      have hm : h0 ∈ sel := by simpa [inSB] using hi
      exact ⟨⟨y, by rw [sel_at hm]; simp [List.getD, a1], a2⟩, a5⟩
    | siter s pos => exact hb
  · obtain ⟨g, hg, hx', hk', rfl⟩ := g1 i x k hx hk
    exact h.big g x _ hx' hk' (rnB_dead hd)
  · obtain ⟨g, hg, hx', hkk, rfl⟩ := g1 i x k hx hk
    obtain ⟨g', hg', hy', hkk', rfl⟩ := g1 j y k' hy hk'
    have := h.inj g g' x y _ _ hx' hy' e hkk hkk' (rnB_dead hd) (rnB_dead hd')
    subst this
    obtain ⟨l1, e1⟩ := List.getElem?_eq_some_iff.1 hg
    obtain ⟨l2, e2⟩ := List.getElem?_eq_some_iff.1 hg'
    exact (List.getElem_inj hnd).1 (e1.trans e2.symm)

/-- A loop's round: what is to hold at its end. -/
def roundC (m : Heap → Nat) (live : List Nat) (I : Nat → List PV → Heap → Prop) (k : Nat) (Q : Exit → TEnv → Heap → Prop) (e : Exit) (T : TEnv) (H : Heap) : Prop := match e with
  | .normal => ∃ vs, liveVals T live = some vs ∧ hbL (m H) vs = true ∧ (H.take (m H)).all (hbB (m H)) = true ∧ ∃ k', k' < k ∧ I k' vs (H.take (m H))
  | e => Q e T H

/-- The same, where handles are told anew. -/
def roundS (sel : Heap → List Nat) (live : List Nat) (I : Nat → List PV → Heap → Prop) (k : Nat) (Q : Exit → TEnv → Heap → Prop) (e : Exit) (T : TEnv) (H : Heap) : Prop := match e with
  | .normal => ∃ vs, liveVals T live = some vs ∧ okSel (sel H) vs H ∧ ∃ k', k' < k ∧ I k' (rnL (sel H) vs) (selH (sel H) H)
  | e => Q e T H
def LoopVS (base : Nat) (body : (Exit → TEnv → Heap → Prop) → TEnv → Heap → Prop) (Q : Exit → TEnv → Heap → Prop) (T : TEnv) (H : Heap) : Prop :=
  ∃ (live : List Nat) (sel : Heap → List Nat) (I : Nat → List PV → Heap → Prop), base = 0 ∧
    (∃ vs, liveVals T live = some vs ∧ okSel (sel H) vs H ∧ ∃ k, I k (rnL (sel H) vs) (selH (sel H) H)) ∧
    ∀ k vs H, vs.length = live.length → I k vs H → body (roundS sel live I k Q) (mkT live vs) H
/-- What is to be shown at a loop: which slots live on, how many handles, a relation with a measure. -/
def LoopVC (base : Nat) (body : (Exit → TEnv → Heap → Prop) → TEnv → Heap → Prop) (Q : Exit → TEnv → Heap → Prop) (T : TEnv) (H : Heap) : Prop :=
  ∃ (live : List Nat) (m : Heap → Nat) (I : Nat → List PV → Heap → Prop), (∀ H, base ≤ m H) ∧
    (∃ vs, liveVals T live = some vs ∧ hbL (m H) vs = true ∧ (H.take (m H)).all (hbB (m H)) = true ∧ ∃ k, I k vs (H.take (m H))) ∧
    ∀ k vs H, vs.length = live.length → I k vs H → body (roundC m live I k Q) (mkT live vs) H

/-- A loop, in either way. -/
def LoopV (base : Nat) (body : (Exit → TEnv → Heap → Prop) → TEnv → Heap → Prop) (Q : Exit → TEnv → Heap → Prop) (T : TEnv) (H : Heap) : Prop := LoopVC base body Q T H ∨ LoopVS base body Q T H

def blockC (id : Nat) (Q : Exit → TEnv → Heap → Prop) (e : Exit) (T : TEnv) (H : Heap) : Prop := match e with
  | .exit i => if i = id then Q .normal T H else Q (.exit i) T H
  | e => Q e T H
def thenC (k : TEnv → Heap → Prop) (Q : Exit → TEnv → Heap → Prop) (e : Exit) (T : TEnv) (H : Heap) : Prop := match e with
  | .normal => k T H
  | e => Q e T H
/-- A branch on a slot. -/
def vcIf (x : TV) (k1 k2 : Prop) : Prop := match x with
  | ⟨true, [], .bool b⟩ => (b = true → k1) ∧ (b = false → k2)
  | _ => False

/-- A step of a loop over a map, at a region's head. -/
def nextB : Op → Bool | .next _ _ => true | _ => false
def nextX : Op → Option (Tmp × Bool) | .next (.tmp t) b => some (t, b) | _ => none
def vcNm (P : Program) (φ : FuncId → List PV → PV) (x : TV) (d : Option Tmp) (rest : List POp) (T : TEnv) (H : Heap) (K : TEnv → Heap → Prop) : Prop := match x with
  | ⟨true, [], .ptr hi 1 0 0⟩ => match H[hi]? with
    | some (.iter hm n seen) => match H[hm]? with
      | some (.map ag es) => n = es.length ∧ ((∀ j, j < es.length → j ∈ seen) → vcOps P φ rest (putT T d [] (.tup [.bool false])) H K) ∧
          ∀ j, j < es.length → j ∉ seen → vcOps P φ rest (putT T d [] (.tup [.bool true, kpv ag (es.getD j md).1, (es.getD j md).2])) (H.set hi (.iter hm n (seen ++ [j]))) K
      | _ => False
    | _ => False
  | _ => False
def vcNs (P : Program) (φ : FuncId → List PV → PV) (x : TV) (d : Option Tmp) (rest : List POp) (T : TEnv) (H : Heap) (K : TEnv → Heap → Prop) : Prop := match x with
  | ⟨true, [], .ptr hi 1 0 0⟩ => match H[hi]? with
    | some (.siter s pos) => (¬ pos < s.size → vcOps P φ rest (putT T d [] (.tup [.bool false])) H K) ∧
        (pos < s.size → vcOps P φ rest (putT T d [] (.tup [.bool true, .int .i64 pos, .int .i32 (Utf8.decode s pos).1])) (H.set hi (.siter s (pos + (Utf8.decode s pos).2))) K)
    | _ => False
  | _ => False
def vcNx (P : Program) (φ : FuncId → List PV → PV) (x : Option (Tmp × Bool)) (d : Option Tmp) (g : Option (Option Tmp × Bool)) (rest : List POp) (T : TEnv) (H : Heap) (K : TEnv → Heap → Prop) : Prop := match x, g with
  | some (t, false), none => vcNm P φ (tg T t) d rest T H K
  | some (t, true), none => vcNs P φ (tg T t) d rest T H K
  | _, _ => False
def vcReg (P : Program) (φ : FuncId → List PV → PV) (l : List POp) (T : TEnv) (H : Heap) (K : TEnv → Heap → Prop) : Prop := match l with
  | [] => vcOps P φ [] T H K
  | (d, op, g) :: rest => bif nextB op then vcNx P φ (nextX op) d g rest T H K else vcOps P φ ((d, op, g) :: rest) T H K

theorem vcReg_sound {P : Program} {φ : FuncId → List PV → PV} {B base n : Nat} {σ0 : List (Nat × Nat)} {F0 : Fr} {w0 : World} (ops : Array Oper) (hok : okOps n ops = true) (Q : Exit → Act → World → Prop) (K : TEnv → Heap → Prop)
    (hq : ∀ T H a w, K T H → SR B base n σ0 F0 w0 T H a w → Q .normal a w) {T : TEnv} {H : Heap} {a : Act} {w : World} (h : vcReg P φ (prep ops) T H K) (hs : SR B base n σ0 F0 w0 T H a w) :
    wpOps P ops Q (List.range' 0 ops.size) a w := by
  obtain ⟨σ, F, s0, s1, s2, s3, s4, s5⟩ := hs
  by_cases hnx : ∃ o x b, ops[0]? = some o ∧ o.op = .next x b
  · obtain ⟨o, x, isS, ho, hop⟩ := hnx
    have hlt : 0 < ops.size := (Array.getElem?_eq_some_iff.1 ho).1
    have hd : prep ops = prepO ops o :: (prep ops).drop 1 := by
      have e : ops[0] = o := by simpa [hlt] using ho
      have h2 := List.drop_eq_getElem_cons (l := prep ops) (i := 0) (by simpa [prep] using hlt)
      rw [List.drop_zero] at h2
      rw [h2]
      simp [prep, e]
    have hgn : ∀ g, o.guard = some g → False := fun g hg => by
      obtain ⟨k1, _⟩ := okList_at ops.toList [] 0 hok 0 o (by simpa using ho)
      have := k1 g.1 g.2 hg
      omega
    have hg : o.guard = none := by
      cases hg : o.guard with
      | none => rfl
      | some g => exact (hgn g hg).elim
    have hp : prepO ops o = (o.dst, .next x isS, none) := by simp [prepO, hop, hg]
    rw [hd, hp] at h
    have hb : nextB (.next x isS) = true := rfl
    simp only [vcReg, hb, cond_true] at h
    obtain ⟨k1, k2⟩ := okList_at ops.toList [] 0 hok 0 o (by simpa using ho)
    have hdst : ∀ x, o.dst = some x → x < a.tmps.size := fun x hx => by rw [s1]; exact (k2 x hx).1
    have hsz : ∀ v, (a.put o.dst v).tmps.size = n := by intro v; cases o.dst <;> simp [Act.put, s1]
    have hdf : ∀ v, (a.put o.dst v).defers = [] := by intro v; cases o.dst <;> simp [Act.put, s2]
    have hm : ∀ x, o.dst = some x → (∀ t, noC x (tg T t).c = true) ∧ noC x ([] : Cond) = true := fun x _ => ⟨fun t => by rw [s0 t]; rfl, rfl⟩
    have hs' : ∀ p, ∀ t, CondsIn ops 1 (tg (putT T o.dst [] p) t).c := by
      intro p t
      cases hx : o.dst with
      | none => simp only [putT]; rw [s0 t]; intro s b hm; cases hm
      | some x =>
        simp only [putT, tg]
        split
        · intro s b hm; cases hm
        · rw [s0 t]; intro s b hm; cases hm
    obtain ⟨m, hm1⟩ : ∃ m, ops.size = m + 1 := ⟨ops.size - 1, by omega⟩
    rw [hm1, List.range'_succ]
    have hw : Region.wanted o (yielded ops a.tmps) = true := by simp [Region.wanted, hg]
    simp only [wpOps, ho, hw]
    rw [if_pos trivial]
    refine .inl ?_
    have endF : ∀ (t : Tmp), x = .tmp t → (Instr.next (a.tmps.getD t Go.undef) isS o.type).run P w = .ok (.tuple #[.bool false]) w → vcOps P φ ((prep ops).drop 1) (putT T o.dst [] (.tup [.bool false])) H K → Oper.wp P o a w (wpOps P ops Q (List.range' (0 + 1) m)) Q := by
      rintro t rfl c2 ha
      have hrun : (execOp a.eval o).run P w = .ok (.value (.tuple #[.bool false])) w := by
        have e : a.eval (.tmp t) = a.tmps.getD t Go.undef := rfl
        rw [← e] at c2
        simp [execOp, hop, c2]
      unfold Oper.wp
      rw [hrun]
      exact vcOps_sound ops hok Q K hq m 1 _ _ _ _ σ F (by omega) ha (hs' _) (hsz _) (hdf _)
        (s3.put _ _ _ _ hm hdst ⟨fun _ => .frz (.tup _ _ rfl fun i hi => by
          match i, hi with
          | 0, _ => exact .bool _), (fun e => by simp [holds] at e)⟩) s4 s5
    have endT : ∀ (t : Tmp) (w' : World) (u : Value) (p : PV) (H' : Heap), x = .tmp t → (Instr.next (a.tmps.getD t Go.undef) isS o.type).run P w = .ok u w' → Ow B σ F w' H' → Step B σ F w σ F w' → RelV σ F w' u p →
        vcOps P φ ((prep ops).drop 1) (putT T o.dst [] p) H' K → Oper.wp P o a w (wpOps P ops Q (List.range' (0 + 1) m)) Q := by
      rintro t w' u p H' rfl c3 c4 c5 c6 ha
      have hrun : (execOp a.eval o).run P w = .ok (.value u) w' := by
        have e : a.eval (.tmp t) = a.tmps.getD t Go.undef := rfl
        rw [← e] at c3
        simp [execOp, hop, c3]
      unfold Oper.wp
      rw [hrun]
      exact vcOps_sound ops hok Q K hq m 1 _ _ _ _ σ F (by omega) ha (hs' _) (hsz _) (hdf _)
        ((s3.step c5).put _ _ _ _ hm hdst ⟨fun _ => c6, (fun e => by simp [holds] at e)⟩) c4 (s5.trans (c5 base))
    have hrelT : ∀ (t : Tmp) (p : PV), tg T t = ⟨true, [], p⟩ → RelV σ F w (a.tmps.getD t Go.undef) p := fun t p htg => by
      have := s3 t
      unfold RelAt at this
      rw [htg] at this
      exact (this rfl).1 rfl
    unfold vcNx at h
    split at h
    · rename_i t ht hgn
      obtain ⟨hx, rfl⟩ : x = .tmp t ∧ isS = false := by cases x <;> simp [nextX] at ht; exact ⟨by rw [ht.1], ht.2⟩
      unfold vcNm at h
      split at h
      · rename_i hi htg
        split at h
        · rename_i hm n' seen h1
          split at h
          · rename_i ag es h2
            obtain ⟨rfl, ha, hb⟩ := h
            rcases next_step (P := P) (.tmp t) o.type hi _ seen ag es H h1 h2 s4 (hrelT t _ htg) with ⟨c1, c2⟩ | ⟨j, c1, c2, w', u, c3, c4, c5, c6⟩
            · exact endF t hx c2 (ha c1)
            · exact endT t w' u _ _ hx c3 c4 c5 c6 (hb j c1 c2)
          · exact h.elim
        · exact h.elim
      · exact h.elim
    · rename_i t ht hgn
      obtain ⟨hx, rfl⟩ : x = .tmp t ∧ isS = true := by cases x <;> simp [nextX] at ht; exact ⟨by rw [ht.1], ht.2⟩
      unfold vcNs at h
      split at h
      · rename_i hi htg
        split at h
        · rename_i s pos h1
          obtain ⟨ha, hb⟩ := h
          rcases next_str (P := P) o.type hi s pos H h1 s4 (hrelT t _ htg) with ⟨c1, c2⟩ | ⟨c1, w', u, c3, c4, c5, c6⟩
          · exact endF t hx c2 (ha c1)
          · exact endT t w' u _ _ hx c3 c4 c5 c6 (hb c1)
        · exact h.elim
      · exact h.elim
    · exact h.elim
  · have hv : vcOps P φ (prep ops) T H K := by
      cases hl : prep ops with
      | nil => rw [hl] at h; exact h
      | cons x l =>
        obtain ⟨d, op, g⟩ := x
        rw [hl] at h
        have : nextB op = false := by
          cases hb : nextB op with
          | false => rfl
          | true =>
            exfalso
            obtain ⟨o, ho⟩ : ∃ o, ops[0]? = some o := by
              have : ops.toList ≠ [] := fun e => by simp [prep, e] at hl
              cases ho : ops.toList with
              | nil => exact absurd ho this
              | cons o r => exact ⟨o, by rw [← Array.getElem?_toList, ho]; rfl⟩
            have hop : o.op = op := by
              have h3 : (prep ops)[0]? = some (d, op, g) := by rw [hl]; rfl
              simp only [prep, List.getElem?_map, Array.getElem?_toList, ho, Option.map_some, prepO, Option.some.injEq, Prod.mk.injEq] at h3
              exact h3.2.1
            cases op <;> simp only [nextB, Bool.false_eq_true] at hb
            rename_i x b
            exact hnx ⟨o, x, b, ho, hop⟩
        simp only [vcReg, this, cond_false] at h
        exact h
    exact vcOps_sound (n := n) ops hok _ _ hq ops.size 0 T H _ w σ F (by omega) (by simpa using hv) (fun t s b hm => by rw [s0 t] at hm; cases hm) s1 s2 s3 s4 s5

def vc (P : Program) (φ : FuncId → List PV → PV) (base : Nat) : Code → (Exit → TEnv → Heap → Prop) → TEnv → Heap → Prop
  | .skip, Q, T, H => Q .normal T H
  | .region _ ops false, Q, T, H => vcReg P φ (prep ops) T H (Q .normal)
  | .region _ ops true, Q, T, H => vcDr P φ (prep ops) T H (Q .normal)
  | .seq x y, Q, T, H => vc P φ base x (thenC (vc P φ base y Q) Q) T H
  | .cond c x y, Q, T, H => vcIf (opv T c) (vc P φ base x Q T H) (vc P φ base y Q T H)
  | .block id c, Q, T, H => vc P φ base c (blockC id Q) T H
  | .loop c, Q, T, H => LoopV base (vc P φ base c) Q T H
  | .exit id, Q, T, H => Q (.exit id) T H
  | .ret, Q, T, H => Q .ret T H
  | _, _, _, _ => False

def okCode (n : Nat) : Code → Bool
  | .region _ ops d => okOps n ops && (!d || bif isEnt (prep ops) then (okEnt n ops || isLate (prep ops) && okEnt2 n ops) else (okDraw ops || okLate ops))
  | .seq x y => okCode n x && okCode n y
  | .cond _ x y => okCode n x && okCode n y
  | .block _ c => okCode n c
  | .loop c => okCode n c
  | _ => true

theorem liveVals_rel {σ : List (Nat × Nat)} {F : Fr} {w : World} {tmps : Array Value} {T : TEnv} (hT : RelT σ F w tmps T) (m : Nat) : ∀ {live : List Nat} {vs : List PV}, liveVals T live = some vs → hbL m vs = true →
    vs.length = live.length ∧ RelT (σ.take m) F w tmps (mkT live vs)
  | [], vs, h, _ => by
    simp only [liveVals, Option.some.injEq] at h
    subst h
    exact ⟨rfl, fun t ht => by simp [mkT, tg] at ht⟩
  | t :: live, vs, h, hh => by
    simp only [liveVals] at h
    split at h
    · rename_i p ps ht hps
      simp only [Option.some.injEq] at h
      subst h
      simp only [hbL, Bool.and_eq_true] at hh
      obtain ⟨h1, h2⟩ := liveVals_rel hT m hps hh.2
      refine ⟨by simp [h1], fun u hu => ?_⟩
      have h3 := hT t (by rw [ht])
      rw [ht] at h3
      refine ⟨fun _ => ?_, fun e => by rw [mkT_plain] at e; simp [holds] at e⟩
      simp only [mkT, tg] at hu ⊢
      split
      · rename_i e
        subst e
        exact (h3.1 rfl).cut m hh.1
      · rename_i e
        rw [if_neg e] at hu
        exact (h2 u hu).1 (by rw [mkT_plain]; rfl)
    · cases h

theorem liveVals_sel {σ : List (Nat × Nat)} {F : Fr} {w : World} {tmps : Array Value} {T : TEnv} (hT : RelT σ F w tmps T) (sel : List Nat) : ∀ {live : List Nat} {vs : List PV}, liveVals T live = some vs → inSL sel vs = true →
    vs.length = live.length ∧ RelT (sel.map fun h => σ.getD h (0, 0)) F w tmps (mkT live (rnL sel vs))
  | [], vs, h, _ => by
    simp only [liveVals, Option.some.injEq] at h
    subst h
    exact ⟨rfl, fun t ht => by simp [mkT, rnL, tg] at ht⟩
  | t :: live, vs, h, hh => by
    simp only [liveVals] at h
    split at h
    · rename_i p ps ht hps
      simp only [Option.some.injEq] at h
      subst h
      simp only [inSL, Bool.and_eq_true] at hh
      obtain ⟨h1, h2⟩ := liveVals_sel hT sel hps hh.2
      refine ⟨by simp [h1], fun u hu => ?_⟩
      have h3 := hT t (by rw [ht])
      rw [ht] at h3
      refine ⟨fun _ => ?_, fun e => by rw [mkT_plain] at e; simp [holds] at e⟩
      simp only [rnL, mkT, tg] at hu ⊢
      split
      · rename_i e
        subst e
        exact (h3.1 rfl).sel hh.1
      · rename_i e
        rw [if_neg e] at hu
        exact (h2 u hu).1 (by rw [mkT_plain]; rfl)
    · cases h
theorem SR.sel {B n : Nat} {σ0 : List (Nat × Nat)} {F0 : Fr} {w0 : World} {T : TEnv} {H : Heap} {a : Act} {w : World} (h : SR B 0 n σ0 F0 w0 T H a w) (sel : List Nat) {live : List Nat} {vs : List PV}
    (hl : liveVals T live = some vs) (hs : okSel sel vs H) : vs.length = live.length ∧ SR B 0 n σ0 F0 w0 (mkT live (rnL sel vs)) (selH sel H) a w := by
  obtain ⟨σ, F, s0, s1, s2, s3, s4, s5⟩ := h
  obtain ⟨k1, k2, k3, k4⟩ := hs
  simp only [List.all_eq_true, decide_eq_true_eq] at k2 k4
  obtain ⟨l1, l2⟩ := liveVals_sel s3 sel hl k3
  exact ⟨l1, sel.map fun h => σ.getD h (0, 0), F, mkT_plain _ _, s1, s2, l2, s4.sel sel k1 k2 k4, s5.below, s5.sub, s5.same, fun h x hb hx => absurd hb (Nat.not_lt_zero h), s5.sup⟩
theorem SR.cut {B base n : Nat} {σ0 : List (Nat × Nat)} {F0 : Fr} {w0 : World} {T : TEnv} {H : Heap} {a : Act} {w : World} (h : SR B base n σ0 F0 w0 T H a w) (m : Nat) (hm : base ≤ m) {live : List Nat} {vs : List PV}
    (hl : liveVals T live = some vs) (hv : hbL m vs = true) (hH : (H.take m).all (hbB m) = true) : vs.length = live.length ∧ SR B base n σ0 F0 w0 (mkT live vs) (H.take m) a w := by
  obtain ⟨σ, F, s0, s1, s2, s3, s4, s5⟩ := h
  obtain ⟨l1, l2⟩ := liveVals_rel s3 m hl hv
  exact ⟨l1, σ.take m, F, mkT_plain _ _, s1, s2, l2, s4.cut m hH, s5.below, s5.sub, s5.same, fun h x hb hx => by rw [List.getElem?_take, if_pos (by omega)]; exact s5.pre h x hb hx, s5.sup⟩

/-- A loop by a relation that bears its own number. -/
theorem wp_loop_num {P : Program} {c : Code} {Q : Exit → Act → World → Prop} (J : Nat → Act → World → Prop)
    (round : ∀ n a w, J n a w → c.wp P (Exit.then (fun a' w' => ∃ n', n' < n ∧ J n' a' w') Q) a w) {n : Nat} {a : Act} {w : World} (h₀ : J n a w) : (Code.loop c).wp P Q a w := by
  intro b k cs
  have key : ∀ n a w, J n a w → ∃ e a' w', Q e a' w' ∧ Arrives P (lone (b.at a (.code c :: .inLoop c :: k)) cs w) b k cs e a' w' := by
    intro n
    induction n using Nat.strongRecOn with
    | _ n ih =>
      intro a w hI
      obtain ⟨e, a₁, w₁, hq, harr⟩ := round n a w hI b (.inLoop c :: k) cs
      cases e with
      | normal =>
        obtain ⟨n', hlt, hJ⟩ := hq
        obtain ⟨e₂, a₂, w₂, hq₂, harr₂⟩ := ih n' hlt a₁ w₁ hJ
        exact ⟨e₂, a₂, w₂, hq₂, .of_steps (Steps.trans harr (.one step_inLoop)) harr₂⟩
      | exit id => exact ⟨_, a₁, w₁, hq, .pass (x := .inLoop c) rfl (fun _ _ => .inl (by simp)) harr⟩
      | goto l => exact ⟨_, a₁, w₁, hq, .pass (x := .inLoop c) rfl (fun _ _ => .inl (by simp)) harr⟩
      | ret => exact ⟨_, a₁, w₁, hq, .pass (x := .inLoop c) rfl (fun _ _ => .inl (by simp)) harr⟩
      | panic ch => exact ⟨_, a₁, w₁, hq, .pass (x := .inLoop c) rfl (fun _ _ => .inl (by simp)) harr⟩
      | outgrown => exact ⟨_, a₁, w₁, hq, .pass (x := .inLoop c) rfl (fun _ _ => .inl (by simp)) harr⟩
  obtain ⟨e, a', w', hq, harr⟩ := key n a w h₀
  exact ⟨e, a', w', hq, .of_steps (.one step_loop) harr⟩

theorem vc_sound {P : Program} {φ : FuncId → List PV → PV} {B base n : Nat} {σ0 : List (Nat × Nat)} {F0 : Fr} {w0 : World} (hmx : P.follows .mixedOrders = true) : ∀ (c : Code), okCode n c = true → ∀ (Q : Exit → TEnv → Heap → Prop) (T : TEnv) (H : Heap) (a : Act) (w : World),
    vc P φ base c Q T H → SR B base n σ0 F0 w0 T H a w → c.wp P (fun e a' w' => ∃ T' H', Q e T' H' ∧ SR B base n σ0 F0 w0 T' H' a' w') a w := by
  intro c
  induction c with
  | skip => intro _ Q T H a w h hs; exact wp_skip ⟨T, H, h, hs⟩
  | region id ops d =>
    intro hok Q T H a w h hs
    simp only [okCode, Bool.and_eq_true, Bool.or_eq_true, Bool.not_eq_true'] at hok
    cases d with
    | false =>
      refine wp_region ?_
      rw [List.range_eq_range']
      exact vcReg_sound (n := n) ops hok.1 _ _ (fun T H a w hK hs => ⟨T, H, hK, hs⟩) (by simpa [vc] using h) hs
    | true =>
      have hok2 := hok.2
      have h : vcDr P φ (prep ops) T H (Q .normal) := by simpa [vc] using h
      unfold vcDr at h
      cases hie : isEnt (prep ops) with
      | true =>
        rw [hie] at h hok2
        simp only [cond_true, Bool.or_eq_true, Bool.and_eq_true] at hok2
        have h : vcDl P φ (isLate (prep ops)) (prep ops) T H (Q .normal) := h
        rcases hok2 with hk | hk | ⟨hl, hk⟩
        · cases hk
        · refine vcEnt_sound (φ := φ) (n := n) hmx hk _ _ (fun T H a w hK hs => ⟨T, H, hK, hs⟩) ?_ hs
          cases hl : isLate (prep ops) with
          | true => rw [hl] at h; exact h.1
          | false => rw [hl] at h; exact h
        · rw [hl] at h
          exact vcEnt2_sound (n := n) hmx hk _ _ (fun T H a w hK hs => ⟨T, H, hK, hs⟩) h hs
      | false =>
        rw [hie] at h hok2
        simp only [cond_false, Bool.or_eq_true] at hok2
        rcases hok2 with hk | hk | hk
        · cases hk
        · exact vcDraw_sound (n := n) hmx hok.1 hk _ _ (fun T H a w hK hs => ⟨T, H, hK, hs⟩) h hs
        · exact vcLate_sound (n := n) hmx hok.1 hk _ _ (fun T H a w hK hs => ⟨T, H, hK, hs⟩) h hs
  | seq x y ihx ihy =>
    intro hok Q T H a w h hs
    simp only [okCode, Bool.and_eq_true] at hok
    refine wp_seq (wp_mono (ihx hok.1 _ T H a w h hs) ?_)
    rintro e a' w' ⟨T', H', hq, hs'⟩
    cases e with
    | normal => exact ihy hok.2 Q T' H' a' w' hq hs'
    | _ => exact ⟨T', H', hq, hs'⟩
  | cond c x y ihx ihy =>
    intro hok Q T H a w h hs
    simp only [okCode, Bool.and_eq_true] at hok
    simp only [vc, vcIf] at h
    split at h
    · rename_i b hc
      obtain ⟨h1, h2⟩ := h
      obtain ⟨σ, F, s0, s1, s2, s3, s4, s5⟩ := hs
      have he := opv_rel (fun t _ => s3 t) (x := c) (c := []) (by rw [hc]; rfl) rfl
      rw [hc] at he
      exact wp_cond_split he.bool_inv (fun hb => ihx hok.1 Q T H a w (h1 hb) ⟨σ, F, s0, s1, s2, s3, s4, s5⟩) (fun hb => ihy hok.2 Q T H a w (h2 hb) ⟨σ, F, s0, s1, s2, s3, s4, s5⟩)
    · exact h.elim
  | block id c ih =>
    intro hok Q T H a w h hs
    refine wp_block (wp_mono (ih hok _ T H a w h hs) ?_)
    rintro e a' w' ⟨T', H', hq, hs'⟩
    cases e with
    | exit i =>
      simp only [Exit.inBlock]
      by_cases hi : i = id
      · rw [if_pos hi]; simp only [blockC, hi, if_true] at hq; exact ⟨T', H', hq, hs'⟩
      · rw [if_neg hi]; simp only [blockC, hi, if_false] at hq; exact ⟨T', H', hq, hs'⟩
    | _ => exact ⟨T', H', hq, hs'⟩
  | loop c ih =>
    intro hok Q T H a w h hs
    simp only [vc, LoopV, LoopVC] at h
    rcases h with h | ⟨live, sel, I, rfl, ⟨vs, v1, v2, k, v4⟩, hround⟩
    case inr =>
      obtain ⟨e1, e2⟩ := hs.sel (sel H) v1 v2
      refine wp_loop_num (fun k a w => ∃ vs H, vs.length = live.length ∧ I k vs H ∧ SR B 0 n σ0 F0 w0 (mkT live vs) H a w) ?_ (n := k) ⟨_, _, by rw [rnL_length]; exact e1, v4, e2⟩
      rintro k a w ⟨vs, H, hl, hI, hs⟩
      refine wp_mono (ih hok _ _ H a w (hround k vs H hl hI) hs) ?_
      rintro e a' w' ⟨T', H', hq, hs'⟩
      cases e with
      | normal =>
        obtain ⟨vs', u1, u2, k', u5, u4⟩ := hq
        obtain ⟨f1, f2⟩ := hs'.sel (sel H') u1 u2
        exact ⟨k', u5, _, _, by rw [rnL_length]; exact f1, u4, f2⟩
      | _ => exact ⟨T', H', hq, hs'⟩
    obtain ⟨live, m, I, hm, ⟨vs, v1, v2, v3, k, v4⟩, hround⟩ := h
    obtain ⟨e1, e2⟩ := hs.cut (m H) (hm H) v1 v2 v3
    refine wp_loop_num (fun k a w => ∃ vs H, vs.length = live.length ∧ I k vs H ∧ SR B base n σ0 F0 w0 (mkT live vs) H a w) ?_ (n := k) ⟨vs, _, e1, v4, e2⟩
    rintro k a w ⟨vs, H, hl, hI, hs⟩
    refine wp_mono (ih hok _ _ H a w (hround k vs H hl hI) hs) ?_
    rintro e a' w' ⟨T', H', hq, hs'⟩
    cases e with
    | normal =>
      obtain ⟨vs', u1, u2, u3, k', u5, u4⟩ := hq
      obtain ⟨f1, f2⟩ := hs'.cut (m H') (hm H') u1 u2 u3
      exact ⟨k', u5, vs', _, f1, u4, f2⟩
    | _ => exact ⟨T', H', hq, hs'⟩
  | exit id => intro _ Q T H a w h hs; exact wp_exit ⟨T, H, h, hs⟩
  | ret => intro _ Q T H a w h hs; exact wp_ret ⟨T, H, h, hs⟩
  | _ => intro _ Q T H a w h hs; simp [vc] at h

def okP (x : TV) : Bool := match x.c with | [] => x.ok | _ => false
/-- A result that lies in a cell. -/
def rCell (P : Program) (ty : TypeId) (p : PV) (H : Heap) : Prop × PV := match p, mkTy P ty with
  | .ptr h sz i off, some q => match H[h]? with
    | some (.rows _ sz' es) => (sz' = sz ∧ i < es.length ∧ off + q.sz ≤ sz ∧ (q.agg = false → q.sz = 1), valP q ((es.getD i []).drop off))
    | _ => (False, .undef)
  | _, _ => (False, .undef)
def vcRes (P : Program) (T : TEnv) (H : Heap) : List ResultVar → Prop × List PV
  | [] => (True, [])
  | .tmp t :: r => (okP (tg T t) = true ∧ (vcRes P T H r).1, (tg T t).p :: (vcRes P T H r).2)
  | .cell t ty :: r => (okP (tg T t) = true ∧ (rCell P ty (tg T t).p H).1 ∧ (vcRes P T H r).1, (rCell P ty (tg T t).p H).2 :: (vcRes P T H r).2)

theorem okP_rel {σ : List (Nat × Nat)} {F : Fr} {w : World} {tmps : Array Value} {T : TEnv} (hT : RelT σ F w tmps T) {t : Nat} (h : okP (tg T t) = true) : RelV σ F w (tmps.getD t Go.undef) (tg T t).p := by
  unfold okP at h
  split at h
  · rename_i hc; exact (hT t h).1 (by rw [hc]; rfl)
  · cases h

/-- One result, as the machine reads it. -/
def resSem (tmps : Array Value) : ResultVar → Sem Value
  | .tmp t => pure (tmps.getD t Go.undef)
  | .cell a t => do loadVar t (← asAddr (tmps.getD a Go.undef))

def packP : List PV → PV
  | [p] => p
  | ps => .tup ps

theorem vcRes_sound {P : Program} {B : Nat} {σ : List (Nat × Nat)} {F : Fr} {w : World} {H : Heap} {T : TEnv} {tmps : Array Value} (hI : Ow B σ F w H) (hT : RelT σ F w tmps T) : ∀ {l : List ResultVar}, (vcRes P T H l).1 →
    ∃ vs : List Value, vs.length = (vcRes P T H l).2.length ∧ (∀ i, i < (vcRes P T H l).2.length → RelV σ F w (vs.getD i Go.undef) ((vcRes P T H l).2.getD i .undef)) ∧
      (l.mapM (resSem tmps)).run P w = .ok vs w
  | [], h => ⟨[], rfl, fun i hi => by simp [vcRes] at hi, by simp⟩
  | .tmp t :: l, h => by
    simp only [vcRes] at h ⊢
    obtain ⟨ht, h⟩ := h
    obtain ⟨vs, h2, h3, h4⟩ := vcRes_sound hI hT h
    refine ⟨tmps.getD t Go.undef :: vs, by simp [h2], fun i hi => ?_, ?_⟩
    · cases i with
      | zero => exact okP_rel hT ht
      | succ i => simpa using h3 i (by simpa using hi)
    · simp only [List.mapM_cons, Sem.run_bind, resSem, Sem.run_pure, Result.andThen_ok, h4]
  | .cell t ty :: l, h => by
    simp only [vcRes] at h ⊢
    obtain ⟨ht, hcell, h⟩ := h
    obtain ⟨vs, h2, h3, h4⟩ := vcRes_sound hI hT h
    have hr := okP_rel hT ht
    generalize hp : (tg T t).p = p at hr hcell ⊢
    unfold rCell at hcell ⊢
    split at hcell
    · rename_i h0 sz i off q hq
      split at hcell
      · rename_i T' sz' es hk
        obtain ⟨rfl, g1, g2, g3⟩ := hcell
        obtain ⟨X, hb, he⟩ := hr.ptr_inv
        obtain ⟨f, hl, hc, hf⟩ := row_cell hI hb hk g1 off
        have hn' : q.sz ≤ ((es.getD i []).drop off).length := by simp only [List.length_drop, hl]; omega
        obtain ⟨v, hv, hv'⟩ := run_loadVarP hq w X.1 (i * sz' + off) f _ hn' g3 hc
        simp only [hk]
        refine ⟨v :: vs, by simp [h2], fun j hj => ?_, ?_⟩
        · cases j with
          | zero => exact rel_loaded hn' g3 hf hv'
          | succ j => simpa using h3 j (by simpa using hj)
        · simp only [List.mapM_cons, Sem.run_bind, resSem, he, asAddr, Sem.run_pure, Result.andThen_ok, hv, h4]
      · exact hcell.elim
    · exact hcell.elim

/-- A value that may be told as another one. -/
inductive Le : PV → PV → Prop where
  | refl (p) : Le p p
  | nil (sz) : Le .nil (.sl sz [])
  | undef (p) : Le p .undef
  | tup (ps qs : List PV) (hn : ps.length = qs.length) (h : ∀ i, i < qs.length → Le (ps.getD i .undef) (qs.getD i .undef)) : Le (.tup ps) (.tup qs)

theorem RelF.le {F : Fr} {w : World} {v : Value} {p q : PV} (h : RelF F w v p) (hl : Le p q) : RelF F w v q := by
  induction hl generalizing v with
  | refl => exact h
  | nil sz => cases h; exact .sl0 _ _ _
  | undef => exact .undef _
  | tup ps qs hn _ ih =>
    cases h with
    | tup cs _ hc hr => exact .tup cs qs (by omega) fun i hi => ih i hi (hr i (by omega))

def argT : Nat → List PV → TEnv
  | _, [] => []
  | k, p :: r => (k, [], p) :: argT (k + 1) r
theorem argT_plain : ∀ (k : Nat) (ps : List PV) (t : Nat), (tg (argT k ps) t).c = []
  | _, [], _ => rfl
  | k, p :: ps, t => by
    simp only [argT, tg]
    split
    · rfl
    · exact argT_plain (k + 1) ps t

theorem argT_rel {F : Fr} {w : World} {vs : Array Value} {ps : List PV} (h : ∀ i, i < ps.length → RelF F w (vs.getD i Go.undef) (ps.getD i .undef)) :
    ∀ (k : Nat) (l : List PV) (t : Nat), ps.drop k = l → (tg (argT k l) t).ok = true → t < ps.length ∧ RelF F w (vs.getD t Go.undef) (tg (argT k l) t).p
  | k, [], t, _, ht => by simp [argT, tg] at ht
  | k, q :: l, t, hk, ht => by
    have hlt : k < ps.length := by
      rcases Nat.lt_or_ge k ps.length with h | h
      · exact h
      · rw [List.drop_eq_nil_of_le h] at hk; cases hk
    simp only [argT, tg] at ht ⊢
    split
    · rename_i e
      subst e
      refine ⟨hlt, ?_⟩
      have := h k hlt
      have e : ps.getD k .undef = q := by
        have : (ps.drop k)[0]? = some q := by rw [hk]; rfl
        simp only [List.getElem?_drop, Nat.add_zero] at this
        simp [List.getD, this]
      rw [e] at this; exact this
    · rename_i e
      rw [if_neg e] at ht
      exact argT_rel h (k + 1) l t (by rw [← List.drop_drop, hk]; rfl) ht

theorem run_results {P : Program} {fn : Func} {tmps : Array Value} {w : World} {vs : List Value}
    (h : (fn.results.toList.mapM (resSem tmps)).run P w = .ok vs w) :
    (results fn tmps).run P w = .ok (if _h : vs.toArray.size = 1 then vs.toArray[0] else .tuple vs.toArray) w := by
  unfold results
  simp only [Sem.run_bind, Array.mapM_eq_mapM_toList, Sem.run_map]
  have e : (fun (x : ResultVar) => (match x with | .tmp t => pure (tmps.getD t Go.undef) | .cell a t => do let x ← asAddr (tmps.getD a Go.undef); loadVar t x : Sem Value)) = resSem tmps := by funext x; cases x <;> rfl
  have e2 : (fun (x : ResultVar) => (match x with | .tmp t => pure (tmps.getD t Go.undef) | .cell a t => do let x ← asAddr (tmps.getD a Go.undef); loadVar t x : Sem Value)) = resSem tmps := e
  first
    | (rw [h]; rfl)
    | (have : (List.mapM (fun (x : ResultVar) => (match x with | .tmp t => pure (tmps.getD t Go.undef) | .cell a t => do let x ← asAddr (tmps.getD a Go.undef); loadVar t x : Sem Value)) fn.results.toList).run P w = .ok vs w := by rw [e]; exact h
       erw [this]; rfl)


/-- At a function's end. -/
def endC (P : Program) (c : Nat → List (List PV) → PV) (rs : List ResultVar) (r : PV) (e : Exit) (T : TEnv) (H : Heap) : Prop := match e with
  | .normal => (vcRes P T H rs).1 ∧ Le (expo c H 8 (packP (vcRes P T H rs).2)) r
  | .ret => (vcRes P T H rs).1 ∧ Le (expo c H 8 (packP (vcRes P T H rs).2)) r
  | _ => False

mutual
/-- No slice and no string is too long. -/
def wf : PV → Prop
  | .agg cs => wfL cs | .tup cs => wfL cs | .ref cs => wfL cs | .clo _ cs => wfL cs
  | .str s => s.size ≤ lenMax
  | .sl _ es => es.length ≤ lenMax ∧ wfE es
  | _ => True
def wfL : List PV → Prop
  | [] => True
  | p :: r => wf p ∧ wfL r
def wfE : List (List PV) → Prop
  | [] => True
  | e :: r => wfL e ∧ wfE r
end
theorem wfL_of : ∀ (ps : List PV), (∀ i, i < ps.length → wf (ps.getD i .undef)) → wfL ps
  | [], _ => by simp [wfL]
  | p :: r, h => by
    simp only [wfL]
    exact ⟨by simpa using h 0 (by simp), wfL_of r fun i hi => by simpa using h (i + 1) (by simpa using hi)⟩
theorem wfE_of : ∀ (es : List (List PV)), (∀ i, i < es.length → wfL (es.getD i [])) → wfE es
  | [], _ => by simp [wfE]
  | p :: r, h => by
    simp only [wfE]
    exact ⟨by simpa using h 0 (by simp), wfE_of r fun i hi => by simpa using h (i + 1) (by simpa using hi)⟩
theorem RelF.wf {F : Fr} {w : World} {v : Value} {p : PV} (h : RelF F w v p) : wf p := by
  induction h with
  | agg cs ps hn _ ih => simp only [Pv.wf]; exact wfL_of ps ih
  | tup cs ps hn _ ih => simp only [Pv.wf]; exact wfL_of ps ih
  | clo f cs ps hn _ ih => simp only [Pv.wf]; exact wfL_of ps ih
  | ref b off cs f hb hv _ ih => simp only [Pv.wf]; exact wfL_of cs ih
  | str s hs => simp only [Pv.wf]; exact hs
  | sl0 a cap sz => simp [Pv.wf, wfE]
  | sl b off n cap sz es f hb hn hc hL hz hv _ ih =>
    simp only [Pv.wf]
    refine ⟨by omega, wfE_of es fun i hi => wfL_of _ fun j hj => ih i j (by omega) ?_⟩
    rw [hz i (by omega)] at hj; exact hj
  | _ => simp [Pv.wf]
theorem wfE_map {α : Type} (f : α → List PV) (xs : List α) : wfE (xs.map f) = ∀ x, x ∈ xs → wfL (f x) := by
  induction xs with
  | nil => simp [wfE]
  | cons x r ih => simp [wfE, ih]

/-- What is to be shown of a function: its contract. -/
theorem PC.of_vcG {c : Nat → List (List PV) → PV} (hc : RowK c) {P : Program} (hmx : P.follows .mixedOrders = true) (φ : FuncId → List PV → PV) {f : FuncId} {fn : Func} {body : Code} {args : List PV} {r : PV} (hf : P.funcs[f]? = some fn) (hname : (fn.name == "runtime.NumGoroutine") = false) (hb : fn.body = some body) {N L : Nat} (hN : fn.ntmps = N) (hok : okCode N body = true) (hL : args.length = L) (hLN : decide (L ≤ N) = true) {rs : List ResultVar} (hrs : fn.results = rs.toArray)
    (h : wfL args → vc P φ 0 body (endC P c rs r) (argT 0 args) []) : PC P f args r := by
  have hrl : fn.results.toList = rs := by rw [hrs]
  rw [← hrl] at h
  subst hN hL
  have hn : args.length ≤ fn.ntmps := by simpa using hLN
  refine ⟨⟨fn, hf, hname, by rw [hb]; rfl⟩, fun F w vs hF hvs hr => ?_⟩
  have h := h (wfL_of args fun i hi => (hr i hi).wf)
  refine calls_of_wp hf hb ?_
  have hsz : (vs ++ Array.replicate (fn.ntmps - vs.size) Go.undef).size = fn.ntmps := by simp; omega
  have hSR : SR w.heap.size 0 fn.ntmps [] F w (argT 0 args) [] { tmps := vs ++ Array.replicate (fn.ntmps - vs.size) Go.undef, defers := [] } w := by
    refine ⟨[], F, argT_plain _ _, hsz, rfl, fun t ht => ?_, ⟨rfl, fun _ _ _ h => by simp at h, fun _ _ _ h => by simp at h, fun _ _ _ _ _ _ h => by simp at h, hF, Nat.le_refl _⟩, Ext.refl ..⟩
    obtain ⟨hlt, hrel⟩ := argT_rel hr 0 args t rfl ht
    have : (vs ++ Array.replicate (fn.ntmps - vs.size) Go.undef).getD t Go.undef = vs.getD t Go.undef := by
      simp [Array.getD_eq_getD_getElem?, Array.getElem?_append, show t < vs.size by omega]
    refine ⟨fun _ => ?_, (fun e => by rw [argT_plain] at e; simp [holds] at e)⟩
    show RelV [] F w ((vs ++ Array.replicate (fn.ntmps - vs.size) Go.undef).getD t Go.undef) _
    rw [this]; exact .frz hrel
  refine wp_mono (vc_sound hmx body hok _ _ _ _ _ h hSR) ?_
  have fin : ∀ (T : TEnv) (H : Heap) (a : Act) (w' : World), (vcRes P T H fn.results.toList).1 → Le (expo c H 8 (packP (vcRes P T H fn.results.toList).2)) r → SR w.heap.size 0 fn.ntmps [] F w T H a w' →
      a.defers = [] ∧ ∃ v, (results fn a.tmps).run P w' = .ok v w' ∧ ∃ v', Ending.returned v = .returned v' ∧ RelF (fun t b => F t b ∨ (w.heap.size ≤ b ∧ b < w'.heap.size)) w' v' r ∧ Below w.heap.size w w' := by
    rintro T H a w' hres hle ⟨σ, F', s0, s1, s2, s3, s4, s5⟩
    obtain ⟨vs', h1, h2, h3⟩ := vcRes_sound s4 s3 hres
    generalize (vcRes P T H fn.results.toList).2 = ps at hle h1 h2
    refine ⟨s2, _, run_results h3, _, rfl, ?_, s5.below⟩
    have hrel : RelV σ F' w' (if _h : vs'.toArray.size = 1 then vs'.toArray[0] else .tuple vs'.toArray) (packP ps) := by
      match ps, vs', h1, h2 with
      | [p], [v], _, h2 => simpa [packP] using h2 0 (by simp)
      | [], [], _, _ => exact .tup #[] [] rfl fun i hi => by simp at hi
      | p :: q :: ps, u :: v :: vs, h1, h2 =>
        have e : ¬ (u :: v :: vs).toArray.size = 1 := by simp
        rw [dif_neg e]
        refine .tup _ _ (by simpa using h1) fun i hi => ?_
        have := h2 i hi
        simpa [Array.getD_eq_getD_getElem?, List.getD] using this
    have := (expo_rel s4 hc 8 hrel).le hle
    refine this.frameT (fun tt b hbT hb => ?_) (fun _ _ => rfl)
    have hlt : b < w'.heap.size := by
      rcases hbT with hb' | ⟨h, x, k, hb', e, hk, hd⟩
      · exact s4.old b hb'
      · exact e ▸ (s4.big h x k hb' hk hd).2
    rcases hb with hb | ⟨h, x, k, hb, rfl, hk, hd⟩
    · rcases s5.sup _ b hb with h | h
      · exact .inl h
      · exact .inr ⟨h, hlt⟩
    · exact .inr (s4.big h x k hb hk hd)
  rintro e a w' ⟨T, H, hq, hs⟩
  cases e with
  | normal => exact fin T H a w' hq.1 hq.2 hs
  | ret => exact fin T H a w' hq.1 hq.2 hs
  | _ => exact hq.elim

theorem PC.of_vc {P : Program} (hmx : P.follows .mixedOrders = true) (φ : FuncId → List PV → PV) {f : FuncId} {fn : Func} {body : Code} {args : List PV} {r : PV} (hf : P.funcs[f]? = some fn) (hname : (fn.name == "runtime.NumGoroutine") = false) (hb : fn.body = some body) {N L : Nat} (hN : fn.ntmps = N) (hok : okCode N body = true) (hL : args.length = L) (hLN : decide (L ≤ N) = true) {rs : List ResultVar} (hrs : fn.results = rs.toArray)
    (h : wfL args → vc P φ 0 body (endC P .sl rs r) (argT 0 args) []) : PC P f args r :=
  PC.of_vcG rowK_sl hmx φ hf hname hb hN hok hL hLN hrs h
/-- The same; its own rows are told as new ones. -/
theorem PC.of_vcF {P : Program} (hmx : P.follows .mixedOrders = true) (φ : FuncId → List PV → PV) {f : FuncId} {fn : Func} {body : Code} {args : List PV} {r : PV} (hf : P.funcs[f]? = some fn) (hname : (fn.name == "runtime.NumGoroutine") = false) (hb : fn.body = some body) {N L : Nat} (hN : fn.ntmps = N) (hok : okCode N body = true) (hL : args.length = L) (hLN : decide (L ≤ N) = true) {rs : List ResultVar} (hrs : fn.results = rs.toArray)
    (h : wfL args → vc P φ 0 body (endC P .fs rs r) (argT 0 args) []) : PC P f args r :=
  PC.of_vcG rowK_fs hmx φ hf hname hb hN hok hL hLN hrs h

end Go.Pv

namespace Go.Pv
section
variable {P : Program} {φ : FuncId → List PV → PV} {base : Nat} {Q : Exit → TEnv → Heap → Prop} {T : TEnv} {H : Heap}

/-- Behind an operation: what it asks, then the rest. -/
def vcGo (P : Program) (φ : FuncId → List PV → PV) (r : Res) (d : Option Tmp) (c : Cond) (T : TEnv) (rest : List POp) (K : TEnv → Heap → Prop) : Prop :=
  r.s ∧ vcOps P φ rest (putT T d c r.p) r.H K
theorem vcGo_mk (s : Prop) (p : PV) (H' : Heap) (d : Option Tmp) (c : Cond) (rest : List POp) (K : TEnv → Heap → Prop) :
    vcGo P φ ⟨s, p, H'⟩ d c T rest K = (s ∧ vcOps P φ rest (putT T d c p) H' K) := rfl
theorem vcOps_nil (K : TEnv → Heap → Prop) : vcOps P φ [] T H K = K (endT T) H := rfl
theorem vcOps_cons (d : Option Tmp) (o : Op) (r : List POp) (K : TEnv → Heap → Prop) : vcOps P φ ((d, o, none) :: r) T H K = vcGo P φ (vStep P φ o T [] H) d [] T r K := by
  show (gS T none = true ∧ _) = _
  simp [gS, gC, vcGo, vNext]
/-- An operation under a guard. -/
def vcGd (P : Program) (φ : FuncId → List PV → PV) (x : TV) (t : Nat) (b : Bool) (o : Op) (d : Option Tmp) (T : TEnv) (H : Heap) (rest : List POp) (K : TEnv → Heap → Prop) : Prop :=
  match x with
  | ⟨true, c, .bool _⟩ => vcGo P φ (vStep P φ o T ((t, b) :: c) H) d ((t, b) :: c) T rest K
  | _ => False
theorem vcOps_guard (d : Option Tmp) (o : Op) (t : Tmp) (b : Bool) (r : List POp) (K : TEnv → Heap → Prop) : vcOps P φ ((d, o, some (some t, b)) :: r) T H K = vcGd P φ (tg T t) t b o d T H r K := by
  show (gS T (some (some t, b)) = true ∧ _) = _
  unfold vcGd
  split
  · rename_i c p h
    simp [gS, gC, h, isB, vcGo, vNext]
  · rename_i hn
    simp only [gS, eq_iff_iff, iff_false, not_and, Bool.and_eq_true]
    rintro ⟨h1, h2⟩
    rcases hx : tg T t with ⟨ok, c, p⟩
    rw [hx] at h1 h2
    simp only at h1 h2
    subst h1
    cases p <;> simp [isB] at h2
    exact (hn _ _ hx).elim
theorem vc_region (id : Nat) (ops : Array Oper) : vc P φ base (.region id ops false) Q T H = vcReg P φ (prep ops) T H (Q .normal) := rfl
theorem vcReg_nil (K : TEnv → Heap → Prop) : vcReg P φ [] T H K = K (endT T) H := rfl
theorem vcReg_cons (d : Option Tmp) (o : Op) (g : Option (Option Tmp × Bool)) (r : List POp) (K : TEnv → Heap → Prop) : vcReg P φ ((d, o, g) :: r) T H K = bif nextB o then vcNx P φ (nextX o) d g r T H K else vcOps P φ ((d, o, g) :: r) T H K := rfl
theorem vc_draw (id : Nat) (ops : Array Oper) : vc P φ base (.region id ops true) Q T H = vcDr P φ (prep ops) T H (Q .normal) := rfl
theorem prep_mk (l : List Oper) : prep l.toArray = l.map (prepO l.toArray) := by simp [prep]
theorem prepO_none (ops : Array Oper) (d : Option Tmp) (o : Op) (t : TypeId) (p : String) (a : Array Edge) : prepO ops ⟨d, o, t, p, a, none⟩ = (d, o, none) := rfl
theorem prepO_some (ops : Array Oper) (d : Option Tmp) (o : Op) (t : TypeId) (p : String) (a : Array Edge) (j : Nat) (b : Bool) : prepO ops ⟨d, o, t, p, a, some (j, b)⟩ = (d, o, some ((ops[j]?).bind (·.dst), b)) := rfl
theorem opv_tmp (t : Tmp) : opv T (.tmp t) = tg T t := rfl
theorem opv_int (k : IntKind) (n : Int) : opv T (.const (.int k n)) = ⟨true, [], .int k n⟩ := rfl
theorem opv_bool (b : Bool) : opv T (.const (.bool b)) = ⟨true, [], .bool b⟩ := rfl
theorem opv_str : opv T (.const (.string ⟨#[]⟩)) = ⟨true, [], .str ⟨#[]⟩⟩ := by
  have : (ByteArray.size ⟨#[]⟩ ≤ lenMax) := Nat.zero_le _
  simp [opv, constP, this]
theorem opv_nil : opv T (.const (.slice none 0 0)) = ⟨true, [], .nil⟩ := rfl
theorem opv_func (f : FuncId) : opv T (.func f) = ⟨true, [], .clo f []⟩ := rfl
theorem tg_cons (t : Nat) (c : Cond) (p : PV) (r : TEnv) (u : Nat) : tg ((t, c, p) :: r) u = if t = u then ⟨true, c, p⟩ else tg r u := rfl
theorem pickP_bool (t a b : Bool) : pickP t (.bool a) (.bool b) = .bool (bif t then a else b) := rfl

def r1 (x : TV) (c : Cond) (f : PV → Res) : Res := match x with
  | ⟨ok, l, p⟩ => withOk (okC ⟨ok, l, p⟩ c) (f p)
variable (c : Cond) (x y z : Operand)
theorem vs_move : vStep P φ (.move x) T c H = ⟨(okC (opv T x) c && true) = true ∧ True, (opv T x).p, H⟩ := rfl
theorem vs_assign : vStep P φ (.assign x) T c H = ⟨(okC (opv T x) c && true) = true ∧ True, (opv T x).p, H⟩ := rfl
theorem vs_pick : vStep P φ (.pick x y z) T c H = rPick T c x y z H := rfl
theorem vs_alloc (e : TypeId) : vStep P φ (.alloc e) T c H = withOk true (rAlloc P e (holds T c) H) := rfl
theorem vs_box (e : TypeId) : vStep P φ (.box e x) T c H = withOk (okC (opv T x) c && true) (rBox P e (holds T c) (opv T x).p H) := rfl
theorem vs_load (t : TypeId) : vStep P φ (.load t x) T c H = withOk (okC (opv T x) c && true) (rLoad P t (holds T c) (opv T x).p H) := rfl
theorem vs_store (t : TypeId) : vStep P φ (.store t x y) T c H = withOk (okC (opv T x) c && (okC (opv T y) c && true)) (rStore P t (holds T c) (opv T x).p (opv T y).p H) := rfl
theorem vs_binOp (op : BinOp) (t t' : TypeId) : vStep P φ (.binOp op t x y t') T c H = withOk (okC (opv T x) c && (okC (opv T y) c && true)) (rBinOp P op t (holds T c) (opv T x).p (opv T y).p H) := rfl
theorem vs_not (t : TypeId) : vStep P φ (.unOp .not t x) T c H = withOk (okC (opv T x) c && true) (rNot (opv T x).p H) := rfl
theorem vs_neg (t : TypeId) : vStep P φ (.unOp .neg t x) T c H = withOk (okC (opv T x) c && true) (rNeg (opv T x).p H) := rfl
theorem vs_fieldAddr (s : TypeId) (f : Nat) : vStep P φ (.fieldAddr s x f) T c H = withOk (okC (opv T x) c && true) (rFieldAddr P s f (holds T c) (opv T x).p H) := rfl
theorem vs_field (s : TypeId) (f : Nat) : vStep P φ (.field s x f) T c H = withOk (okC (opv T x) c && true) (rField P s f (holds T c) (opv T x).p H) := rfl
theorem vs_indexAddr (t : TypeId) : vStep P φ (.indexAddr t x y) T c H = withOk (okC (opv T x) c && (okC (opv T y) c && true)) (rIndexAddr P t (holds T c) (opv T x).p (opv T y).p H) := rfl
theorem vs_index (t : TypeId) : vStep P φ (.index t x y) T c H = withOk (okC (opv T x) c && (okC (opv T y) c && true)) (rIndex P t (holds T c) (opv T x).p (opv T y).p H) := rfl
theorem vs_extract (n : Nat) : vStep P φ (.extract x n) T c H = withOk (okC (opv T x) c && true) (rExtract n (holds T c) (opv T x).p H) := rfl
theorem vs_makeSlice (t : TypeId) : vStep P φ (.makeSlice t x y) T c H = withOk (okC (opv T x) c && (okC (opv T y) c && true)) (rMake P t (holds T c) (opv T x).p (opv T y).p H) := rfl
theorem vs_buildSlice (t : TypeId) (len : Nat) (parts : List (Nat × Operand)) : vStep P φ (.buildSlice t len parts.toArray) T c H = withOk (argsOk T c (parts.map (·.2))) (rBuildSlice P t len (parts.map (·.1)) (holds T c) (argsP T (parts.map (·.2))) H) := by
  have e : (Op.buildSlice t len parts.toArray).operands.toList = parts.map (·.2) := by simp [Op.operands]
  simp [vStep, rOp, e]
theorem vs_build (t : TypeId) (parts : List (Nat × Operand)) : vStep P φ (.build t parts.toArray) T c H = withOk (argsOk T c (parts.map (·.2))) (rBuild P t (parts.map (·.1)) (argsP T (parts.map (·.2))) H) := by
  have e : (Op.build t parts.toArray).operands.toList = parts.map (·.2) := by simp [Op.operands]
  simp [vStep, rOp, e]
theorem vs_makeFunc (f : FuncId) (caps : List Operand) : vStep P φ (.makeFunc (.func f) #[] caps.toArray) T c H = ⟨argsOk T c caps = true ∧ (#[] : Array TypeId) = #[], .clo f (argsP T caps), H⟩ := by
  have e : (Op.makeFunc (.func f) #[] caps.toArray).operands.toList = caps := by simp [Op.operands]
  simp [vStep, rOp, e, withOk]
theorem vs_slice (t : TypeId) : vStep P φ (.slice t x (some y) none none) T c H = withOk (okC (opv T x) c && (okC (opv T y) c && true)) (rSlice P t (holds T c) (opv T x).p (opv T y).p H) := rfl
theorem vs_len (t : TypeId) : vStep P φ (.call ⟨.builtin .len, #[x], #[t]⟩) T c H = withOk (okC (opv T x) c && true) (rLen P t (opv T x).p H) := rfl
theorem vs_append (t t' : TypeId) : vStep P φ (.call ⟨.builtin .append, #[x, y], #[t, t']⟩) T c H = withOk (okC (opv T x) c && (okC (opv T y) c && true)) (rAppend P t t' (holds T c) (opv T x).p (opv T y).p H) := rfl
theorem vs_call (f : Operand) (args : List Operand) (ts : Array TypeId) : vStep P φ (.call ⟨.value f, args.toArray, ts⟩) T c H = withOk (okC (opv T f) c && argsOk T c args) (rCall P φ (holds T c) (opv T f).p (argsP T args) H) := by
  have e : (Op.call ⟨.value f, args.toArray, ts⟩).operands.toList = f :: args := by simp [Op.operands, Call.operands]
  simp [vStep, rOp, e, argsOk, argsP]
theorem vs_makeMap (t : TypeId) : vStep P φ (.makeMap t none) T c H = withOk true (rMakeMap P t (holds T c) H) := rfl
theorem vs_lookup (t : TypeId) : vStep P φ (.lookup t x y false) T c H = withOk (okC (opv T x) c && (okC (opv T y) c && true)) (rLookup P t (opv T x).p (opv T y).p H) := rfl
theorem vs_mapEntry (t : TypeId) : vStep P φ (.mapEntry t x y) T c H = withOk (okC (opv T x) c && (okC (opv T y) c && true)) (rMapEntry P t (holds T c) (opv T x).p (opv T y).p H) := rfl
theorem vs_entryStore (t : TypeId) : vStep P φ (.entryStore t x y z) T c H = withOk (okC (opv T x) c && (okC (opv T y) c && (okC (opv T z) c && true))) (rEntryStore (holds T c) (opv T x).p (opv T y).p (opv T z).p H) := rfl
theorem vs_mapUpdate (t : TypeId) : vStep P φ (.mapUpdate t x y z) T c H = withOk (okC (opv T x) c && (okC (opv T y) c && (okC (opv T z) c && true))) (rMapUpdate P t (holds T c) (opv T x).p (opv T y).p (opv T z).p H) := rfl
theorem vs_insert (t : TypeId) : vStep P φ (.insert t x y z) T c H = withOk (okC (opv T x) c && (okC (opv T y) c && (okC (opv T z) c && true))) (rMapUpdate P t (holds T c) (opv T x).p (opv T y).p (opv T z).p H) := rfl
theorem vs_range (t : TypeId) : vStep P φ (.range t x) T c H = withOk (okC (opv T x) c && true) (rRange P t (holds T c) (opv T x).p H) := rfl
theorem vs_entry : vStep P φ (.entry x) T c H = withOk (okC (opv T x) c && true) (rEntry (holds T c) (opv T x).p H) := rfl
theorem withOk_mk (b : Bool) (s : Prop) (p : PV) (H : Heap) : withOk b ⟨s, p, H⟩ = ⟨b = true ∧ s, p, H⟩ := rfl
end

section
variable {P : Program} {φ : FuncId → List PV → PV} {T : TEnv} {H : Heap} {X : List Blk} {K : List POp → TEnv → Heap → Prop}
/-- The tail of a drawing region. -/
def tailC (P : Program) (φ : FuncId → List PV → PV) (K : TEnv → Heap → Prop) (rest : List POp) (T : TEnv) (H : Heap) : Prop := vcOps P φ rest T H K
theorem vcDraw_eq (l : List POp) (K : TEnv → Heap → Prop) : vcDraw P φ l T H K = vcHead P φ H (tailC P φ K) l ⟨T, []⟩ := rfl
theorem vcHead_nil : vcHead P φ H K [] ⟨T, X⟩ = K [] T (H ++ X) := rfl
/-- Behind an operation of the head. -/
def vcHq (P : Program) (φ : FuncId → List PV → PV) (r : Res) (d : Option Tmp) (c : Cond) (T : TEnv) (X : List Blk) (H : Heap) (rest : List POp) (K : List POp → TEnv → Heap → Prop) : Prop :=
  r.s ∧ vcHead P φ H K rest ⟨putT T d c r.p, X⟩
def vcHn (P : Program) (φ : FuncId → List PV → PV) (r : Res) (d : Option Tmp) (T : TEnv) (X : List Blk) (H : Heap) (rest : List POp) (K : List POp → TEnv → Heap → Prop) : Prop :=
  r.s ∧ vcHead P φ H K rest ⟨putT T d [] (ren (H.length + X.length) r.p), X ++ r.H.drop H.length⟩
theorem vcHq_mk (s : Prop) (p : PV) (H' : Heap) (d : Option Tmp) (c : Cond) (rest : List POp) : vcHq P φ ⟨s, p, H'⟩ d c T X H rest K = (s ∧ vcHead P φ H K rest ⟨putT T d c p, X⟩) := rfl
theorem vcHn_mk (s : Prop) (p : PV) (H' : Heap) (d : Option Tmp) (rest : List POp) : vcHn P φ ⟨s, p, H'⟩ d T X H rest K = (s ∧ vcHead P φ H K rest ⟨putT T d [] (ren (H.length + X.length) p), X ++ H'.drop H.length⟩) := rfl
theorem vcHead_tail (d : Option Tmp) (o : Op) (g : Option (Option Tmp × Bool)) (r : List POp) (h : headB o = false) : vcHead P φ H K ((d, o, g) :: r) ⟨T, X⟩ = K ((d, o, g) :: r) T (H ++ X) := by
  simp [vcHead, h]
theorem vcHead_q (d : Option Tmp) (o : Op) (r : List POp) (h : quietB o = true) (h' : headB o = true) (hn : newB o = false) : vcHead P φ H K ((d, o, none) :: r) ⟨T, X⟩ = vcHq P φ (vStep P φ o T [] H) d [] T X H r K := by
  have hH : (vStep P φ o T [] H).H = H := vStep_quiet h
  simp [vcHead, h', hcond, gS, gC, hn, hres, hnext, hval, vcHq, hH]
theorem vcHead_n (d : Option Tmp) (o : Op) (r : List POp) (h' : headB o = true) (hn : newB o = true) : vcHead P φ H K ((d, o, none) :: r) ⟨T, X⟩ = vcHn P φ (vStep P φ o T [] H) d T X H r K := by
  simp [vcHead, h', hcond, gS, gC, hn, hres, hnext, hval, vcHn, isNone]
def vcHg (P : Program) (φ : FuncId → List PV → PV) (x : TV) (t : Nat) (b : Bool) (o : Op) (d : Option Tmp) (T : TEnv) (X : List Blk) (H : Heap) (rest : List POp) (K : List POp → TEnv → Heap → Prop) : Prop :=
  match x with
  | ⟨true, c, .bool _⟩ => vcHq P φ (vStep P φ o T ((t, b) :: c) H) d ((t, b) :: c) T X H rest K
  | _ => False
theorem vcHead_g (d : Option Tmp) (o : Op) (t : Tmp) (b : Bool) (r : List POp) (h : quietB o = true) (h' : headB o = true) (hn : newB o = false) : vcHead P φ H K ((d, o, some (some t, b)) :: r) ⟨T, X⟩ = vcHg P φ (tg T t) t b o d T X H r K := by
  have hH : ∀ c, (vStep P φ o T c H).H = H := fun c => vStep_quiet h
  simp only [vcHead, h', if_true, hcond, hres, hnext, hval, hn, Bool.false_eq_true, if_false, hH, List.drop_length, List.append_nil, false_implies, true_and]
  unfold vcHg
  split
  · rename_i c p h
    simp [gS, gC, h, isB, vcHq]
  · rename_i hne
    have hg : gS T (some (some t, b)) = false := by
      rcases hx : tg T t with ⟨ok, c, p⟩
      cases ok
      · simp [gS, hx]
      · cases p <;> first | (simp [gS, hx, isB]; done) | exact (hne _ _ hx).elim
    simp [hg]

/-- How an operation of a drawing region is taken. -/
inductive Kd where
  | t | q | n
def kindB (o : Op) : Kd := if newB o = true then .n else if headB o = true then .q else .t
def vcHk (P : Program) (φ : FuncId → List PV → PV) (k : Kd) (d : Option Tmp) (o : Op) (g : Option (Option Tmp × Bool)) (T : TEnv) (X : List Blk) (H : Heap) (r : List POp) (K : List POp → TEnv → Heap → Prop) : Prop :=
  match k, g with
  | .n, none => vcHn P φ (vStep P φ o T [] H) d T X H r K
  | .q, none => vcHq P φ (vStep P φ o T [] H) d [] T X H r K
  | .q, some (some t, b) => vcHg P φ (tg T t) t b o d T X H r K
  | .t, g => K ((d, o, g) :: r) T (H ++ X)
  | _, _ => False
theorem quiet_of_head {o : Op} (h1 : headB o = true) (h2 : newB o = false) : quietB o = true := by
  simpa [headB, h2] using h1
theorem vcHead_cons (d : Option Tmp) (o : Op) (g : Option (Option Tmp × Bool)) (r : List POp) : vcHead P φ H K ((d, o, g) :: r) ⟨T, X⟩ = vcHk P φ (kindB o) d o g T X H r K := by
  unfold kindB
  cases hn : newB o with
  | true =>
    rw [if_pos rfl]
    have hh : headB o = true := by
      cases o <;> simp [newB] at hn <;> rfl
    cases g with
    | none => rw [vcHead_n d o r hh hn]; rfl
    | some g => simp [vcHead, hh, hcond, hn, isNone, vcHk]
  | false =>
    rw [if_neg (by simp)]
    cases hh : headB o with
    | false =>
      rw [if_neg (by simp), vcHead_tail d o g r hh]
      cases g <;> rfl
    | true =>
      rw [if_pos rfl]
      cases g with
      | none => rw [vcHead_q d o r (quiet_of_head hh hn) hh hn]; rfl
      | some g =>
        obtain ⟨t, b⟩ := g
        cases t with
        | none => simp [vcHead, hh, hcond, gS, vcHk]
        | some t => rw [vcHead_g d o t b r (quiet_of_head hh hn) hh hn]; rfl
theorem vcHk_n (d : Option Tmp) (o : Op) (r : List POp) : vcHk P φ .n d o none T X H r K = vcHn P φ (vStep P φ o T [] H) d T X H r K := rfl
theorem vcHk_q (d : Option Tmp) (o : Op) (r : List POp) : vcHk P φ .q d o none T X H r K = vcHq P φ (vStep P φ o T [] H) d [] T X H r K := rfl
theorem vcHk_g (d : Option Tmp) (o : Op) (t : Tmp) (b : Bool) (r : List POp) : vcHk P φ .q d o (some (some t, b)) T X H r K = vcHg P φ (tg T t) t b o d T X H r K := rfl
theorem vcHk_t (d : Option Tmp) (o : Op) (g : Option (Option Tmp × Bool)) (r : List POp) : vcHk P φ .t d o g T X H r K = K ((d, o, g) :: r) T (H ++ X) := by cases g <;> rfl
theorem tailC_eq (K : TEnv → Heap → Prop) (rest : List POp) (T : TEnv) (H : Heap) : tailC P φ K rest T H = vcOps P φ rest T H K := rfl

variable (x y : Operand) (t u : TypeId) (n : Nat)
theorem kd_move : kindB (.move x) = .q := rfl
theorem kd_assign : kindB (.assign x) = .q := rfl
theorem kd_pick (z : Operand) : kindB (.pick x y z) = .q := rfl
theorem kd_alloc : kindB (.alloc t) = .n := rfl
theorem kd_box : kindB (.box t x) = .t := rfl
theorem kd_load : kindB (.load t x) = .q := rfl
theorem kd_store : kindB (.store t x y) = .t := rfl
theorem kd_binOp (op : BinOp) : kindB (.binOp op t x y u) = .q := rfl
theorem kd_unOp (op : UnOp) : kindB (.unOp op t x) = .q := rfl
theorem kd_fieldAddr : kindB (.fieldAddr t x n) = .q := rfl
theorem kd_field : kindB (.field t x n) = .q := rfl
theorem kd_indexAddr : kindB (.indexAddr t x y) = .q := rfl
theorem kd_index : kindB (.index t x y) = .q := rfl
theorem kd_extract : kindB (.extract x n) = .q := rfl
theorem kd_makeSlice : kindB (.makeSlice t x y) = .n := rfl
theorem kd_buildSlice (p : Array (Nat × Operand)) : kindB (.buildSlice t n p) = .t := rfl
theorem kd_build (p : Array (Nat × Operand)) : kindB (.build t p) = .q := rfl
theorem kd_makeFunc (f : Fn) (a p : Array Operand) : kindB (.makeFunc f a p) = .q := rfl
theorem kd_slice (a b c : Option Operand) : kindB (.slice t x a b c) = .q := rfl
theorem kd_call (f : Operand) (a : Array Operand) (ts : Array TypeId) : kindB (.call ⟨.value f, a, ts⟩) = .q := rfl
theorem kd_len (a : Array Operand) (ts : Array TypeId) : kindB (.call ⟨.builtin .len, a, ts⟩) = .q := rfl
theorem kd_append (a : Array Operand) (ts : Array TypeId) : kindB (.call ⟨.builtin .append, a, ts⟩) = .t := rfl
theorem kd_makeMap (r : Option Operand) : kindB (.makeMap t r) = .t := rfl
theorem kd_lookup (b : Bool) : kindB (.lookup t x y b) = .q := rfl
theorem kd_mapEntry : kindB (.mapEntry t x y) = .t := rfl
theorem kd_entryStore (z : Operand) : kindB (.entryStore t x y z) = .t := rfl
theorem kd_mapUpdate (z : Operand) : kindB (.mapUpdate t x y z) = .t := rfl
theorem kd_insert (z : Operand) : kindB (.insert t x y z) = .t := rfl
theorem kd_range : kindB (.range t x) = .t := rfl
theorem kd_entry : kindB (.entry x) = .q := rfl
theorem nb_move : nextB (.move x) = false := rfl
theorem nb_assign : nextB (.assign x) = false := rfl
theorem nb_pick (z : Operand) : nextB (.pick x y z) = false := rfl
theorem nb_alloc : nextB (.alloc t) = false := rfl
theorem nb_box : nextB (.box t x) = false := rfl
theorem nb_load : nextB (.load t x) = false := rfl
theorem nb_store : nextB (.store t x y) = false := rfl
theorem nb_binOp (op : BinOp) : nextB (.binOp op t x y u) = false := rfl
theorem nb_unOp (op : UnOp) : nextB (.unOp op t x) = false := rfl
theorem nb_fieldAddr : nextB (.fieldAddr t x n) = false := rfl
theorem nb_field : nextB (.field t x n) = false := rfl
theorem nb_indexAddr : nextB (.indexAddr t x y) = false := rfl
theorem nb_index : nextB (.index t x y) = false := rfl
theorem nb_extract : nextB (.extract x n) = false := rfl
theorem nb_makeSlice : nextB (.makeSlice t x y) = false := rfl
theorem nb_buildSlice (p : Array (Nat × Operand)) : nextB (.buildSlice t n p) = false := rfl
theorem nb_build (p : Array (Nat × Operand)) : nextB (.build t p) = false := rfl
theorem nb_makeFunc (f : Fn) (a p : Array Operand) : nextB (.makeFunc f a p) = false := rfl
theorem nb_slice (a b c : Option Operand) : nextB (.slice t x a b c) = false := rfl
theorem nb_call (c : Call) : nextB (.call c) = false := rfl
theorem nb_makeMap (r : Option Operand) : nextB (.makeMap t r) = false := rfl
theorem nb_lookup (b : Bool) : nextB (.lookup t x y b) = false := rfl
theorem nb_mapEntry : nextB (.mapEntry t x y) = false := rfl
theorem nb_entryStore (z : Operand) : nextB (.entryStore t x y z) = false := rfl
theorem nb_mapUpdate (z : Operand) : nextB (.mapUpdate t x y z) = false := rfl
theorem nb_insert (z : Operand) : nextB (.insert t x y z) = false := rfl
theorem nb_range : nextB (.range t x) = false := rfl
theorem nb_entry : nextB (.entry x) = false := rfl
theorem nb_next (b : Bool) : nextB (.next x b) = true := rfl
theorem nx_next (s : Tmp) (b : Bool) : nextX (.next (.tmp s) b) = some (s, b) := rfl
end

inductive Ke where
  | t | q | n | e
def kindE (o : Op) : Ke := if entB o = true then .e else if nwB o = true then .n else if headB o = true then .q else .t
section
variable {P : Program} {φ : FuncId → List PV → PV} {T : TEnv} {H H' : Heap} {X : List Blk} {K : TEnv → Heap → Prop} {pm : PV} {d : Option Tmp} {o : Op} {g : Option (Option Tmp × Bool)} {r : List POp}
theorem vcDr_eq (l : List POp) : vcDr P φ l T H K = vcDk P φ (isEnt l) l T H K := rfl
theorem vcDk_t (l : List POp) : vcDk P φ true l T H K = vcDl P φ (isLate l) l T H K := rfl
theorem vcDl_f (l : List POp) : vcDl P φ false l T H K = vcEnt P φ (ordE l) T H K := rfl
theorem vcDl_t (l : List POp) : vcDl P φ true l T H K = (vcE P φ H (entR P φ H (ordE l) ⟨T, []⟩).H (entR P φ H (ordE l) ⟨T, []⟩).p K (ordE l) ⟨T, []⟩ ∧ vcE P φ H (entR P φ H (ordE l) ⟨T, []⟩).H (entR P φ H (ordE l) ⟨T, []⟩).p K l ⟨T, []⟩) := rfl
def ilA (b : Bool) (r : List POp) : Bool := match b with | true => anyHd r | false => false
def ilK (k : Ke) (b : Bool) (r : List POp) : Bool := match k with | .t => ilA b r | _ => isLate r
def ahK (k : Ke) (r : List POp) : Bool := match k with | .t => anyHd r | _ => true
theorem isL_nil : isLate [] = false := rfl
theorem anyHd_nil : anyHd [] = false := rfl
theorem isL_cons : isLate ((d, o, g) :: r) = ilK (kindE o) (appB o) r := by
  simp only [isLate, hdE, kindE]
  cases entB o <;> cases nwB o <;> cases headB o <;> cases appB o <;> rfl
theorem anyHd_cons : anyHd ((d, o, g) :: r) = ahK (kindE o) r := by
  simp only [anyHd, hdE, kindE]
  cases entB o <;> cases nwB o <;> cases headB o <;> rfl
theorem ilK_e (b : Bool) : ilK .e b r = isLate r := rfl
theorem ilK_q (b : Bool) : ilK .q b r = isLate r := rfl
theorem ilK_n (b : Bool) : ilK .n b r = isLate r := rfl
theorem ilK_t (b : Bool) : ilK .t b r = ilA b r := rfl
theorem ilA_t : ilA true r = anyHd r := rfl
theorem ilA_f : ilA false r = false := rfl
theorem ahK_e : ahK .e r = true := rfl
theorem ahK_q : ahK .q r = true := rfl
theorem ahK_n : ahK .n r = true := rfl
theorem ahK_t : ahK .t r = anyHd r := rfl

theorem vcDk_f (l : List POp) : vcDk P φ false l T H K = vcDraw P φ l T H K := rfl
def isK (k : Ke) (r : List POp) : Bool := match k with | .e => true | _ => isEnt r
theorem isE_nil : isEnt [] = false := rfl
theorem isE_cons : isEnt ((d, o, g) :: r) = isK (kindE o) r := by
  unfold kindE isEnt
  cases entB o <;> simp [isK]
  cases nwB o <;> cases headB o <;> rfl
theorem isK_e : isK .e r = true := rfl
theorem isK_q : isK .q r = isEnt r := rfl
theorem isK_n : isK .n r = isEnt r := rfl
theorem isK_t : isK .t r = isEnt r := rfl
theorem ordE_eq (l : List POp) : ordE l = hdL l ++ tlL l := rfl
def hdK (k : Ke) (d : Option Tmp) (o : Op) (r : List POp) : List POp := match k with | .t => r | _ => (d, o, none) :: r
def tlK (k : Ke) (d : Option Tmp) (o : Op) (r : List POp) : List POp := match k with | .t => (d, o, none) :: r | _ => r
theorem hdL_nil : hdL [] = [] := rfl
theorem tlL_nil : tlL [] = [] := rfl
theorem hdL_cons : hdL ((d, o, g) :: r) = hdK (kindE o) d o (hdL r) := by
  simp only [hdL, hdE, kindE]
  cases entB o <;> cases nwB o <;> cases headB o <;> rfl
theorem tlL_cons : tlL ((d, o, g) :: r) = tlK (kindE o) d o (tlL r) := by
  simp only [tlL, hdE, kindE]
  cases entB o <;> cases nwB o <;> cases headB o <;> rfl
theorem hdK_e : hdK .e d o r = (d, o, none) :: r := rfl
theorem hdK_q : hdK .q d o r = (d, o, none) :: r := rfl
theorem hdK_n : hdK .n d o r = (d, o, none) :: r := rfl
theorem hdK_t : hdK .t d o r = r := rfl
theorem tlK_e : tlK .e d o r = r := rfl
theorem tlK_q : tlK .q d o r = r := rfl
theorem tlK_n : tlK .n d o r = r := rfl
theorem tlK_t : tlK .t d o r = (d, o, none) :: r := rfl
theorem vcEnt_eq (l : List POp) : vcEnt P φ l T H K = vcE P φ H (entR P φ H l ⟨T, []⟩).H (entR P φ H l ⟨T, []⟩).p K l ⟨T, []⟩ := rfl
theorem vcE_nil : vcE P φ H H' pm K [] ⟨T, X⟩ = K (endT T) (H' ++ X) := rfl
def vcEe (P : Program) (φ : FuncId → List PV → PV) (H H' : Heap) (pm : PV) (K : TEnv → Heap → Prop) (x : Res) (d : Option Tmp) (T : TEnv) (X : List Blk) (r : List POp) : Prop :=
  (x.s ∧ x.p = pm ∧ x.H = H') ∧ vcE P φ H H' pm K r ⟨putT T d [] pm, X⟩
def vcEq (P : Program) (φ : FuncId → List PV → PV) (H H' : Heap) (pm : PV) (K : TEnv → Heap → Prop) (x x' : Res) (d : Option Tmp) (T : TEnv) (X : List Blk) (r : List POp) : Prop :=
  (x.s ∧ x'.s ∧ x'.p = x.p) ∧ vcE P φ H H' pm K r ⟨putT T d [] x.p, X⟩
def vcEn (P : Program) (φ : FuncId → List PV → PV) (H H' : Heap) (pm : PV) (K : TEnv → Heap → Prop) (x x' : Res) (b : Bool) (d : Option Tmp) (T : TEnv) (X : List Blk) (r : List POp) : Prop :=
  (x.s ∧ x'.s ∧ b = true ∧ ren (H.length + X.length) x'.p = ren (H.length + X.length) x.p ∧ x'.H.drop H'.length = x.H.drop H.length) ∧ vcE P φ H H' pm K r ⟨putT T d [] (ren (H.length + X.length) x.p), X ++ x.H.drop H.length⟩
theorem vcEe_mk (s : Prop) (p : PV) (H1 : Heap) : vcEe P φ H H' pm K ⟨s, p, H1⟩ d T X r = ((s ∧ p = pm ∧ H1 = H') ∧ vcE P φ H H' pm K r ⟨putT T d [] pm, X⟩) := rfl
theorem vcEq_mk (s s' : Prop) (p p' : PV) (H1 H2 : Heap) : vcEq P φ H H' pm K ⟨s, p, H1⟩ ⟨s', p', H2⟩ d T X r = ((s ∧ s' ∧ p' = p) ∧ vcE P φ H H' pm K r ⟨putT T d [] p, X⟩) := rfl
theorem vcEn_mk (s s' : Prop) (p p' : PV) (H1 H2 : Heap) (b : Bool) : vcEn P φ H H' pm K ⟨s, p, H1⟩ ⟨s', p', H2⟩ b d T X r = ((s ∧ s' ∧ b = true ∧ ren (H.length + X.length) p' = ren (H.length + X.length) p ∧ H2.drop H'.length = H1.drop H.length) ∧ vcE P φ H H' pm K r ⟨putT T d [] (ren (H.length + X.length) p), X ++ H1.drop H.length⟩) := rfl
def vcEk (P : Program) (φ : FuncId → List PV → PV) (H H' : Heap) (pm : PV) (K : TEnv → Heap → Prop) (k : Ke) (d : Option Tmp) (o : Op) (T : TEnv) (X : List Blk) (r : List POp) : Prop := match k with
  | .e => vcEe P φ H H' pm K (vStep P φ o T [] H) d T X r
  | .q => vcEq P φ H H' pm K (vStep P φ o T [] H) (vStep P φ o T [] H') d T X r
  | .n => vcEn P φ H H' pm K (vStep P φ o T [] H) (vStep P φ o T [] H') (hfB T o) d T X r
  | .t => vcOps P φ ((d, o, none) :: r) T (H' ++ X) K
theorem vcE_cons : vcE P φ H H' pm K ((d, o, none) :: r) ⟨T, X⟩ = vcEk P φ H H' pm K (kindE o) d o T X r := by
  rcases Bool.eq_false_or_eq_true (entB o) with he | he
  · have hn : nwB o = false := by cases o <;> simp [entB] at he <;> rfl
    have hk : kindE o = .e := by simp [kindE, he]
    have hh : hdE o = true := by simp [hdE, he]
    rw [hk]
    simp only [vcE, hh, if_true, eCond, he, eNext, eVal, eNew, hn, vcEk, vcEe, Bool.false_eq_true, if_false, List.append_nil]
  · rcases Bool.eq_false_or_eq_true (nwB o) with hn | hn
    · have hk : kindE o = .n := by simp [kindE, he, hn]
      have hh : hdE o = true := by simp [hdE, hn]
      rw [hk]
      simp only [vcE, hh, if_true, eCond, he, eNext, eVal, eNew, hn, vcEk, vcEn, Bool.false_eq_true, if_false]
    · rcases Bool.eq_false_or_eq_true (headB o) with hb | hb
      · have hk : kindE o = .q := by simp [kindE, he, hn, hb]
        have hh : hdE o = true := by simp [hdE, hb]
        rw [hk]
        simp only [vcE, hh, if_true, eCond, he, eNext, eVal, eNew, hn, vcEk, vcEq, Bool.false_eq_true, if_false, List.append_nil]
      · have hk : kindE o = .t := by simp [kindE, he, hn, hb]
        have hh : hdE o = false := by simp [hdE, he, hn, hb]
        rw [hk]
        simp only [vcE, hh, vcEk, Bool.false_eq_true, if_false]
theorem vcEk_e : vcEk P φ H H' pm K .e d o T X r = vcEe P φ H H' pm K (vStep P φ o T [] H) d T X r := rfl
theorem vcEk_q : vcEk P φ H H' pm K .q d o T X r = vcEq P φ H H' pm K (vStep P φ o T [] H) (vStep P φ o T [] H') d T X r := rfl
theorem vcEk_n : vcEk P φ H H' pm K .n d o T X r = vcEn P φ H H' pm K (vStep P φ o T [] H) (vStep P φ o T [] H') (hfB T o) d T X r := rfl
theorem vcEk_t : vcEk P φ H H' pm K .t d o T X r = vcOps P φ ((d, o, none) :: r) T (H' ++ X) K := rfl
def enQ (P : Program) (φ : FuncId → List PV → PV) (x : Res) (d : Option Tmp) (T : TEnv) (X : List Blk) (H : Heap) (r : List POp) : Res := entR P φ H r ⟨putT T d [] x.p, X⟩
def enN (P : Program) (φ : FuncId → List PV → PV) (x : Res) (d : Option Tmp) (T : TEnv) (X : List Blk) (H : Heap) (r : List POp) : Res := entR P φ H r ⟨putT T d [] (ren (H.length + X.length) x.p), X ++ x.H.drop H.length⟩
theorem enQ_mk (s : Prop) (p : PV) (H1 : Heap) : enQ P φ ⟨s, p, H1⟩ d T X H r = entR P φ H r ⟨putT T d [] p, X⟩ := rfl
theorem enN_mk (s : Prop) (p : PV) (H1 : Heap) : enN P φ ⟨s, p, H1⟩ d T X H r = entR P φ H r ⟨putT T d [] (ren (H.length + X.length) p), X ++ H1.drop H.length⟩ := rfl
def enK (P : Program) (φ : FuncId → List PV → PV) (k : Ke) (d : Option Tmp) (o : Op) (T : TEnv) (X : List Blk) (H : Heap) (r : List POp) : Res := match k with
  | .e => vStep P φ o T [] H
  | .n => enN P φ (vStep P φ o T [] H) d T X H r
  | _ => enQ P φ (vStep P φ o T [] H) d T X H r
theorem entR_cons : entR P φ H ((d, o, none) :: r) ⟨T, X⟩ = enK P φ (kindE o) d o T X H r := by
  simp only [entR, kindE]
  cases he : entB o with
  | true => simp [enK]
  | false =>
    cases hn : nwB o with
    | true => simp [enK, enN, eNext, eVal, eNew, he, hn]
    | false => cases hh : headB o <;> simp [enK, enQ, eNext, eVal, eNew, he, hn]
theorem enK_e : enK P φ .e d o T X H r = vStep P φ o T [] H := rfl
theorem enK_q : enK P φ .q d o T X H r = enQ P φ (vStep P φ o T [] H) d T X H r := rfl
theorem enK_n : enK P φ .n d o T X H r = enN P φ (vStep P φ o T [] H) d T X H r := rfl
theorem hfB_al (t : TypeId) : hfB T (.alloc t) = true := rfl
theorem hfB_mk (t : TypeId) (x y : Operand) : hfB T (.makeSlice t x y) = true := rfl
theorem hfB_bs (t : TypeId) (n : Nat) (p : List (Nat × Operand)) : hfB T (.buildSlice t n p.toArray) = hfC (argsP T (p.map (·.2))) := rfl
theorem hfC_nil : hfC [] = true := rfl
theorem hfC_cons (p : PV) (ps : List PV) : hfC (p :: ps) = (hfL (cellsP p) && hfC ps) := rfl
theorem hfL_nil : hfL [] = true := rfl
theorem hfL_cons (p : PV) (ps : List PV) : hfL (p :: ps) = (hf p && hfL ps) := rfl
end
section
variable {t u : TypeId} {x y : Operand} {n : Nat}
theorem ap_append (a : Array Operand) (ts : Array TypeId) : appB (.call ⟨.builtin .append, a, ts⟩) = true := rfl
theorem ap_box : appB (.box t x) = false := rfl
theorem ap_store : appB (.store t x y) = false := rfl
theorem ap_makeMap (r : Option Operand) : appB (.makeMap t r) = false := rfl
theorem ap_entryStore (z : Operand) : appB (.entryStore t x y z) = false := rfl
theorem ap_mapUpdate (z : Operand) : appB (.mapUpdate t x y z) = false := rfl
theorem ap_insert (z : Operand) : appB (.insert t x y z) = false := rfl
theorem ap_range : appB (.range t x) = false := rfl
theorem ke_move : kindE (.move x) = .q := rfl
theorem ke_assign : kindE (.assign x) = .q := rfl
theorem ke_pick (z : Operand) : kindE (.pick x y z) = .q := rfl
theorem ke_alloc : kindE (.alloc t) = .n := rfl
theorem ke_box : kindE (.box t x) = .t := rfl
theorem ke_load : kindE (.load t x) = .q := rfl
theorem ke_store : kindE (.store t x y) = .t := rfl
theorem ke_binOp (op : BinOp) : kindE (.binOp op t x y u) = .q := rfl
theorem ke_unOp (op : UnOp) : kindE (.unOp op t x) = .q := rfl
theorem ke_fieldAddr : kindE (.fieldAddr t x n) = .q := rfl
theorem ke_field : kindE (.field t x n) = .q := rfl
theorem ke_indexAddr : kindE (.indexAddr t x y) = .q := rfl
theorem ke_index : kindE (.index t x y) = .q := rfl
theorem ke_extract : kindE (.extract x n) = .q := rfl
theorem ke_makeSlice : kindE (.makeSlice t x y) = .n := rfl
theorem ke_buildSlice (p : Array (Nat × Operand)) : kindE (.buildSlice t n p) = .n := rfl
theorem ke_build (p : Array (Nat × Operand)) : kindE (.build t p) = .q := rfl
theorem ke_makeFunc (f : Fn) (a p : Array Operand) : kindE (.makeFunc f a p) = .q := rfl
theorem ke_slice (a b c : Option Operand) : kindE (.slice t x a b c) = .q := rfl
theorem ke_call (f : Operand) (a : Array Operand) (ts : Array TypeId) : kindE (.call ⟨.value f, a, ts⟩) = .q := rfl
theorem ke_len (a : Array Operand) (ts : Array TypeId) : kindE (.call ⟨.builtin .len, a, ts⟩) = .q := rfl
theorem ke_append (a : Array Operand) (ts : Array TypeId) : kindE (.call ⟨.builtin .append, a, ts⟩) = .t := rfl
theorem ke_makeMap (r : Option Operand) : kindE (.makeMap t r) = .t := rfl
theorem ke_lookup (b : Bool) : kindE (.lookup t x y b) = .q := rfl
theorem ke_mapEntry : kindE (.mapEntry t x y) = .e := rfl
theorem ke_entryStore (z : Operand) : kindE (.entryStore t x y z) = .t := rfl
theorem ke_mapUpdate (z : Operand) : kindE (.mapUpdate t x y z) = .t := rfl
theorem ke_insert (z : Operand) : kindE (.insert t x y z) = .t := rfl
theorem ke_range : kindE (.range t x) = .t := rfl
theorem ke_entry : kindE (.entry x) = .q := rfl
end

/-- What callees answer: one function each. -/
def phiOf : List (FuncId × (List PV → PV)) → FuncId → List PV → PV
  | [], _, _ => .undef
  | (g, r) :: l, f, a => if g = f then r a else phiOf l f a
end Go.Pv

namespace Go.Pv
def encI (n : Int) : List PV := [.int .i64 n]
def encB (b : Bool) : List PV := [.bool b]
def encS (s : ByteArray) : List PV := [.str s]
theorem encI_eq (n : Int) : encI n = [.int .i64 n] := rfl
theorem encB_eq (b : Bool) : encB b = [.bool b] := rfl
theorem encS_eq (s : ByteArray) : encS s = [.str s] := rfl
theorem toNat_nat (n : Nat) : (n : Int).toNat = n := rfl
def decI : List PV → Int | [.int _ n] => n | _ => 0
def decB : List PV → Bool | [.bool b] => b | _ => false
def decS : List PV → ByteArray | [.str s] => s | _ => ⟨#[]⟩
theorem getD_enc {α : Type} [Inhabited α] (f : α → List PV) (z : List PV) (hz : f default = z) (xs : List α) (i : Nat) : (xs.map f).getD i z = f (xs.getD i default) := by
  rw [← hz]
  simp only [List.getD, List.getElem?_map]
  cases xs[i]? <;> rfl
theorem map_dec {α : Type} (f : α → List PV) (g : List PV → α) (h : ∀ x, g (f x) = x) (xs : List α) : (xs.map f).map g = xs := by
  rw [List.map_map]
  have : g ∘ f = id := funext h
  simp [this]
theorem encI_getD (xs : List Int) (i : Nat) : (xs.map encI).getD i [.int .i64 0] = encI (xs.getD i 0) := getD_enc encI _ rfl xs i
theorem encB_getD (xs : List Bool) (i : Nat) : (xs.map encB).getD i [.bool false] = encB (xs.getD i false) := getD_enc encB _ rfl xs i
theorem encS_getD (xs : List ByteArray) (i : Nat) : (xs.map encS).getD i [.str ⟨#[]⟩] = encS (xs.getD i ⟨#[]⟩) := getD_enc encS _ rfl xs i
theorem encI_map (xs : List Int) : (xs.map encI).map decI = xs := map_dec _ _ (fun _ => rfl) xs
theorem encB_map (xs : List Bool) : (xs.map encB).map decB = xs := map_dec _ _ (fun _ => rfl) xs
theorem encS_map (xs : List ByteArray) : (xs.map encS).map decS = xs := map_dec _ _ (fun _ => rfl) xs

structure Pages where
  text : List ByteArray
  refs : List Int
instance : Inhabited Pages := ⟨⟨[], []⟩⟩
def Pages.enc (x : Pages) : List PV := [.sl 1 (x.text.map encS), .sl 1 (x.refs.map encI)]
def Pages.dec : List PV → Pages
  | [.sl _ a0, .sl _ a1] => ⟨(a0.map decS), (a1.map decI)⟩
  | _ => default
theorem Pages.dec_enc (x : Pages) : Pages.dec x.enc = x := by simp only [Pages.enc, Pages.dec, encI_map, encS_map]
theorem Pages.map_enc (xs : List Pages) : (xs.map Pages.enc).map Pages.dec = xs := map_dec _ _ Pages.dec_enc xs
theorem Pages.getD_enc (xs : List Pages) (i : Nat) : (xs.map Pages.enc).getD i [.sl 1 [], .sl 1 []] = Pages.enc (xs.getD i default) := Go.Pv.getD_enc Pages.enc _ rfl xs i
theorem Pages.dec_lit (za0 : Nat) (za1 : Nat) (a0 : List (List PV)) (a1 : List (List PV)) : Pages.dec [.sl za0 a0, .sl za1 a1] = ⟨(a0.map decS), (a1.map decI)⟩ := rfl
theorem Pages.enc_eq (x : Pages) : x.enc = [.sl 1 (x.text.map encS), .sl 1 (x.refs.map encI)] := rfl
theorem Pages.eta (x : Pages) : (⟨x.text, x.refs⟩ : Pages) = x := rfl

structure Area where
  from_ : Int
  many : Int
  write : Bool
  shared : Bool
instance : Inhabited Area := ⟨⟨0, 0, false, false⟩⟩
def Area.enc (x : Area) : List PV := [.int .i64 x.from_, .int .i64 x.many, .bool x.write, .bool x.shared]
def Area.dec : List PV → Area
  | [.int _ a0, .int _ a1, .bool a2, .bool a3] => ⟨a0, a1, a2, a3⟩
  | _ => default
theorem Area.dec_enc (x : Area) : Area.dec x.enc = x := by simp only [Area.enc, Area.dec]
theorem Area.map_enc (xs : List Area) : (xs.map Area.enc).map Area.dec = xs := map_dec _ _ Area.dec_enc xs
theorem Area.getD_enc (xs : List Area) (i : Nat) : (xs.map Area.enc).getD i [.int .i64 0, .int .i64 0, .bool false, .bool false] = Area.enc (xs.getD i default) := Go.Pv.getD_enc Area.enc _ rfl xs i
theorem Area.dec_lit  (a0 : Int) (a1 : Int) (a2 : Bool) (a3 : Bool) : Area.dec [.int .i64 a0, .int .i64 a1, .bool a2, .bool a3] = ⟨a0, a1, a2, a3⟩ := rfl
theorem Area.enc_eq (x : Area) : x.enc = [.int .i64 x.from_, .int .i64 x.many, .bool x.write, .bool x.shared] := rfl
theorem Area.eta (x : Area) : (⟨x.from_, x.many, x.write, x.shared⟩ : Area) = x := rfl

structure Slot where
  kind : Int
  at_ : Int
  own : Bool
  used : Bool
instance : Inhabited Slot := ⟨⟨0, 0, false, false⟩⟩
def Slot.enc (x : Slot) : List PV := [.int .i64 x.kind, .int .i64 x.at_, .bool x.own, .bool x.used]
def Slot.dec : List PV → Slot
  | [.int _ a0, .int _ a1, .bool a2, .bool a3] => ⟨a0, a1, a2, a3⟩
  | _ => default
theorem Slot.dec_enc (x : Slot) : Slot.dec x.enc = x := by simp only [Slot.enc, Slot.dec]
theorem Slot.map_enc (xs : List Slot) : (xs.map Slot.enc).map Slot.dec = xs := map_dec _ _ Slot.dec_enc xs
theorem Slot.getD_enc (xs : List Slot) (i : Nat) : (xs.map Slot.enc).getD i [.int .i64 0, .int .i64 0, .bool false, .bool false] = Slot.enc (xs.getD i default) := Go.Pv.getD_enc Slot.enc _ rfl xs i
theorem Slot.dec_lit  (a0 : Int) (a1 : Int) (a2 : Bool) (a3 : Bool) : Slot.dec [.int .i64 a0, .int .i64 a1, .bool a2, .bool a3] = ⟨a0, a1, a2, a3⟩ := rfl
theorem Slot.enc_eq (x : Slot) : x.enc = [.int .i64 x.kind, .int .i64 x.at_, .bool x.own, .bool x.used] := rfl
theorem Slot.eta (x : Slot) : (⟨x.kind, x.at_, x.own, x.used⟩ : Slot) = x := rfl

structure Space where
  live : Bool
  areas : List Area
  slots : List Slot
instance : Inhabited Space := ⟨⟨false, [], []⟩⟩
def Space.enc (x : Space) : List PV := [.bool x.live, .sl 4 (x.areas.map Area.enc), .sl 4 (x.slots.map Slot.enc)]
def Space.dec : List PV → Space
  | [.bool a0, .sl _ a1, .sl _ a2] => ⟨a0, (a1.map Area.dec), (a2.map Slot.dec)⟩
  | _ => default
theorem Space.dec_enc (x : Space) : Space.dec x.enc = x := by simp only [Space.enc, Space.dec, Area.map_enc, Slot.map_enc]
theorem Space.map_enc (xs : List Space) : (xs.map Space.enc).map Space.dec = xs := map_dec _ _ Space.dec_enc xs
theorem Space.getD_enc (xs : List Space) (i : Nat) : (xs.map Space.enc).getD i [.bool false, .sl 4 [], .sl 4 []] = Space.enc (xs.getD i default) := Go.Pv.getD_enc Space.enc _ rfl xs i
theorem Space.dec_lit (za1 : Nat) (za2 : Nat) (a0 : Bool) (a1 : List (List PV)) (a2 : List (List PV)) : Space.dec [.bool a0, .sl za1 a1, .sl za2 a2] = ⟨a0, (a1.map Area.dec), (a2.map Slot.dec)⟩ := rfl
theorem Space.enc_eq (x : Space) : x.enc = [.bool x.live, .sl 4 (x.areas.map Area.enc), .sl 4 (x.slots.map Slot.enc)] := rfl
theorem Space.eta (x : Space) : (⟨x.live, x.areas, x.slots⟩ : Space) = x := rfl

structure Mem where
  ram : Pages
  swap : Pages
  spaces : List Space
  hand : Int
instance : Inhabited Mem := ⟨⟨⟨[], []⟩, ⟨[], []⟩, [], 0⟩⟩
def Mem.enc (x : Mem) : List PV := [.sl 1 (x.ram.text.map encS), .sl 1 (x.ram.refs.map encI), .sl 1 (x.swap.text.map encS), .sl 1 (x.swap.refs.map encI), .sl 3 (x.spaces.map Space.enc), .int .i64 x.hand]
def Mem.dec : List PV → Mem
  | [.sl _ a0, .sl _ a1, .sl _ a2, .sl _ a3, .sl _ a4, .int _ a5] => ⟨⟨(a0.map decS), (a1.map decI)⟩, ⟨(a2.map decS), (a3.map decI)⟩, (a4.map Space.dec), a5⟩
  | _ => default
theorem Mem.dec_enc (x : Mem) : Mem.dec x.enc = x := by simp only [Mem.enc, Mem.dec, encI_map, encS_map, Space.map_enc]
theorem Mem.map_enc (xs : List Mem) : (xs.map Mem.enc).map Mem.dec = xs := map_dec _ _ Mem.dec_enc xs
theorem Mem.getD_enc (xs : List Mem) (i : Nat) : (xs.map Mem.enc).getD i [.sl 1 [], .sl 1 [], .sl 1 [], .sl 1 [], .sl 3 [], .int .i64 0] = Mem.enc (xs.getD i default) := Go.Pv.getD_enc Mem.enc _ rfl xs i
theorem Mem.dec_lit (za0 : Nat) (za1 : Nat) (za2 : Nat) (za3 : Nat) (za4 : Nat) (a0 : List (List PV)) (a1 : List (List PV)) (a2 : List (List PV)) (a3 : List (List PV)) (a4 : List (List PV)) (a5 : Int) : Mem.dec [.sl za0 a0, .sl za1 a1, .sl za2 a2, .sl za3 a3, .sl za4 a4, .int .i64 a5] = ⟨⟨(a0.map decS), (a1.map decI)⟩, ⟨(a2.map decS), (a3.map decI)⟩, (a4.map Space.dec), a5⟩ := rfl
theorem Mem.enc_eq (x : Mem) : x.enc = [.sl 1 (x.ram.text.map encS), .sl 1 (x.ram.refs.map encI), .sl 1 (x.swap.text.map encS), .sl 1 (x.swap.refs.map encI), .sl 3 (x.spaces.map Space.enc), .int .i64 x.hand] := rfl
theorem Mem.eta (x : Mem) : (⟨x.ram, x.swap, x.spaces, x.hand⟩ : Mem) = x := rfl

structure Entry where
  name : ByteArray
  id : Int
instance : Inhabited Entry := ⟨⟨⟨#[]⟩, 0⟩⟩
def Entry.enc (x : Entry) : List PV := [.str x.name, .int .i64 x.id]
def Entry.dec : List PV → Entry
  | [.str a0, .int _ a1] => ⟨a0, a1⟩
  | _ => default
theorem Entry.dec_enc (x : Entry) : Entry.dec x.enc = x := by simp only [Entry.enc, Entry.dec]
theorem Entry.map_enc (xs : List Entry) : (xs.map Entry.enc).map Entry.dec = xs := map_dec _ _ Entry.dec_enc xs
theorem Entry.getD_enc (xs : List Entry) (i : Nat) : (xs.map Entry.enc).getD i [.str ⟨#[]⟩, .int .i64 0] = Entry.enc (xs.getD i default) := Go.Pv.getD_enc Entry.enc _ rfl xs i
theorem Entry.dec_lit  (a0 : ByteArray) (a1 : Int) : Entry.dec [.str a0, .int .i64 a1] = ⟨a0, a1⟩ := rfl
theorem Entry.enc_eq (x : Entry) : x.enc = [.str x.name, .int .i64 x.id] := rfl
theorem Entry.eta (x : Entry) : (⟨x.name, x.id⟩ : Entry) = x := rfl

structure Inode where
  kind : Int
  mode : Int
  owner : Int
  group : Int
  links : Int
  opens : Int
  mark : Bool
  text : ByteArray
  names : List Entry
instance : Inhabited Inode := ⟨⟨0, 0, 0, 0, 0, 0, false, ⟨#[]⟩, []⟩⟩
def Inode.enc (x : Inode) : List PV := [.int .i64 x.kind, .int .i64 x.mode, .int .i64 x.owner, .int .i64 x.group, .int .i64 x.links, .int .i64 x.opens, .bool x.mark, .str x.text, .sl 2 (x.names.map Entry.enc)]
def Inode.dec : List PV → Inode
  | [.int _ a0, .int _ a1, .int _ a2, .int _ a3, .int _ a4, .int _ a5, .bool a6, .str a7, .sl _ a8] => ⟨a0, a1, a2, a3, a4, a5, a6, a7, (a8.map Entry.dec)⟩
  | _ => default
theorem Inode.dec_enc (x : Inode) : Inode.dec x.enc = x := by simp only [Inode.enc, Inode.dec, Entry.map_enc]
theorem Inode.map_enc (xs : List Inode) : (xs.map Inode.enc).map Inode.dec = xs := map_dec _ _ Inode.dec_enc xs
theorem Inode.getD_enc (xs : List Inode) (i : Nat) : (xs.map Inode.enc).getD i [.int .i64 0, .int .i64 0, .int .i64 0, .int .i64 0, .int .i64 0, .int .i64 0, .bool false, .str ⟨#[]⟩, .sl 2 []] = Inode.enc (xs.getD i default) := Go.Pv.getD_enc Inode.enc _ rfl xs i
theorem Inode.dec_lit (za8 : Nat) (a0 : Int) (a1 : Int) (a2 : Int) (a3 : Int) (a4 : Int) (a5 : Int) (a6 : Bool) (a7 : ByteArray) (a8 : List (List PV)) : Inode.dec [.int .i64 a0, .int .i64 a1, .int .i64 a2, .int .i64 a3, .int .i64 a4, .int .i64 a5, .bool a6, .str a7, .sl za8 a8] = ⟨a0, a1, a2, a3, a4, a5, a6, a7, (a8.map Entry.dec)⟩ := rfl
theorem Inode.enc_eq (x : Inode) : x.enc = [.int .i64 x.kind, .int .i64 x.mode, .int .i64 x.owner, .int .i64 x.group, .int .i64 x.links, .int .i64 x.opens, .bool x.mark, .str x.text, .sl 2 (x.names.map Entry.enc)] := rfl
theorem Inode.eta (x : Inode) : (⟨x.kind, x.mode, x.owner, x.group, x.links, x.opens, x.mark, x.text, x.names⟩ : Inode) = x := rfl

structure Fs where
  nodes : List Inode
instance : Inhabited Fs := ⟨⟨[]⟩⟩
def Fs.enc (x : Fs) : List PV := [.sl 9 (x.nodes.map Inode.enc)]
def Fs.dec : List PV → Fs
  | [.sl _ a0] => ⟨(a0.map Inode.dec)⟩
  | _ => default
theorem Fs.dec_enc (x : Fs) : Fs.dec x.enc = x := by simp only [Fs.enc, Fs.dec, Inode.map_enc]
theorem Fs.map_enc (xs : List Fs) : (xs.map Fs.enc).map Fs.dec = xs := map_dec _ _ Fs.dec_enc xs
theorem Fs.getD_enc (xs : List Fs) (i : Nat) : (xs.map Fs.enc).getD i [.sl 9 []] = Fs.enc (xs.getD i default) := Go.Pv.getD_enc Fs.enc _ rfl xs i
theorem Fs.dec_lit (za0 : Nat) (a0 : List (List PV)) : Fs.dec [.sl za0 a0] = ⟨(a0.map Inode.dec)⟩ := rfl
theorem Fs.enc_eq (x : Fs) : x.enc = [.sl 9 (x.nodes.map Inode.enc)] := rfl
theorem Fs.eta (x : Fs) : (⟨x.nodes⟩ : Fs) = x := rfl

structure Vfs where
  fss : List Fs
  mount : Int
instance : Inhabited Vfs := ⟨⟨[], 0⟩⟩
def Vfs.enc (x : Vfs) : List PV := [.sl 1 (x.fss.map Fs.enc), .int .i64 x.mount]
def Vfs.dec : List PV → Vfs
  | [.sl _ a0, .int _ a1] => ⟨(a0.map Fs.dec), a1⟩
  | _ => default
theorem Vfs.dec_enc (x : Vfs) : Vfs.dec x.enc = x := by simp only [Vfs.enc, Vfs.dec, Fs.map_enc]
theorem Vfs.map_enc (xs : List Vfs) : (xs.map Vfs.enc).map Vfs.dec = xs := map_dec _ _ Vfs.dec_enc xs
theorem Vfs.getD_enc (xs : List Vfs) (i : Nat) : (xs.map Vfs.enc).getD i [.sl 1 [], .int .i64 0] = Vfs.enc (xs.getD i default) := Go.Pv.getD_enc Vfs.enc _ rfl xs i
theorem Vfs.dec_lit (za0 : Nat) (a0 : List (List PV)) (a1 : Int) : Vfs.dec [.sl za0 a0, .int .i64 a1] = ⟨(a0.map Fs.dec), a1⟩ := rfl
theorem Vfs.enc_eq (x : Vfs) : x.enc = [.sl 1 (x.fss.map Fs.enc), .int .i64 x.mount] := rfl
theorem Vfs.eta (x : Vfs) : (⟨x.fss, x.mount⟩ : Vfs) = x := rfl

structure Spt where
  fs : Int
  id : Int
instance : Inhabited Spt := ⟨⟨0, 0⟩⟩
def Spt.enc (x : Spt) : List PV := [.int .i64 x.fs, .int .i64 x.id]
def Spt.dec : List PV → Spt
  | [.int _ a0, .int _ a1] => ⟨a0, a1⟩
  | _ => default
theorem Spt.dec_enc (x : Spt) : Spt.dec x.enc = x := by simp only [Spt.enc, Spt.dec]
theorem Spt.map_enc (xs : List Spt) : (xs.map Spt.enc).map Spt.dec = xs := map_dec _ _ Spt.dec_enc xs
theorem Spt.getD_enc (xs : List Spt) (i : Nat) : (xs.map Spt.enc).getD i [.int .i64 0, .int .i64 0] = Spt.enc (xs.getD i default) := Go.Pv.getD_enc Spt.enc _ rfl xs i
theorem Spt.dec_lit  (a0 : Int) (a1 : Int) : Spt.dec [.int .i64 a0, .int .i64 a1] = ⟨a0, a1⟩ := rfl
theorem Spt.enc_eq (x : Spt) : x.enc = [.int .i64 x.fs, .int .i64 x.id] := rfl
theorem Spt.eta (x : Spt) : (⟨x.fs, x.id⟩ : Spt) = x := rfl

structure File where
  refs : Int
  where_ : Spt
  pipe : Int
  pos : Int
  read : Bool
  write : Bool
  end_ : Bool
instance : Inhabited File := ⟨⟨0, ⟨0, 0⟩, 0, 0, false, false, false⟩⟩
def File.enc (x : File) : List PV := [.int .i64 x.refs, .int .i64 x.where_.fs, .int .i64 x.where_.id, .int .i64 x.pipe, .int .i64 x.pos, .bool x.read, .bool x.write, .bool x.end_]
def File.dec : List PV → File
  | [.int _ a0, .int _ a1, .int _ a2, .int _ a3, .int _ a4, .bool a5, .bool a6, .bool a7] => ⟨a0, ⟨a1, a2⟩, a3, a4, a5, a6, a7⟩
  | _ => default
theorem File.dec_enc (x : File) : File.dec x.enc = x := by simp only [File.enc, File.dec]
theorem File.map_enc (xs : List File) : (xs.map File.enc).map File.dec = xs := map_dec _ _ File.dec_enc xs
theorem File.getD_enc (xs : List File) (i : Nat) : (xs.map File.enc).getD i [.int .i64 0, .int .i64 0, .int .i64 0, .int .i64 0, .int .i64 0, .bool false, .bool false, .bool false] = File.enc (xs.getD i default) := Go.Pv.getD_enc File.enc _ rfl xs i
theorem File.dec_lit  (a0 : Int) (a1 : Int) (a2 : Int) (a3 : Int) (a4 : Int) (a5 : Bool) (a6 : Bool) (a7 : Bool) : File.dec [.int .i64 a0, .int .i64 a1, .int .i64 a2, .int .i64 a3, .int .i64 a4, .bool a5, .bool a6, .bool a7] = ⟨a0, ⟨a1, a2⟩, a3, a4, a5, a6, a7⟩ := rfl
theorem File.enc_eq (x : File) : x.enc = [.int .i64 x.refs, .int .i64 x.where_.fs, .int .i64 x.where_.id, .int .i64 x.pipe, .int .i64 x.pos, .bool x.read, .bool x.write, .bool x.end_] := rfl
theorem File.eta (x : File) : (⟨x.refs, x.where_, x.pipe, x.pos, x.read, x.write, x.end_⟩ : File) = x := rfl

structure Pipe where
  text : ByteArray
  readers : Int
  writers : Int
instance : Inhabited Pipe := ⟨⟨⟨#[]⟩, 0, 0⟩⟩
def Pipe.enc (x : Pipe) : List PV := [.str x.text, .int .i64 x.readers, .int .i64 x.writers]
def Pipe.dec : List PV → Pipe
  | [.str a0, .int _ a1, .int _ a2] => ⟨a0, a1, a2⟩
  | _ => default
theorem Pipe.dec_enc (x : Pipe) : Pipe.dec x.enc = x := by simp only [Pipe.enc, Pipe.dec]
theorem Pipe.map_enc (xs : List Pipe) : (xs.map Pipe.enc).map Pipe.dec = xs := map_dec _ _ Pipe.dec_enc xs
theorem Pipe.getD_enc (xs : List Pipe) (i : Nat) : (xs.map Pipe.enc).getD i [.str ⟨#[]⟩, .int .i64 0, .int .i64 0] = Pipe.enc (xs.getD i default) := Go.Pv.getD_enc Pipe.enc _ rfl xs i
theorem Pipe.dec_lit  (a0 : ByteArray) (a1 : Int) (a2 : Int) : Pipe.dec [.str a0, .int .i64 a1, .int .i64 a2] = ⟨a0, a1, a2⟩ := rfl
theorem Pipe.enc_eq (x : Pipe) : x.enc = [.str x.text, .int .i64 x.readers, .int .i64 x.writers] := rfl
theorem Pipe.eta (x : Pipe) : (⟨x.text, x.readers, x.writers⟩ : Pipe) = x := rfl

structure Cred where
  user : Int
  real : Int
  groups : List Int
instance : Inhabited Cred := ⟨⟨0, 0, []⟩⟩
def Cred.enc (x : Cred) : List PV := [.int .i64 x.user, .int .i64 x.real, .sl 1 (x.groups.map encI)]
def Cred.dec : List PV → Cred
  | [.int _ a0, .int _ a1, .sl _ a2] => ⟨a0, a1, (a2.map decI)⟩
  | _ => default
theorem Cred.dec_enc (x : Cred) : Cred.dec x.enc = x := by simp only [Cred.enc, Cred.dec, encI_map]
theorem Cred.map_enc (xs : List Cred) : (xs.map Cred.enc).map Cred.dec = xs := map_dec _ _ Cred.dec_enc xs
theorem Cred.getD_enc (xs : List Cred) (i : Nat) : (xs.map Cred.enc).getD i [.int .i64 0, .int .i64 0, .sl 1 []] = Cred.enc (xs.getD i default) := Go.Pv.getD_enc Cred.enc _ rfl xs i
theorem Cred.dec_lit (za2 : Nat) (a0 : Int) (a1 : Int) (a2 : List (List PV)) : Cred.dec [.int .i64 a0, .int .i64 a1, .sl za2 a2] = ⟨a0, a1, (a2.map decI)⟩ := rfl
theorem Cred.enc_eq (x : Cred) : x.enc = [.int .i64 x.user, .int .i64 x.real, .sl 1 (x.groups.map encI)] := rfl
theorem Cred.eta (x : Cred) : (⟨x.user, x.real, x.groups⟩ : Cred) = x := rfl

structure Sigs where
  here : List Bool
  block : List Bool
  does : List Int
instance : Inhabited Sigs := ⟨⟨[], [], []⟩⟩
def Sigs.enc (x : Sigs) : List PV := [.sl 1 (x.here.map encB), .sl 1 (x.block.map encB), .sl 1 (x.does.map encI)]
def Sigs.dec : List PV → Sigs
  | [.sl _ a0, .sl _ a1, .sl _ a2] => ⟨(a0.map decB), (a1.map decB), (a2.map decI)⟩
  | _ => default
theorem Sigs.dec_enc (x : Sigs) : Sigs.dec x.enc = x := by simp only [Sigs.enc, Sigs.dec, encB_map, encI_map]
theorem Sigs.map_enc (xs : List Sigs) : (xs.map Sigs.enc).map Sigs.dec = xs := map_dec _ _ Sigs.dec_enc xs
theorem Sigs.getD_enc (xs : List Sigs) (i : Nat) : (xs.map Sigs.enc).getD i [.sl 1 [], .sl 1 [], .sl 1 []] = Sigs.enc (xs.getD i default) := Go.Pv.getD_enc Sigs.enc _ rfl xs i
theorem Sigs.dec_lit (za0 : Nat) (za1 : Nat) (za2 : Nat) (a0 : List (List PV)) (a1 : List (List PV)) (a2 : List (List PV)) : Sigs.dec [.sl za0 a0, .sl za1 a1, .sl za2 a2] = ⟨(a0.map decB), (a1.map decB), (a2.map decI)⟩ := rfl
theorem Sigs.enc_eq (x : Sigs) : x.enc = [.sl 1 (x.here.map encB), .sl 1 (x.block.map encB), .sl 1 (x.does.map encI)] := rfl
theorem Sigs.eta (x : Sigs) : (⟨x.here, x.block, x.does⟩ : Sigs) = x := rfl

structure Proc where
  state : Int
  parent : Int
  code : Int
  who : Cred
  space : Int
  fds : List Int
  sigs : Sigs
  dir : Spt
  on : Int
instance : Inhabited Proc := ⟨⟨0, 0, 0, ⟨0, 0, []⟩, 0, [], ⟨[], [], []⟩, ⟨0, 0⟩, 0⟩⟩
def Proc.enc (x : Proc) : List PV := [.int .i64 x.state, .int .i64 x.parent, .int .i64 x.code, .int .i64 x.who.user, .int .i64 x.who.real, .sl 1 (x.who.groups.map encI), .int .i64 x.space, .sl 1 (x.fds.map encI), .sl 1 (x.sigs.here.map encB), .sl 1 (x.sigs.block.map encB), .sl 1 (x.sigs.does.map encI), .int .i64 x.dir.fs, .int .i64 x.dir.id, .int .i64 x.on]
def Proc.dec : List PV → Proc
  | [.int _ a0, .int _ a1, .int _ a2, .int _ a3, .int _ a4, .sl _ a5, .int _ a6, .sl _ a7, .sl _ a8, .sl _ a9, .sl _ a10, .int _ a11, .int _ a12, .int _ a13] => ⟨a0, a1, a2, ⟨a3, a4, (a5.map decI)⟩, a6, (a7.map decI), ⟨(a8.map decB), (a9.map decB), (a10.map decI)⟩, ⟨a11, a12⟩, a13⟩
  | _ => default
theorem Proc.dec_enc (x : Proc) : Proc.dec x.enc = x := by simp only [Proc.enc, Proc.dec, encB_map, encI_map]
theorem Proc.map_enc (xs : List Proc) : (xs.map Proc.enc).map Proc.dec = xs := map_dec _ _ Proc.dec_enc xs
theorem Proc.getD_enc (xs : List Proc) (i : Nat) : (xs.map Proc.enc).getD i [.int .i64 0, .int .i64 0, .int .i64 0, .int .i64 0, .int .i64 0, .sl 1 [], .int .i64 0, .sl 1 [], .sl 1 [], .sl 1 [], .sl 1 [], .int .i64 0, .int .i64 0, .int .i64 0] = Proc.enc (xs.getD i default) := Go.Pv.getD_enc Proc.enc _ rfl xs i
theorem Proc.dec_lit (za5 : Nat) (za7 : Nat) (za8 : Nat) (za9 : Nat) (za10 : Nat) (a0 : Int) (a1 : Int) (a2 : Int) (a3 : Int) (a4 : Int) (a5 : List (List PV)) (a6 : Int) (a7 : List (List PV)) (a8 : List (List PV)) (a9 : List (List PV)) (a10 : List (List PV)) (a11 : Int) (a12 : Int) (a13 : Int) : Proc.dec [.int .i64 a0, .int .i64 a1, .int .i64 a2, .int .i64 a3, .int .i64 a4, .sl za5 a5, .int .i64 a6, .sl za7 a7, .sl za8 a8, .sl za9 a9, .sl za10 a10, .int .i64 a11, .int .i64 a12, .int .i64 a13] = ⟨a0, a1, a2, ⟨a3, a4, (a5.map decI)⟩, a6, (a7.map decI), ⟨(a8.map decB), (a9.map decB), (a10.map decI)⟩, ⟨a11, a12⟩, a13⟩ := rfl
theorem Proc.enc_eq (x : Proc) : x.enc = [.int .i64 x.state, .int .i64 x.parent, .int .i64 x.code, .int .i64 x.who.user, .int .i64 x.who.real, .sl 1 (x.who.groups.map encI), .int .i64 x.space, .sl 1 (x.fds.map encI), .sl 1 (x.sigs.here.map encB), .sl 1 (x.sigs.block.map encB), .sl 1 (x.sigs.does.map encI), .int .i64 x.dir.fs, .int .i64 x.dir.id, .int .i64 x.on] := rfl
theorem Proc.eta (x : Proc) : (⟨x.state, x.parent, x.code, x.who, x.space, x.fds, x.sigs, x.dir, x.on⟩ : Proc) = x := rfl

structure Task where
  id : Int
  weight : Int
  cost : Int
  ready : Bool
instance : Inhabited Task := ⟨⟨0, 0, 0, false⟩⟩
def Task.enc (x : Task) : List PV := [.int .i64 x.id, .int .i64 x.weight, .int .i64 x.cost, .bool x.ready]
def Task.dec : List PV → Task
  | [.int _ a0, .int _ a1, .int _ a2, .bool a3] => ⟨a0, a1, a2, a3⟩
  | _ => default
theorem Task.dec_enc (x : Task) : Task.dec x.enc = x := by simp only [Task.enc, Task.dec]
theorem Task.map_enc (xs : List Task) : (xs.map Task.enc).map Task.dec = xs := map_dec _ _ Task.dec_enc xs
theorem Task.getD_enc (xs : List Task) (i : Nat) : (xs.map Task.enc).getD i [.int .i64 0, .int .i64 0, .int .i64 0, .bool false] = Task.enc (xs.getD i default) := Go.Pv.getD_enc Task.enc _ rfl xs i
theorem Task.dec_lit  (a0 : Int) (a1 : Int) (a2 : Int) (a3 : Bool) : Task.dec [.int .i64 a0, .int .i64 a1, .int .i64 a2, .bool a3] = ⟨a0, a1, a2, a3⟩ := rfl
theorem Task.enc_eq (x : Task) : x.enc = [.int .i64 x.id, .int .i64 x.weight, .int .i64 x.cost, .bool x.ready] := rfl
theorem Task.eta (x : Task) : (⟨x.id, x.weight, x.cost, x.ready⟩ : Task) = x := rfl

structure Queue where
  tasks : List Task
  floor : Int
instance : Inhabited Queue := ⟨⟨[], 0⟩⟩
def Queue.enc (x : Queue) : List PV := [.sl 4 (x.tasks.map Task.enc), .int .i64 x.floor]
def Queue.dec : List PV → Queue
  | [.sl _ a0, .int _ a1] => ⟨(a0.map Task.dec), a1⟩
  | _ => default
theorem Queue.dec_enc (x : Queue) : Queue.dec x.enc = x := by simp only [Queue.enc, Queue.dec, Task.map_enc]
theorem Queue.map_enc (xs : List Queue) : (xs.map Queue.enc).map Queue.dec = xs := map_dec _ _ Queue.dec_enc xs
theorem Queue.getD_enc (xs : List Queue) (i : Nat) : (xs.map Queue.enc).getD i [.sl 4 [], .int .i64 0] = Queue.enc (xs.getD i default) := Go.Pv.getD_enc Queue.enc _ rfl xs i
theorem Queue.dec_lit (za0 : Nat) (a0 : List (List PV)) (a1 : Int) : Queue.dec [.sl za0 a0, .int .i64 a1] = ⟨(a0.map Task.dec), a1⟩ := rfl
theorem Queue.enc_eq (x : Queue) : x.enc = [.sl 4 (x.tasks.map Task.enc), .int .i64 x.floor] := rfl
theorem Queue.eta (x : Queue) : (⟨x.tasks, x.floor⟩ : Queue) = x := rfl

structure Kern where
  mem : Mem
  vfs : Vfs
  files : List File
  pipes : List Pipe
  procs : List Proc
  queue : Queue
instance : Inhabited Kern := ⟨⟨⟨⟨[], []⟩, ⟨[], []⟩, [], 0⟩, ⟨[], 0⟩, [], [], [], ⟨[], 0⟩⟩⟩
def Kern.enc (x : Kern) : List PV := [.sl 1 (x.mem.ram.text.map encS), .sl 1 (x.mem.ram.refs.map encI), .sl 1 (x.mem.swap.text.map encS), .sl 1 (x.mem.swap.refs.map encI), .sl 3 (x.mem.spaces.map Space.enc), .int .i64 x.mem.hand, .sl 1 (x.vfs.fss.map Fs.enc), .int .i64 x.vfs.mount, .sl 8 (x.files.map File.enc), .sl 3 (x.pipes.map Pipe.enc), .sl 14 (x.procs.map Proc.enc), .sl 4 (x.queue.tasks.map Task.enc), .int .i64 x.queue.floor]
def Kern.dec : List PV → Kern
  | [.sl _ a0, .sl _ a1, .sl _ a2, .sl _ a3, .sl _ a4, .int _ a5, .sl _ a6, .int _ a7, .sl _ a8, .sl _ a9, .sl _ a10, .sl _ a11, .int _ a12] => ⟨⟨⟨(a0.map decS), (a1.map decI)⟩, ⟨(a2.map decS), (a3.map decI)⟩, (a4.map Space.dec), a5⟩, ⟨(a6.map Fs.dec), a7⟩, (a8.map File.dec), (a9.map Pipe.dec), (a10.map Proc.dec), ⟨(a11.map Task.dec), a12⟩⟩
  | _ => default
theorem Kern.dec_enc (x : Kern) : Kern.dec x.enc = x := by simp only [Kern.enc, Kern.dec, File.map_enc, Fs.map_enc, encI_map, Pipe.map_enc, Proc.map_enc, encS_map, Space.map_enc, Task.map_enc]
theorem Kern.map_enc (xs : List Kern) : (xs.map Kern.enc).map Kern.dec = xs := map_dec _ _ Kern.dec_enc xs
theorem Kern.getD_enc (xs : List Kern) (i : Nat) : (xs.map Kern.enc).getD i [.sl 1 [], .sl 1 [], .sl 1 [], .sl 1 [], .sl 3 [], .int .i64 0, .sl 1 [], .int .i64 0, .sl 8 [], .sl 3 [], .sl 14 [], .sl 4 [], .int .i64 0] = Kern.enc (xs.getD i default) := Go.Pv.getD_enc Kern.enc _ rfl xs i
theorem Kern.dec_lit (za0 : Nat) (za1 : Nat) (za2 : Nat) (za3 : Nat) (za4 : Nat) (za6 : Nat) (za8 : Nat) (za9 : Nat) (za10 : Nat) (za11 : Nat) (a0 : List (List PV)) (a1 : List (List PV)) (a2 : List (List PV)) (a3 : List (List PV)) (a4 : List (List PV)) (a5 : Int) (a6 : List (List PV)) (a7 : Int) (a8 : List (List PV)) (a9 : List (List PV)) (a10 : List (List PV)) (a11 : List (List PV)) (a12 : Int) : Kern.dec [.sl za0 a0, .sl za1 a1, .sl za2 a2, .sl za3 a3, .sl za4 a4, .int .i64 a5, .sl za6 a6, .int .i64 a7, .sl za8 a8, .sl za9 a9, .sl za10 a10, .sl za11 a11, .int .i64 a12] = ⟨⟨⟨(a0.map decS), (a1.map decI)⟩, ⟨(a2.map decS), (a3.map decI)⟩, (a4.map Space.dec), a5⟩, ⟨(a6.map Fs.dec), a7⟩, (a8.map File.dec), (a9.map Pipe.dec), (a10.map Proc.dec), ⟨(a11.map Task.dec), a12⟩⟩ := rfl
theorem Kern.enc_eq (x : Kern) : x.enc = [.sl 1 (x.mem.ram.text.map encS), .sl 1 (x.mem.ram.refs.map encI), .sl 1 (x.mem.swap.text.map encS), .sl 1 (x.mem.swap.refs.map encI), .sl 3 (x.mem.spaces.map Space.enc), .int .i64 x.mem.hand, .sl 1 (x.vfs.fss.map Fs.enc), .int .i64 x.vfs.mount, .sl 8 (x.files.map File.enc), .sl 3 (x.pipes.map Pipe.enc), .sl 14 (x.procs.map Proc.enc), .sl 4 (x.queue.tasks.map Task.enc), .int .i64 x.queue.floor] := rfl
theorem Kern.eta (x : Kern) : (⟨x.mem, x.vfs, x.files, x.pipes, x.procs, x.queue⟩ : Kern) = x := rfl

set_option linter.defProp false
def pvDom := And.intro @encI_eq (And.intro @encB_eq (And.intro @encS_eq (And.intro @toNat_nat (And.intro @encI_getD (And.intro @encB_getD (And.intro @encS_getD (And.intro @encI_map (And.intro @encB_map (And.intro @encS_map (And.intro @Pages.map_enc (And.intro @Pages.getD_enc (And.intro @Pages.eta (And.intro @Pages.dec_lit (And.intro @Pages.enc_eq (And.intro @Area.map_enc (And.intro @Area.getD_enc (And.intro @Area.eta (And.intro @Area.dec_lit (And.intro @Area.enc_eq (And.intro @Slot.map_enc (And.intro @Slot.getD_enc (And.intro @Slot.eta (And.intro @Slot.dec_lit (And.intro @Slot.enc_eq (And.intro @Space.map_enc (And.intro @Space.getD_enc (And.intro @Space.eta (And.intro @Space.dec_lit (And.intro @Space.enc_eq (And.intro @Mem.map_enc (And.intro @Mem.getD_enc (And.intro @Mem.eta (And.intro @Mem.dec_lit (And.intro @Mem.enc_eq (And.intro @Entry.map_enc (And.intro @Entry.getD_enc (And.intro @Entry.eta (And.intro @Entry.dec_lit (And.intro @Entry.enc_eq (And.intro @Inode.map_enc (And.intro @Inode.getD_enc (And.intro @Inode.eta (And.intro @Inode.dec_lit (And.intro @Inode.enc_eq (And.intro @Fs.map_enc (And.intro @Fs.getD_enc (And.intro @Fs.eta (And.intro @Fs.dec_lit (And.intro @Fs.enc_eq (And.intro @Vfs.map_enc (And.intro @Vfs.getD_enc (And.intro @Vfs.eta (And.intro @Vfs.dec_lit (And.intro @Vfs.enc_eq (And.intro @Spt.map_enc (And.intro @Spt.getD_enc (And.intro @Spt.eta (And.intro @Spt.dec_lit (And.intro @Spt.enc_eq (And.intro @File.map_enc (And.intro @File.getD_enc (And.intro @File.eta (And.intro @File.dec_lit (And.intro @File.enc_eq (And.intro @Pipe.map_enc (And.intro @Pipe.getD_enc (And.intro @Pipe.eta (And.intro @Pipe.dec_lit (And.intro @Pipe.enc_eq (And.intro @Cred.map_enc (And.intro @Cred.getD_enc (And.intro @Cred.eta (And.intro @Cred.dec_lit (And.intro @Cred.enc_eq (And.intro @Sigs.map_enc (And.intro @Sigs.getD_enc (And.intro @Sigs.eta (And.intro @Sigs.dec_lit (And.intro @Sigs.enc_eq (And.intro @Proc.map_enc (And.intro @Proc.getD_enc (And.intro @Proc.eta (And.intro @Proc.dec_lit (And.intro @Proc.enc_eq (And.intro @Task.map_enc (And.intro @Task.getD_enc (And.intro @Task.eta (And.intro @Task.dec_lit (And.intro @Task.enc_eq (And.intro @Queue.map_enc (And.intro @Queue.getD_enc (And.intro @Queue.eta (And.intro @Queue.dec_lit (And.intro @Queue.enc_eq (And.intro @Kern.map_enc (And.intro @Kern.getD_enc (And.intro @Kern.eta (And.intro @Kern.dec_lit @Kern.enc_eq))))))))))))))))))))))))))))))))))))))))))))))))))))))))))))))))))))))))))))))))))))))))))))))))))
end Go.Pv
