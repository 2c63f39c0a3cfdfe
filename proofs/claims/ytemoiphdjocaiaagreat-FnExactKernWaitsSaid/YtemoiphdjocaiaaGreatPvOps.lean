/-
  Maps, texts, and an operation's plain result: of any program. Conditions: none.
-/
import Derived.Test.YtemoiphdjocaiaaGreatPvBase
import Derived.MapKept
import Derived.Laws.IdiomRangeMap
set_option linter.all false
set_option linter.unusedSimpArgs false
set_option linter.unusedVariables false
namespace Go.Pv
open Go.RowKit (Below)
variable {P : Program}

def keyP (ag : Bool) : PV → Option (List Int)
  | .int .i64 n => if ag then none else some [n]
  | .agg [.int .i64 a, .int .i64 b] => if ag then some [a, b] else none
  | _ => none

theorem keyP_rel {σ : List (Nat × Nat)} {F : Fr} {w : World} {v : Value} {p : PV} {ag : Bool} {l : List Int} (h : RelV σ F w v p) (hk : keyP ag p = some l) : v = kv ag l ∧ l.length = kl ag := by
  unfold keyP at hk
  split at hk
  · rename_i n
    cases ag <;> simp at hk
    subst hk
    exact ⟨by rw [h.int_inv]; rfl, rfl⟩
  · rename_i a b
    cases ag <;> simp at hk
    subst hk
    obtain ⟨cs, rfl, hn, hr⟩ := h.agg_inv
    have := concL_rel (cs := cs.toList) (ps := [.int .i64 a, .int .i64 b]) (us := [.int .i64 a, .int .i64 b]) (by simpa using hn) (fun i hi => by
      have := hr i hi
      have e : cs.toList.getD i Go.undef = cs.getD i Go.undef := by simp [List.getD, Array.getD_eq_getD_getElem?]
      rw [e]; exact this) rfl
    refine ⟨?_, rfl⟩
    rw [show cs = cs.toList.toArray by simp, this]
    rfl
  · simp at hk

abbrev ME := List (List Int × PV)
def mpos (l : List Int) : ME → Nat
  | [] => 0
  | e :: r => if e.1 = l then 0 else mpos l r + 1
def mget (z : PV) (l : List Int) : ME → PV
  | [] => z
  | e :: r => if e.1 = l then e.2 else mget z l r
def mput (l : List Int) (v : PV) : ME → ME
  | [] => [(l, v)]
  | e :: r => if e.1 = l then (l, v) :: r else e :: mput l v r
def ment (z : PV) (l : List Int) : ME → ME
  | [] => [(l, z)]
  | e :: r => if e.1 = l then e :: r else e :: ment z l r
def mset (n : Nat) (v : PV) (es : ME) : ME := es.modify n fun e => (e.1, v)
def md : List Int × PV := ([], .undef)

theorem mpos_le (l : List Int) : ∀ es : ME, mpos l es ≤ es.length
  | [] => Nat.le_refl _
  | e :: r => by
    simp only [mpos]
    split
    · simp
    · have := mpos_le l r; simp; omega
theorem mpos_hit (l : List Int) : ∀ es : ME, mpos l es < es.length → (es.getD (mpos l es) md).1 = l
  | [], h => by simp at h
  | e :: r, h => by
    simp only [mpos] at h ⊢
    split
    · rename_i e1; simpa using e1
    · rename_i e1
      rw [if_neg e1] at h
      simpa using mpos_hit l r (by simpa using h)
theorem mget_eq (z : PV) (l : List Int) : ∀ es : ME, mget z l es = if mpos l es < es.length then (es.getD (mpos l es) md).2 else z
  | [] => rfl
  | e :: r => by
    simp only [mget, mpos]
    split
    · simp
    · rw [mget_eq z l r]; simp
theorem mput_hit (l : List Int) (v : PV) : ∀ es : ME, mpos l es < es.length → mput l v es = es.set (mpos l es) (l, v)
  | [], h => by simp at h
  | e :: r, h => by
    simp only [mput, mpos] at h ⊢
    split
    · rfl
    · rename_i e1
      rw [if_neg e1] at h
      rw [mput_hit l v r (by simpa using h)]; rfl
theorem mput_miss (l : List Int) (v : PV) : ∀ es : ME, ¬ mpos l es < es.length → mput l v es = es ++ [(l, v)]
  | [], h => rfl
  | e :: r, h => by
    simp only [mput, mpos] at h ⊢
    split
    · rename_i e1; rw [if_pos e1] at h; simp at h
    · rename_i e1
      rw [if_neg e1] at h
      rw [mput_miss l v r (by simpa using h)]; rfl
theorem ment_hit (z : PV) (l : List Int) : ∀ es : ME, mpos l es < es.length → ment z l es = es
  | [], h => by simp at h
  | e :: r, h => by
    simp only [ment, mpos] at h ⊢
    split
    · rfl
    · rename_i e1
      rw [if_neg e1] at h
      rw [ment_hit z l r (by simpa using h)]
theorem ment_miss (z : PV) (l : List Int) : ∀ es : ME, ¬ mpos l es < es.length → ment z l es = es ++ [(l, z)]
  | [], h => rfl
  | e :: r, h => by
    simp only [ment, mpos] at h ⊢
    split
    · rename_i e1; rw [if_pos e1] at h; simp at h
    · rename_i e1
      rw [if_neg e1] at h
      rw [ment_miss z l r (by simpa using h)]; rfl
theorem mpos_ment (z : PV) (l : List Int) : ∀ es : ME, mpos l es < (ment z l es).length
  | [] => by simp [ment, mpos]
  | e :: r => by
    simp only [ment, mpos]
    split
    · simp
    · have := mpos_ment z l r; simpa using this
/-- An entry made and then stored to. -/
theorem mset_ment (z v : PV) (l : List Int) : ∀ es : ME, mset (mpos l es) v (ment z l es) = mput l v es
  | [] => by simp [mset, mpos, ment, mput]
  | e :: r => by
    simp only [ment, mpos, mput]
    split
    · rename_i e1; simp [mset, e1]
    · have := mset_ment z v l r
      simp only [mset] at this ⊢
      simpa using this
theorem mget_mput (z v : PV) (l l' : List Int) : ∀ es : ME, mget z l' (mput l v es) = if l = l' then v else mget z l' es
  | [] => by simp [mput, mget]
  | e :: r => by
    have ih := mget_mput z v l l' r
    simp only [mput]
    by_cases e1 : e.1 = l
    · rw [if_pos e1]; simp only [mget]
      by_cases e2 : l = l'
      · simp [e2]
      · simp [e2, e1]
    · rw [if_neg e1]; simp only [mget]
      by_cases e2 : e.1 = l'
      · rw [if_pos e2, if_pos e2, if_neg (fun h => e1 (e2.trans h.symm))]
      · rw [if_neg e2, if_neg e2]; exact ih
theorem all_mput (f : PV → Bool) (l : List Int) (v : PV) : ∀ es : ME, (es.all fun e => f e.2) = true → f v = true → ((mput l v es).all fun e => f e.2) = true
  | [], _, hv => by simp [mput, hv]
  | e :: r, h, hv => by
    simp only [List.all_cons, Bool.and_eq_true] at h
    simp only [mput]
    split
    · simp only [List.all_cons, hv, h.2, Bool.and_self]
    · simp only [List.all_cons, h.1, all_mput f l v r h.2 hv, Bool.and_self]

/-- What a type of keys is asked for. -/
structure KeyT (P : Program) (kt : TypeId) (ag : Bool) : Prop where
  chk : ∀ (l : List Int) (e : Bool) (w : World), l.length = kl ag → (Instr.checkKey e 10000 kt (kv ag l)).run P w = .ok () w
  find : ∀ (l : List Int) (w : World) (es : List MapEntry) (L : ME), l.length = kl ag → es.map (·.key) = L.map (fun e => kv ag e.1) → (∀ e ∈ L, e.1.length = kl ag) →
    ∃ r, (Instr.findKey kt (kv ag l) es).run P w = .ok r w ∧ ((¬ mpos l L < L.length ∧ r = none) ∨ (mpos l L < L.length ∧ ∃ e, es[mpos l L]? = some e ∧ r = some (mpos l L, e.val)))

theorem sameBits_kv (ag : Bool) (l : List Int) (h : l.length = kl ag) (n : Nat) : Instr.sameBits (n + 1) (kv ag l) (kv ag l) = true := by
  cases ag with
  | false => simp [kv, Instr.sameBits]
  | true =>
    obtain ⟨a, b, rfl⟩ : ∃ a b, l = [a, b] := by
      match l, h with
      | [a, b], _ => exact ⟨a, b, rfl⟩
    cases n with
    | zero => simp [kv, Instr.sameBits]
    | succ n => simp [kv, Instr.sameBits]
theorem run_stays (ag : Bool) (l : List Int) (h : l.length = kl ag) (w : World) : (Instr.keyThatStays (kv ag l) (kv ag l)).run P w = .ok (kv ag l) w := by
  simp [Instr.keyThatStays, sameBits_kv ag l h 9999]

theorem findNow_spec' (l : List Int) (hl : l.length = 1) : ∀ (es : List MapEntry) (L : ME) (i : Nat), es.map (·.key) = L.map (fun e => kv false e.1) → (∀ e ∈ L, e.1.length = 1) →
    ∃ r, Instr.findNow (.int .i64) (kv false l) es i = some r ∧ ((¬ mpos l L < L.length ∧ r = none) ∨ (mpos l L < L.length ∧ ∃ e, es[mpos l L]? = some e ∧ r = some (i + mpos l L, e.val)))
  | [], [], i, _, _ => ⟨none, rfl, .inl ⟨by simp [mpos], rfl⟩⟩
  | [], _ :: _, i, h, _ => by simp at h
  | _ :: _, [], i, h, _ => by simp at h
  | e :: es, x :: L, i, h, hL => by
    simp only [List.map_cons, List.cons.injEq] at h
    obtain ⟨h1, h2⟩ := h
    obtain ⟨a, rfl⟩ : ∃ a, l = [a] := List.length_eq_one_iff.1 hl
    obtain ⟨b, hb⟩ : ∃ b, x.1 = [b] := List.length_eq_one_iff.1 (hL x (by simp))
    have hs : Instr.sameNow (.int .i64) (kv false [a]) e.key = some (a == b) := by rw [h1, hb]; simp [kv, Instr.sameNow]
    by_cases hab : a = b
    · subst hab
      refine ⟨some (i, e.val), by simp [Instr.findNow, hs], .inr ⟨by simp [mpos, hb], e, by simp [mpos, hb], by simp [mpos, hb]⟩⟩
    · obtain ⟨r, r1, r2⟩ := findNow_spec' [a] rfl es L (i + 1) h2 (fun e he => hL e (by simp [he]))
      have hm : mpos [a] (x :: L) = mpos [a] L + 1 := by simp [mpos, hb, Ne.symm hab]
      refine ⟨r, ?_, ?_⟩
      · have : (a == b) = false := by simpa using hab
        rw [this] at hs
        simp only [Instr.findNow, hs]; exact r1
      · rw [hm]
        rcases r2 with ⟨c1, c2⟩ | ⟨c1, e', c2, c3⟩
        · exact .inl ⟨by simpa using c1, c2⟩
        · exact .inr ⟨by simpa using c1, e', by simpa using c2, by rw [c3]; congr 2; omega⟩

theorem keyT_int {kt : TypeId} (hu : P.underlying kt = some (.int .i64)) : KeyT P kt false where
  chk l e w _ := by
    rw [show (10000 : Nat) = 9999 + 1 from rfl]
    unfold Instr.checkKey
    simp [run_underlying hu, kv]
  find l w es L hl h hL := by
    obtain ⟨r, h1, h2⟩ := findNow_spec' l hl es L 0 h (fun e he => by simpa [kl] using hL e he)
    refine ⟨r, by simp [Instr.findKey, run_underlying hu, h1], ?_⟩
    simpa using h2

theorem findAsking_spec {kt : TypeId} (l : List Int) (hl : l.length = 2) (w : World) (hq : ∀ a b a' b' : Int, (Op.equal kt (kv true [a, b]) (kv true [a', b'])).run P w = .ok ((a == a') && (b == b')) w) : ∀ (es : List MapEntry) (L : ME) (i : Nat),
    es.map (·.key) = L.map (fun e => kv true e.1) → (∀ e ∈ L, e.1.length = 2) →
    ∃ r, (Instr.findAsking kt (kv true l) es i).run P w = .ok r w ∧ ((¬ mpos l L < L.length ∧ r = none) ∨ (mpos l L < L.length ∧ ∃ e, es[mpos l L]? = some e ∧ r = some (i + mpos l L, e.val)))
  | [], [], i, _, _ => ⟨none, rfl, .inl ⟨by simp [mpos], rfl⟩⟩
  | [], _ :: _, i, h, _ => by simp at h
  | _ :: _, [], i, h, _ => by simp at h
  | e :: es, x :: L, i, h, hL => by
    simp only [List.map_cons, List.cons.injEq] at h
    obtain ⟨h1, h2⟩ := h
    obtain ⟨a, b, rfl⟩ : ∃ a b, l = [a, b] := by
      match l, hl with
      | [a, b], _ => exact ⟨a, b, rfl⟩
    obtain ⟨a', b', hb⟩ : ∃ a' b', x.1 = [a', b'] := by
      match x.1, hL x (by simp) with
      | [a, b], _ => exact ⟨a, b, rfl⟩
    have hs := hq a b a' b'
    rw [← hb, ← h1] at hs
    by_cases hab : a = a' ∧ b = b'
    · obtain ⟨rfl, rfl⟩ := hab
      refine ⟨some (i, e.val), by simp [Instr.findAsking, hs], .inr ⟨by simp [mpos, hb], e, by simp [mpos, hb], by simp [mpos, hb]⟩⟩
    · obtain ⟨r, r1, r2⟩ := findAsking_spec [a, b] rfl w hq es L (i + 1) h2 (fun e he => hL e (by simp [he]))
      have hm : mpos [a, b] (x :: L) = mpos [a, b] L + 1 := by
        have : ¬ ([a', b'] : List Int) = [a, b] := fun e => hab (by simp at e; exact ⟨e.1.symm, e.2.symm⟩)
        simp [mpos, hb, this]
      refine ⟨r, ?_, ?_⟩
      · have : ((a == a') && (b == b')) = false := by
          rw [← Bool.not_eq_true, Bool.and_eq_true, beq_iff_eq, beq_iff_eq]; exact hab
        rw [this] at hs
        simp [Instr.findAsking, hs]; exact r1
      · rw [hm]
        rcases r2 with ⟨c1, c2⟩ | ⟨c1, e', c2, c3⟩
        · exact .inl ⟨by simpa using c1, c2⟩
        · exact .inr ⟨by simpa using c1, e', by simpa using c2, by rw [c3]; congr 2; omega⟩

theorem keyT_two {kt : TypeId} {d : TypeDesc} (hu : P.underlying kt = some d) (hd : (∃ fs, d = .struct fs) ∨ ∃ n e, d = .array n e) (hc : ∀ (a b : Int) (e : Bool) (w : World), (Instr.checkKey e 10000 kt (kv true [a, b])).run P w = .ok () w)
    (hq : ∀ (w : World) (a b a' b' : Int), (Op.equal kt (kv true [a, b]) (kv true [a', b'])).run P w = .ok ((a == a') && (b == b')) w) : KeyT P kt true where
  chk l e w hl := by
    match l, hl with
    | [a, b], _ => exact hc a b e w
  find l w es L hl h hL := by
    obtain ⟨r, h1, h2⟩ := findAsking_spec l hl w (hq w) es L 0 h (fun e he => by simpa [kl] using hL e he)
    refine ⟨r, ?_, by simpa using h2⟩
    cases es with
    | nil =>
      simp only [Instr.findAsking] at h1
      rcases hd with ⟨fs, rfl⟩ | ⟨n, e, rfl⟩ <;> (simp [Instr.findKey, run_underlying hu, Instr.findNow]; simpa using h1)
    | cons e es =>
      have hs : Instr.findNow d (kv true l) (e :: es) 0 = none := by
        rcases hd with ⟨fs, rfl⟩ | ⟨n, e, rfl⟩ <;> simp [Instr.findNow, Instr.sameNow]
      simp [Instr.findKey, run_underlying hu, hs, h1]

theorem mArr_size (ag : Bool) (es : ME) (f : Nat → Value) : (mArr ag es f).size = es.length := by simp [mArr]
theorem mArr_get (ag : Bool) (es : ME) (f : Nat → Value) (i : Nat) : (mArr ag es f)[i]? = if i < es.length then some { key := kv ag (es.getD i md).1, val := f i, born := i } else none := by
  simp only [mArr, List.getElem?_toArray, List.getElem?_map]
  by_cases h : i < es.length
  · rw [if_pos h, List.getElem?_range h]; rfl
  · rw [if_neg h]
    have : (List.range es.length)[i]? = none := by simp; omega
    rw [this]; rfl
theorem mArr_keys (ag : Bool) (es : ME) (f : Nat → Value) : (mArr ag es f).toList.map (·.key) = es.map (fun e => kv ag e.1) := by
  apply List.ext_getElem?
  intro i
  simp only [List.getElem?_map, mArr, List.map_map, List.getElem?_range]
  by_cases h : i < es.length
  · simp [h, List.getD]
  · simp [h]
theorem mArr_push (ag : Bool) (es : ME) (f : Nat → Value) (l : List Int) (p : PV) (v : Value) : (mArr ag es f).push { key := kv ag l, val := v, born := es.length } = mArr ag (es ++ [(l, p)]) (fun i => if i = es.length then v else f i) := by
  apply Array.ext_getElem?
  intro i
  rw [mArr_get, Array.getElem?_push, mArr_size, mArr_get]
  by_cases h1 : i = es.length
  · subst h1; simp [List.getD]
  · rw [if_neg h1]
    by_cases h2 : i < es.length
    · have : (es ++ [(l, p)]).getD i md = es.getD i md := by simp [List.getD, List.getElem?_append, h2]
      rw [if_pos h2, if_pos (by simp; omega), this, if_neg h1]
    · rw [if_neg h2, if_neg (by simp; omega)]
theorem mArr_modify (ag : Bool) (es : ME) (f : Nat → Value) (n : Nat) (l : List Int) (p : PV) (v : Value) (g : MapEntry → MapEntry) (hn : n < es.length) (hl : (es.getD n md).1 = l) (hg : ∀ u, g { key := kv ag l, val := u, born := n } = { key := kv ag l, val := v, born := n }) :
    (mArr ag es f).modify n g = mArr ag (es.set n (l, p)) (fun i => if i = n then v else f i) := by
  apply Array.ext_getElem?
  intro i
  rw [mArr_get, Array.getElem?_modify, mArr_get]
  simp only [List.length_set]
  by_cases h1 : n = i
  · subst h1
    rw [if_pos rfl, if_pos hn, if_pos hn]
    have : (es.set n (l, p)).getD n md = (l, p) := by simp [List.getD, hn]
    rw [this, hl]; simp [hg]
  · have : (es.set n (l, p)).getD i md = es.getD i md := by simp [List.getD, List.getElem?_set, h1]
    rw [if_neg h1, this]
    split
    · rw [if_neg (Ne.symm h1)]
    · rfl
theorem mArr_same (ag : Bool) (es : ME) (f : Nat → Value) (n : Nat) (g : MapEntry → MapEntry) (hn : n < es.length) (hg : g { key := kv ag (es.getD n md).1, val := f n, born := n } = { key := kv ag (es.getD n md).1, val := f n, born := n }) :
    (mArr ag es f).modify n g = mArr ag es f := by
  apply Array.ext_getElem?
  intro i
  rw [Array.getElem?_modify, mArr_get]
  by_cases h1 : n = i
  · subst h1
    rw [if_pos rfl, if_pos hn]; simp only [Option.map_some, hg]
  · rw [if_neg h1]

theorem Ow.putMap {B : Nat} {σ : List (Nat × Nat)} {F : Fr} {w : World} {H : Heap} (hI : Ow B σ F w H) {h0 : Nat} {x0 : Nat × Nat} {ag : Bool} {es es' : ME} {f' : Nat → Value}
    (hb : σ[h0]? = some x0) (hk : H[h0]? = some (.map ag es)) (hr : ∀ i, i < es'.length → RelV σ F w (f' i) (es'.getD i md).2 ∧ (es'.getD i md).1.length = kl ag) :
    Ow B σ F { w with heap := w.heap.setIfInBounds x0.1 (.map (mArr ag es' f') es'.length) } (H.set h0 (.map ag es')) ∧ Step B σ F w σ F { w with heap := w.heap.setIfInBounds x0.1 (.map (mArr ag es' f') es'.length) } := by
  have hlt := (hI.big h0 x0 _ hb hk (by simp)).2
  refine hI.putB hb hk (by simp) (fun k hk => by simp [Ne.symm hk]) (by simp) rfl rfl rfl fun hst hnF => ⟨⟨f', by simp [hlt], fun i hi => ⟨hst.rel (hr i hi).1, (hr i hi).2⟩⟩, hnF⟩

theorem aggB_under {P : Program} {t : TypeId} {r : Ty} {kt et : TypeId} (h : mkTy P t = some r) (hk : r.k = .map kt et) : P.underlying t = some (.map kt et) := by
  obtain ⟨d, hd, hk'⟩ := underT h
  rw [hk] at hk'
  cases d <;> simp [knOf] at hk'
  obtain ⟨rfl, rfl⟩ := hk'
  exact hd

/-- A zero value, as a pure one. -/
def ZeroOk (P : Program) (t : TypeId) (p : PV) : Prop := ∃ z, (∀ w, (zeroValue t).run P w = .ok z w) ∧ ∀ (σ : List (Nat × Nat)) (F : Fr) (w : World), RelV σ F w z p

theorem sound_makeMap {t : TypeId} (ag : Bool) (H : Heap) : Sound P (.makeMap t none) [] H (.mp H.length) (H ++ [.map ag []]) := by
  intro B σ F w a o ho hI _ _
  obtain ⟨h1, h2⟩ := hI.allocB (.map #[] 0) 0 (.map ag []) fun hst hnF => ⟨⟨fun _ => Go.undef, by show (w.heap.push _)[w.heap.size]? = _; simp [mArr], fun i hi => by simp at hi⟩, hnF⟩
  refine .value (v := .map (some w.heap.size)) (w' := w.alloc (.map #[] 0)) ?_ ⟨_, _, h1, h2, ?_, .none rfl rfl⟩
  · simp [execOp, ho, Instr.makeMap, newObj, Sem.run]
  · exact .mp H.length (w.heap.size, 0) (by rw [← hI.len]; simp)

theorem run_getMap {w : World} {r : Nat} {es : Array MapEntry} {clock : Nat} (hb : w.heap[r]? = some (.map es clock)) : (getObj r).run P w = .ok (.map es clock) w := by
  simp [getObj, Sem.run, hb]
theorem run_setMap {w : World} {r : Nat} {es : Array MapEntry} {clock : Nat} (o : Obj) (hb : w.heap[r]? = some (.map es clock)) : (setObj r o).run P w = .ok () { w with heap := w.heap.setIfInBounds r o } := by
  simp [setObj, Sem.run, hb]

theorem getD_md {es : ME} {i : Nat} : es.getD i ([], PV.undef) = es.getD i md := rfl

section
variable {t kt et : TypeId} {r : Ty} (h : mkTy P t = some r) (hk : r.k = .map kt et) {ag : Bool} (hkt : KeyT P kt ag)
include h hk hkt

theorem sound_lookup (x y : Operand) (h0 : Nat) (kp z : PV) (l : List Int) (es : ME) (H : Heap) (hH : H[h0]? = some (.map ag es)) (hl : keyP ag kp = some l) (hz : ZeroOk P et z) :
    Sound P (.lookup t x y false) [.mp h0, kp] H (mget z l es) H :=
  Sound.val fun σ F w a o B ho hI _ hr => by
    have hx : RelV σ F w (a.eval x) (.mp h0) := by simpa using opd0 hr 0 (by simp) x (by simp [Op.operands])
    have hy : RelV σ F w (a.eval y) kp := by simpa using opd0 hr 1 (by simp) y (by simp [Op.operands])
    obtain ⟨x0, hb, hv⟩ := hx.mp_inv
    obtain ⟨hkv, hll⟩ := keyP_rel hy hl
    obtain ⟨⟨f, hobj, hrel⟩, hnF⟩ := hI.ok h0 x0 _ hb hH
    obtain ⟨z0, z1, z2⟩ := hz
    have hu := aggB_under h hk
    obtain ⟨res, f1, f2⟩ := hkt.find l w (mArr ag es f).toList es hll (mArr_keys ag es f) (fun e he => by
      obtain ⟨i, hi, rfl⟩ := List.getElem_of_mem he
      simpa [List.getD, hi] using (hrel i hi).2)
    rw [mget_eq]
    have hc := fun e => hkt.chk l e w hll
    rcases f2 with ⟨c1, rfl⟩ | ⟨c1, e, c2, rfl⟩
    · rw [if_neg c1]
      refine ⟨z0, ?_, z2 σ F w⟩
      simp [execOp, ho, hv, hkv, Instr.lookup, run_underlying hu, run_getMap hobj, hc, f1, z1]
    · rw [if_pos c1]
      have hval : e.val = f (mpos l es) := by
        have := mArr_get ag es f (mpos l es)
        rw [if_pos c1] at this
        simp only [Array.getElem?_toList] at c2
        rw [this] at c2
        simp only [Option.some.injEq] at c2
        rw [← c2]
      refine ⟨e.val, ?_, by rw [hval]; exact (hrel _ c1).1⟩
      simp [execOp, ho, hv, hkv, Instr.lookup, run_underlying hu, run_getMap hobj, hc, f1]

theorem sound_mapEntry (x y : Operand) (h0 : Nat) (kp z : PV) (l : List Int) (es : ME) (H : Heap) (hH : H[h0]? = some (.map ag es)) (hl : keyP ag kp = some l) (hz : ZeroOk P et z) :
    Sound P (.mapEntry t x y) [.mp h0, kp] H (.tup [mget z l es, .int .i64 (mpos l es)]) (H.set h0 (.map ag (ment z l es))) := by
  intro B σ F w a o ho hI _ hr
  have hx : RelV σ F w (a.eval x) (.mp h0) := by simpa using opd0 hr 0 (by simp) x (by simp [Op.operands])
  have hy : RelV σ F w (a.eval y) kp := by simpa using opd0 hr 1 (by simp) y (by simp [Op.operands])
  obtain ⟨x0, hb, hv⟩ := hx.mp_inv
  obtain ⟨hkv, hll⟩ := keyP_rel hy hl
  obtain ⟨⟨f, hobj, hrel⟩, hnF⟩ := hI.ok h0 x0 _ hb hH
  obtain ⟨z0, z1, z2⟩ := hz
  have hu := aggB_under h hk
  obtain ⟨res, f1, f2⟩ := hkt.find l w (mArr ag es f).toList es hll (mArr_keys ag es f) (fun e he => by
    obtain ⟨i, hi, rfl⟩ := List.getElem_of_mem he
    simpa [List.getD, hi] using (hrel i hi).2)
  have hc := fun e => hkt.chk l e w hll
  rcases f2 with ⟨c1, rfl⟩ | ⟨c1, e, c2, rfl⟩
  · have hp : mpos l es = es.length := by have := mpos_le l es; omega
    rw [ment_miss z l es c1, mget_eq, if_neg c1, hp]
    obtain ⟨q1, q2⟩ := hI.putMap (es' := es ++ [(l, z)]) (f' := fun i => if i = es.length then z0 else f i) hb hH (by
      intro i hi
      by_cases hie : i = es.length
      · subst hie
        simp only [if_true, List.getD]
        simp; exact ⟨z2 _ _ _, hll⟩
      · have hi2 : i < es.length := by simp at hi; omega
        have : (es ++ [(l, z)]).getD i md = es.getD i md := by simp [List.getD, List.getElem?_append, hi2]
        rw [if_neg hie, this]; exact hrel i hi2)
    refine .value (v := .tuple #[z0, .int .i64 es.length]) ?_ ⟨σ, F, q1, q2, ?_, .none rfl rfl⟩
    · simp [execOp, ho, hv, hkv, Instr.mapEntry, run_underlying hu, run_getMap hobj, hc, f1, z1, run_setMap _ hobj, goInt, mArr_push ag es f l z z0]
    · refine .tup _ _ rfl fun i hi => ?_
      match i, hi with
      | 0, _ => exact z2 _ _ _
      | 1, _ => exact .frz (.int _ _)
  · rw [ment_hit z l es c1, mget_eq, if_pos c1]
    have hget := mArr_get ag es f (mpos l es)
    rw [if_pos c1] at hget
    have hval : e = { key := kv ag l, val := f (mpos l es), born := mpos l es } := by
      simp only [Array.getElem?_toList] at c2
      rw [hget] at c2
      simp only [Option.some.injEq] at c2
      rw [← c2, mpos_hit l es c1]
    subst hval
    rw [mpos_hit l es c1] at hget
    have hmod : (mArr ag es f).modify (mpos l es) (fun e => { e with key := kv ag l }) = mArr ag es f := mArr_same ag es f _ _ c1 (by rw [mpos_hit l es c1])
    obtain ⟨q1, q2⟩ := hI.putMap (es' := es) (f' := f) hb hH (fun i hi => hrel i hi)
    refine .value (v := .tuple #[f (mpos l es), .int .i64 (mpos l es)]) ?_ ⟨σ, F, q1, q2, ?_, .none rfl rfl⟩
    · simp [execOp, ho, hv, hkv, Instr.mapEntry, run_underlying hu, run_getMap hobj, hc, f1, hget, run_stays ag l hll, run_setMap _ hobj, goInt, hmod]
    · refine .tup _ _ rfl fun i hi => ?_
      match i, hi with
      | 0, _ => exact q2.rel (hrel _ c1).1
      | 1, _ => exact .frz (.int _ _)

theorem mapUpdate_run (h0 : Nat) (kp p : PV) (l : List Int) (es : ME) (H : Heap) (hH : H[h0]? = some (.map ag es)) (hl : keyP ag kp = some l) {B : Nat} {σ : List (Nat × Nat)} {F : Fr} {w : World} (hI : Ow B σ F w H) {vm vk v : Value}
    (hx : RelV σ F w vm (.mp h0)) (hy : RelV σ F w vk kp) (hp : RelV σ F w v p) :
    ∃ w', (Instr.mapUpdate t vm vk v).run P w = .ok () w' ∧ Ow B σ F w' (H.set h0 (.map ag (mput l p es))) ∧ Step B σ F w σ F w' := by
  obtain ⟨x0, hb, hv⟩ := hx.mp_inv
  obtain ⟨hkv, hll⟩ := keyP_rel hy hl
  obtain ⟨⟨f, hobj, hrel⟩, hnF⟩ := hI.ok h0 x0 _ hb hH
  have hu := aggB_under h hk
  obtain ⟨res, f1, f2⟩ := hkt.find l w (mArr ag es f).toList es hll (mArr_keys ag es f) (fun e he => by
    obtain ⟨i, hi, rfl⟩ := List.getElem_of_mem he
    simpa [List.getD, hi] using (hrel i hi).2)
  have hc := fun e => hkt.chk l e w hll
  rcases f2 with ⟨c1, rfl⟩ | ⟨c1, e, c2, rfl⟩
  · rw [mput_miss l p es c1]
    obtain ⟨q1, q2⟩ := hI.putMap (es' := es ++ [(l, p)]) (f' := fun i => if i = es.length then v else f i) hb hH (by
      intro i hi
      by_cases hie : i = es.length
      · subst hie
        simp only [if_true, List.getD]
        simp; exact ⟨hp, hll⟩
      · have hi2 : i < es.length := by simp at hi; omega
        have : (es ++ [(l, p)]).getD i md = es.getD i md := by simp [List.getD, List.getElem?_append, hi2]
        rw [if_neg hie, this]; exact hrel i hi2)
    refine ⟨_, ?_, q1, q2⟩
    simp [hv, hkv, Instr.mapUpdate, run_underlying hu, run_getMap hobj, hc, f1, run_setMap _ hobj, mArr_push ag es f l p v]
  · rw [mput_hit l p es c1]
    have hget := mArr_get ag es f (mpos l es)
    rw [if_pos c1, mpos_hit l es c1] at hget
    have hmod : (mArr ag es f).modify (mpos l es) (fun e => { e with key := kv ag l, val := v }) = mArr ag (es.set (mpos l es) (l, p)) (fun i => if i = mpos l es then v else f i) :=
      mArr_modify ag es f _ l p v _ c1 (mpos_hit l es c1) (fun u => rfl)
    obtain ⟨q1, q2⟩ := hI.putMap (es' := es.set (mpos l es) (l, p)) (f' := fun i => if i = mpos l es then v else f i) hb hH (by
      intro i hi
      simp only [List.length_set] at hi
      by_cases hie : i = mpos l es
      · subst hie
        simp only [if_true, List.getD]
        simp [hi]; exact ⟨hp, hll⟩
      · have : (es.set (mpos l es) (l, p)).getD i md = es.getD i md := by simp [List.getD, List.getElem?_set, Ne.symm hie]
        rw [if_neg hie, this]; exact hrel i hi)
    simp only [List.length_set] at q1 q2
    refine ⟨_, ?_, q1, q2⟩
    simp [hv, hkv, Instr.mapUpdate, run_underlying hu, run_getMap hobj, hc, f1, hget, run_stays ag l hll, run_setMap _ hobj, hmod]

theorem sound_mapUpdate (x y z : Operand) (h0 : Nat) (kp p : PV) (l : List Int) (es : ME) (H : Heap) (hH : H[h0]? = some (.map ag es)) (hl : keyP ag kp = some l) :
    Sound P (.mapUpdate t x y z) [.mp h0, kp, p] H .undef (H.set h0 (.map ag (mput l p es))) := by
  intro B σ F w a o ho hI _ hr
  have hx : RelV σ F w (a.eval x) (.mp h0) := by simpa using opd0 hr 0 (by simp) x (by simp [Op.operands])
  have hy : RelV σ F w (a.eval y) kp := by simpa using opd0 hr 1 (by simp) y (by simp [Op.operands])
  have hz : RelV σ F w (a.eval z) p := by simpa using opd0 hr 2 (by simp) z (by simp [Op.operands])
  obtain ⟨w', r1, r2, r3⟩ := mapUpdate_run h hk hkt h0 kp p l es H hH hl hI hx hy hz
  exact .skip (w' := w') (by simp [execOp, ho, r1]) ⟨σ, F, r2, r3, .frz (.undef _), .none rfl rfl⟩
theorem sound_insert (x y z : Operand) (h0 : Nat) (kp p : PV) (l : List Int) (es : ME) (H : Heap) (hH : H[h0]? = some (.map ag es)) (hl : keyP ag kp = some l) :
    Sound P (.insert t x y z) [.mp h0, kp, p] H .undef (H.set h0 (.map ag (mput l p es))) := by
  intro B σ F w a o ho hI _ hr
  have hx : RelV σ F w (a.eval x) (.mp h0) := by simpa using opd0 hr 0 (by simp) x (by simp [Op.operands])
  have hy : RelV σ F w (a.eval y) kp := by simpa using opd0 hr 1 (by simp) y (by simp [Op.operands])
  have hz : RelV σ F w (a.eval z) p := by simpa using opd0 hr 2 (by simp) z (by simp [Op.operands])
  obtain ⟨w', r1, r2, r3⟩ := mapUpdate_run h hk hkt h0 kp p l es H hH hl hI hx hy hz
  exact .skip (w' := w') (by simp [execOp, ho, r1]) ⟨σ, F, r2, r3, .frz (.undef _), .none rfl rfl⟩
end

theorem findIdx_born (ag : Bool) (es : ME) (f : Nat → Value) (n : Nat) (hn : n < es.length) : (mArr ag es f).findIdx? (fun e => (e.born : Int) == (n : Int)) = some n := by
  rw [Array.findIdx?_eq_some_iff_getElem]
  refine ⟨by simpa [mArr_size] using hn, ?_, ?_⟩
  · simp [mArr]
  · intro j hj
    simp [mArr]; omega

theorem sound_entryStore {t : TypeId} (x s z : Operand) (h0 n : Nat) (p : PV) (ag : Bool) (es : ME) (H : Heap) (hH : H[h0]? = some (.map ag es)) (hn : n < es.length) :
    Sound P (.entryStore t x s z) [.mp h0, .int .i64 n, p] H .undef (H.set h0 (.map ag (mset n p es))) := by
  intro B σ F w a o ho hI _ hr
  have hx : RelV σ F w (a.eval x) (.mp h0) := by simpa using opd0 hr 0 (by simp) x (by simp [Op.operands])
  have hy : RelV σ F w (a.eval s) (.int .i64 n) := by simpa using opd0 hr 1 (by simp) s (by simp [Op.operands])
  have hz : RelV σ F w (a.eval z) p := by simpa using opd0 hr 2 (by simp) z (by simp [Op.operands])
  obtain ⟨x0, hb, hv⟩ := hx.mp_inv
  obtain ⟨⟨f, hobj, hrel⟩, hnF⟩ := hI.ok h0 x0 _ hb hH
  have hms : mset n p es = es.set n ((es.getD n md).1, p) := by
    unfold mset
    apply List.ext_getElem?
    intro i
    rw [List.getElem?_modify, List.getElem?_set]
    by_cases h1 : n = i
    · subst h1; simp [hn, List.getD]
    · simp [h1]
  have hmod : (mArr ag es f).modify n (fun e => { e with val := a.eval z }) = mArr ag (es.set n ((es.getD n md).1, p)) (fun i => if i = n then a.eval z else f i) :=
    mArr_modify ag es f n _ p (a.eval z) _ hn rfl (fun u => rfl)
  obtain ⟨q1, q2⟩ := hI.putMap (es' := es.set n ((es.getD n md).1, p)) (f' := fun i => if i = n then a.eval z else f i) hb hH (by
    intro i hi
    simp only [List.length_set] at hi
    by_cases hie : i = n
    · subst hie
      have := (hrel i hi).2
      simp only [if_true, List.getD]
      simp [hi]; exact ⟨hz, by simpa [List.getD, hi] using this⟩
    · have : (es.set n ((es.getD n md).1, p)).getD i md = es.getD i md := by simp [List.getD, List.getElem?_set, Ne.symm hie]
      rw [if_neg hie, this]; exact hrel i hi)
  simp only [List.length_set] at q1 q2
  rw [hms]
  refine .skip (w' := { w with heap := w.heap.setIfInBounds x0.1 (.map (mArr ag (es.set n ((es.getD n md).1, p)) (fun i => if i = n then a.eval z else f i)) es.length) }) ?_ ⟨σ, F, q1, q2, .frz (.undef _), .none rfl rfl⟩
  simp [execOp, ho, hv, hy.int_inv, Instr.entryStore, asInt, asIntOf, run_getMap hobj, findIdx_born ag es f n hn, run_setMap _ hobj, hmod]

theorem sound_range {t kt et : TypeId} {r : Ty} (h : mkTy P t = some r) (hk : r.k = .map kt et) (x : Operand) (h0 : Nat) (ag : Bool) (es : ME) (H : Heap) (hH : H[h0]? = some (.map ag es)) :
    Sound P (.range t x) [.mp h0] H (.ptr H.length 1 0 0) (H ++ [.iter h0 es.length []]) := by
  intro B σ F w a o ho hI _ hr
  have hx : RelV σ F w (a.eval x) (.mp h0) := by simpa using opd0 hr 0 (by simp) x (by simp [Op.operands])
  obtain ⟨x0, hb, hv⟩ := hx.mp_inv
  obtain ⟨⟨f, hobj, hrel⟩, hnF⟩ := hI.ok h0 x0 _ hb hH
  have hu := aggB_under h hk
  obtain ⟨h1, h2⟩ := hI.allocB (.mapIter (some x0.1) es.length #[] es.length) 0 (.iter h0 es.length []) fun hst hnF => ⟨⟨x0, (hst (h0 + 1)).pre _ _ (by omega) hb, by show (w.heap.push _)[w.heap.size]? = _; simp⟩, hnF⟩
  refine .value (v := .pointer (some ⟨w.heap.size, 0, none⟩)) (w' := w.alloc (.mapIter (some x0.1) es.length #[] es.length)) ?_ ⟨_, _, h1, h2, ?_, .none rfl rfl⟩
  · simp [execOp, ho, hv, Instr.range, run_underlying hu, run_getMap hobj, newObj, Sem.run]
  · have := RelV.ptr (σ := σ ++ [(w.heap.size, 0)]) (F := F) (w := w.alloc (.mapIter (some x0.1) es.length #[] es.length)) H.length 1 0 0 (w.heap.size, 0) (by rw [← hI.len]; simp)
    simpa using this
end Go.Pv

namespace Go.Pv
open Go.RowKit (Below)
variable {P : Program}

def kpv (ag : Bool) (l : List Int) : PV := if ag then .agg (l.map (PV.int .i64)) else .int .i64 (l.getD 0 0)

theorem kv_rel {σ : List (Nat × Nat)} {F : Fr} {w : World} (ag : Bool) (l : List Int) : RelV σ F w (kv ag l) (kpv ag l) := by
  refine .frz ?_
  cases ag with
  | false => exact .int _ _
  | true =>
    simp only [kv, kpv, if_true]
    refine .agg _ _ (by simp) fun i hi => ?_
    simp only [List.length_map] at hi
    have e1 : ((l.map (Value.int .i64)).toArray).getD i Go.undef = .int .i64 (l.getD i 0) := by simp [Array.getD, List.getD, hi]
    have e2 : (l.map (PV.int .i64)).getD i .undef = .int .i64 (l.getD i 0) := by simp [List.getD, hi]
    rw [e1, e2]; exact .int _ _

theorem run_next_own (w : World) (ty : TypeId) (bi bm : Nat) (ag : Bool) (es : ME) (f : Nat → Value) (seen : List Nat) (hi : w.heap[bi]? = some (.mapIter (some bm) es.length seen.toArray es.length))
    (hb : w.heap[bm]? = some (.map (mArr ag es f) es.length)) :
    ((∀ j, j < es.length → j ∈ seen) ∧ (Instr.next (.pointer (some ⟨bi, 0, none⟩)) false ty).run P w = .ok (.tuple #[.bool false]) w) ∨
    ∃ j, j < es.length ∧ j ∉ seen ∧ ∃ w1 : World, (w1.Alike w ∧ w1.tape = w.tape) ∧ (Instr.next (.pointer (some ⟨bi, 0, none⟩)) false ty).run P w =
      .ok (.tuple #[.bool true, kv ag (es.getD j md).1, f j]) { w1 with heap := w1.heap.setIfInBounds bi (.mapIter (some bm) es.length (seen ++ [j]).toArray es.length) } := by
  have hold : ∀ x ∈ (mArr ag es f).toList, x.born < es.length := by
    intro x hx
    simp only [mArr, List.mem_map, List.mem_range] at hx
    obtain ⟨i, h1, rfl⟩ := hx
    exact h1
  simp only [Instr.next, getObj, Sem.run_bind, Sem.run, hi, hb, Result.andThen, next_test_false seen.toArray (mArr ag es f) es.length es.length hold (Nat.le_refl _), Bool.false_eq_true, if_false]
  have hmem : ∀ x ∈ (Array.filter (fun e => !seen.toArray.contains e.born) (mArr ag es f)).toList, x.born < es.length := fun x hx => hold x (by simp at hx ⊢; exact hx.1)
  have hall : ∀ x, x ∈ (Array.filter (fun e => !seen.toArray.contains e.born) (mArr ag es f)).toList ↔ ∃ j, j < es.length ∧ j ∉ seen ∧ x = { key := kv ag (es.getD j md).1, val := f j, born := j } := by
    intro x
    simp only [Array.toList_filter, List.mem_filter, mArr, List.mem_map, List.mem_range]
    constructor
    · rintro ⟨⟨j, h1, rfl⟩, h2⟩
      exact ⟨j, h1, by simpa using h2, rfl⟩
    · rintro ⟨j, h1, h2, rfl⟩
      exact ⟨⟨j, h1, rfl⟩, by simpa using h2⟩
  generalize Array.filter (fun e => !seen.toArray.contains e.born) (mArr ag es f) = L at hmem hall ⊢
  have e1 : L.filter (fun x => decide (x.born < es.length)) = L := Array.filter_eq_self.2 (fun x hx => by simpa using hmem x (by simpa using hx))
  have e2 : L.filter (fun x => decide (x.born ≥ es.length)) = #[] := by
    rw [Array.filter_eq_empty_iff]
    intro x hx
    have := hmem x (by simpa using hx)
    simp
    omega
  simp only [e1, e2, Array.append_empty]
  by_cases h0 : L.size = 0
  · left
    have : L = #[] := Array.eq_empty_of_size_eq_zero h0
    subst this
    refine ⟨fun j hj => ?_, by simp [choose, Sem.run, Question.forced]⟩
    by_cases hn : j ∈ seen
    · exact hn
    · exact absurd ((hall _).2 ⟨j, hj, hn, rfl⟩) (by simp)
  · right
    have hne : L.isEmpty = false := by simp [Array.isEmpty, h0]
    simp only [hne, Bool.false_eq_true, if_false, Array.empty_append, Array.size_map]
    have hch : ∃ (j : Nat) (w1 : World), j < L.size ∧ (w1.Alike w ∧ w1.tape = w.tape) ∧ (choose (Question.mapNext L.size)).run P w = .ok j w1 := by
      by_cases hf : L.size ≤ 1
      · exact ⟨0, w, by omega, ⟨⟨rfl, rfl, rfl⟩, rfl⟩, by simp [choose, Sem.run, Question.forced, hf]⟩
      · exact ⟨_, w.drew, Nat.mod_lt _ (by omega), ⟨⟨rfl, rfl, rfl⟩, rfl⟩, by
          simp only [choose, Sem.run, Question.forced, decide_eq_true_eq, hf, if_false, Question.cut]
          rfl⟩
    obtain ⟨j, w1, hj, hal, hrun⟩ := hch
    obtain ⟨i, i1, i2, i3⟩ := (hall L[j]).1 (by simp)
    refine ⟨i, i1, i2, w1, hal, ?_⟩
    have hw1 : w1.heap[bi]? = some (.mapIter (some bm) es.length seen.toArray es.length) := by rw [hal.1.1]; exact hi
    have hset : ∀ (o' : Obj), (setObj bi o').run P w1 = .ok () { w1 with heap := w1.heap.setIfInBounds bi o' } := fun o' => by
      simp [setObj, Sem.run, hw1]
    simp only [hrun, Array.getElem?_map, Array.getElem?_eq_getElem hj, Option.map_some, Sem.run_bind, hset, Result.andThen, i3, Sem.run_pure]
    simp

theorem sound_entry (x : Operand) (hi hm n : Nat) (seen : List Nat) (j : Nat) (ag : Bool) (es : ME) (H : Heap) (h1 : H[hi]? = some (.iter hm n (seen ++ [j]))) (h2 : H[hm]? = some (.map ag es)) (h3 : n = es.length) (h4 : j < es.length) :
    Sound P (.entry x) [.ptr hi 1 0 0] H (.tup [kpv ag (es.getD j md).1, (es.getD j md).2]) H :=
  Sound.val fun σ F w a o B ho hI _ hr => by
    have hx : RelV σ F w (a.eval x) (.ptr hi 1 0 0) := by simpa using opd0 hr 0 (by simp) x (by simp [Op.operands])
    obtain ⟨x0, hb, hv⟩ := hx.ptr_inv
    obtain ⟨⟨y, hy, hobj⟩, hnF⟩ := hI.ok hi x0 _ hb h1
    obtain ⟨⟨f, hmap, hrel⟩, _⟩ := hI.ok hm y _ hy h2
    subst h3
    have hf : (mArr ag es f).find? (fun e => e.born == j) = some { key := kv ag (es.getD j md).1, val := f j, born := j } := by
      rw [← Array.find?_toList]
      have hnd : ((mArr ag es f).toList.map (·.born)).Nodup := by
        have : (mArr ag es f).toList.map (·.born) = List.range es.length := by
          simp [mArr, Function.comp_def]
        rw [this]; exact List.nodup_range
      exact find_born { key := kv ag (es.getD j md).1, val := f j, born := j } _ hnd (by simp only [mArr, List.mem_map, List.mem_range]; exact ⟨j, h4, rfl⟩)
    refine ⟨.tuple #[kv ag (es.getD j md).1, f j], ?_, .tup _ _ rfl fun i hi => ?_⟩
    · simp [execOp, ho, hv, Instr.entry, getObj, Sem.run, hobj, hmap, hf, Result.andThen]
    · match i, hi with
      | 0, _ => exact kv_rel _ _
      | 1, _ => exact (hrel j h4).1

/-- The step of a loop over a map. -/
theorem next_step (x : Operand) (ty : TypeId) (hi hm : Nat) (seen : List Nat) (ag : Bool) (es : ME) (H : Heap) (h1 : H[hi]? = some (.iter hm es.length seen)) (h2 : H[hm]? = some (.map ag es))
    {B : Nat} {σ : List (Nat × Nat)} {F : Fr} {w : World} {v : Value} (hI : Ow B σ F w H) (hx : RelV σ F w v (.ptr hi 1 0 0)) :
    ((∀ j, j < es.length → j ∈ seen) ∧ (Instr.next v false ty).run P w = .ok (.tuple #[.bool false]) w) ∨
    ∃ j, j < es.length ∧ j ∉ seen ∧ ∃ w' u, (Instr.next v false ty).run P w = .ok u w' ∧ Ow B σ F w' (H.set hi (.iter hm es.length (seen ++ [j]))) ∧ Step B σ F w σ F w' ∧
      RelV σ F w' u (.tup [.bool true, kpv ag (es.getD j md).1, (es.getD j md).2]) := by
  obtain ⟨x0, hb, hv⟩ := hx.ptr_inv
  obtain ⟨⟨y, hy, hobj⟩, hnF⟩ := hI.ok hi x0 _ hb h1
  obtain ⟨⟨f, hmap, hrel⟩, _⟩ := hI.ok hm y _ hy h2
  simp only [Nat.zero_mul, Nat.add_zero] at hv
  subst hv
  rcases run_next_own (P := P) w ty x0.1 y.1 ag es f seen hobj hmap with ⟨c1, c2⟩ | ⟨j, c1, c2, w1, hal, hrun⟩
  · exact .inl ⟨c1, c2⟩
  · refine .inr ⟨j, c1, c2, _, _, hrun, ?_⟩
    have hlt := (hI.big hi x0 _ hb h1 (by simp)).2
    obtain ⟨q1, q2⟩ := hI.putB (w' := { w1 with heap := w1.heap.setIfInBounds x0.1 (.mapIter (some y.1) es.length (seen ++ [j]).toArray es.length) }) (kn := .iter hm es.length (seen ++ [j])) hb h1 (by simp)
      (fun k hk => by simp [Ne.symm hk, hal.1.1]) (by simp [hal.1.1]) hal.1.2.1 hal.2 hal.1.2.2 fun hst hnF => ⟨⟨y, hy, by simp [hal.1.1, hlt]⟩, hnF⟩
    refine ⟨q1, q2, .tup _ _ rfl fun i hi => ?_⟩
    match i, hi with
    | 0, _ => exact .frz (.bool _)
    | 1, _ => exact kv_rel _ _
    | 2, _ => exact q2.rel (hrel j c1).1

theorem sound_rangeS {t : TypeId} {r : Ty} (h : mkTy P t = some r) (hk : r.k = .str) (x : Operand) (s : ByteArray) (H : Heap) :
    Sound P (.range t x) [.str s] H (.ptr H.length 1 0 0) (H ++ [.siter s 0]) := by
  intro B σ F w a o ho hI _ hr
  have hx : RelV σ F w (a.eval x) (.str s) := by simpa using opd0 hr 0 (by simp) x (by simp [Op.operands])
  have hu := under_str h hk
  obtain ⟨h1, h2⟩ := hI.allocB (.stringIter s 0) 0 (.siter s 0) fun hst hnF => ⟨by show (w.heap.push _)[w.heap.size]? = _; simp, hnF⟩
  refine .value (v := .pointer (some ⟨w.heap.size, 0, none⟩)) (w' := w.alloc (.stringIter s 0)) ?_ ⟨_, _, h1, h2, ?_, .none rfl rfl⟩
  · simp [execOp, ho, hx.str_inv, Instr.range, run_underlying hu, newObj, Sem.run]
  · have := RelV.ptr (σ := σ ++ [(w.heap.size, 0)]) (F := F) (w := w.alloc (.stringIter s 0)) H.length 1 0 0 (w.heap.size, 0) (by rw [← hI.len]; simp)
    simpa using this

/-- The step of a loop over a string. -/
theorem next_str (ty : TypeId) (hi : Nat) (s : ByteArray) (pos : Nat) (H : Heap) (h1 : H[hi]? = some (.siter s pos))
    {B : Nat} {σ : List (Nat × Nat)} {F : Fr} {w : World} {v : Value} (hI : Ow B σ F w H) (hx : RelV σ F w v (.ptr hi 1 0 0)) :
    (¬ pos < s.size ∧ (Instr.next v true ty).run P w = .ok (.tuple #[.bool false]) w) ∨
    (pos < s.size ∧ ∃ w' u, (Instr.next v true ty).run P w = .ok u w' ∧ Ow B σ F w' (H.set hi (.siter s (pos + (Utf8.decode s pos).2))) ∧ Step B σ F w σ F w' ∧
      RelV σ F w' u (.tup [.bool true, .int .i64 pos, .int .i32 (Utf8.decode s pos).1])) := by
  obtain ⟨x0, hb, hv⟩ := hx.ptr_inv
  obtain ⟨hobj, hnF⟩ := hI.ok hi x0 _ hb h1
  simp only [Nat.zero_mul, Nat.add_zero] at hv
  subst hv
  by_cases hp : pos < s.size
  · refine .inr ⟨hp, { w with heap := w.heap.setIfInBounds x0.1 (.stringIter s (pos + (Utf8.decode s pos).2)) }, .tuple #[.bool true, .int .i64 pos, .int .i32 (Utf8.decode s pos).1], ?_, ?_⟩
    · simp [Instr.next, getObj, setObj, Sem.run, hobj, hp, goInt, Result.andThen]
    · have hlt := (hI.big hi x0 _ hb h1 (by simp)).2
      obtain ⟨q1, q2⟩ := hI.putB (w' := { w with heap := w.heap.setIfInBounds x0.1 (.stringIter s (pos + (Utf8.decode s pos).2)) }) (kn := .siter s (pos + (Utf8.decode s pos).2)) hb h1 (by simp)
        (fun k hk => by simp [Ne.symm hk]) (by simp) rfl rfl rfl fun hst hnF => ⟨by simp [hlt], hnF⟩
      refine ⟨q1, q2, .tup _ _ rfl fun i hi => ?_⟩
      match i, hi with
      | 0, _ => exact .frz (.bool _)
      | 1, _ => exact .frz (.int _ _)
      | 2, _ => exact .frz (.int _ _)
  · refine .inl ⟨hp, ?_⟩
    simp [Instr.next, getObj, Sem.run, hobj, hp, Result.andThen]
end Go.Pv

namespace Go.Pv
open Go.RowKit (Below)
variable {P : Program}

theorem sound_slice_end {t e : TypeId} {r q : Ty} (h : mkTy P t = some r) (hk : r.k = .slice e) (he : mkTy P e = some q) (x y : Operand) (h0 a0 len : Nat) (k : IntKind) (l : Int) (hl : l = (len : Int)) (H : Heap) :
    Sound P (.slice t x (some y) none none) [.own h0 q.sz a0 len, .int k l] H (.sl q.sz []) H :=
  Sound.val fun σ F w a op B ho hI _ hr => by
    have hx : RelV σ F w (a.eval x) (.own h0 q.sz a0 len) := by simpa using opd0 hr 0 (by simp) x (by simp [Op.operands])
    have hy : RelV σ F w (a.eval y) (.int k l) := by simpa using opd0 hr 1 (by simp) y (by simp [Op.operands])
    obtain ⟨X, cap, hb, hc, hv, hn⟩ := hx.own_inv
    have hu := under_slice h hk
    subst hl
    by_cases hcap : cap = len
    · refine ⟨.slice (some ⟨X.1, a0 * q.sz, none⟩) 0 (cap - len), ?_, .frz (.sl0 _ _ _)⟩
      simp [execOp, ho, hv, hy.int_inv, Instr.sliceAt, Instr.slice, run_underlying hu, Instr.sliceBounds, Instr.sliceBound, asIntOf, run_sizeOfT he, hcap]
    · refine ⟨.slice (some ⟨X.1, a0 * q.sz + len * q.sz, none⟩) 0 (cap - len), ?_, .frz (.sl0 _ _ _)⟩
      simp [execOp, ho, hv, hy.int_inv, Instr.sliceAt, Instr.slice, run_underlying hu, Instr.sliceBounds, Instr.sliceBound, asIntOf, run_sizeOfT he, hcap, add_none]

theorem sound_slice_any {t e : TypeId} {r q : Ty} (h : mkTy P t = some r) (hk : r.k = .slice e) (he : mkTy P e = some q) (x y : Operand) (h0 a0 len : Nat) (k : IntKind) (l : Int) (hl0 : 0 ≤ l) (hl : l ≤ (len : Int)) (H : Heap) :
    Sound P (.slice t x (some y) none none) [.own h0 q.sz a0 len, .int k l] H (bif decide (l = (len : Int)) then .sl q.sz [] else .own h0 q.sz (a0 + l.toNat) (len - l.toNat)) H := by
  by_cases e : l = (len : Int)
  · rw [decide_eq_true e]; exact sound_slice_end h hk he x y h0 a0 len k l e H
  · rw [decide_eq_false e]; exact sound_slice_own h hk he x y h0 a0 len k l hl0 (by omega) H

theorem sound_append_nil {t t' e e' : TypeId} {r r' q : Ty} (h : mkTy P t = some r) (hk : r.k = .slice e) (h' : mkTy P t' = some r') (hk' : r'.k = .slice e') (he : mkTy P e = some q) (cl : Call) (hc : cl.callee = .builtin .append) (ht : cl.argTypes[0]? = some t) (ht' : cl.argTypes[1]? = some t')
    (ns : List (List PV)) (y : PV) (H : Heap) (hr0 : readSl H q.sz y = some ns) (hcell : (ns.all fun n => n.all cellB) = true) (hz : q.zero.length = q.sz) (hne : ns ≠ [])
    (hlen : ns.length ≤ 140737488355328) (hby : ns.length * q.bytes ≤ 70368744177664) :
    Sound P (.call cl) [.nil, y] H (.own H.length q.sz 0 ns.length) (H ++ [.rows e q.sz ns]) := by
  intro B σ F w a o ho hI hn hr
  have hsz2 : cl.args.size = 2 := by simp [Op.operands, Call.operands, hc] at hn; omega
  obtain ⟨xo, yo, hargs⟩ : ∃ xo yo, cl.args = #[xo, yo] := by
    have hl2 : cl.args.toList.length = 2 := by simpa using hsz2
    match hm : cl.args.toList, hl2 with
    | [u, v], _ => exact ⟨u, v, by rw [← hm]⟩
  have hx : RelV σ F w (a.eval xo) .nil := by simpa using opd0 hr 0 (by simp) xo (by simp [Op.operands, Call.operands, hc, hargs])
  have hy : RelV σ F w (a.eval yo) y := by simpa using opd0 hr 1 (by simp) yo (by simp [Op.operands, Call.operands, hc, hargs])
  obtain ⟨hns, b, capy, hvy, news, n1, n2, n3⟩ := run_read (P := P) hI hy hr0
  have hu := under_slice h hk
  have hu' := under_slice h' hk'
  obtain ⟨i0, d, z, hi, hd, hzz, hq⟩ := mkTy_inv he
  have hiby : i0.bytes = q.bytes := by rw [hq]
  have hzs : z.cells.size = q.sz := by rw [← hz, hq]; simp [zeroL_length]
  have hroom : ¬ (ns.length = 0) := fun e => hne (List.length_eq_zero_iff.1 e)
  obtain ⟨nc, hnc⟩ : ∃ nc, nc = grownCap w ns.length 0 e := ⟨_, rfl⟩
  have hncge : ns.length ≤ nc := by rw [hnc]; exact grownCap_ge w _ _ e
  obtain ⟨A, hA⟩ : ∃ A, A = news.toArray ++ Builtin.zeroCells z.cells (nc - ns.length) := ⟨_, rfl⟩
  have hAl : A.toList = news ++ (Builtin.zeroCells z.cells (nc - ns.length)).toList := by rw [hA]; simp
  have hAsz : A.size = nc * q.sz := by
    rw [hA]
    simp only [Array.size_append, List.size_toArray, n1, size_zeroCells, hzs, ← Nat.add_mul]
    rw [show ns.length + (nc - ns.length) = nc by omega]
  have getA2 : ∀ u, u < news.length → A.getD u Go.undef = news.getD u Go.undef := by
    intro u hu
    have e1 : A.getD u Go.undef = A.toList.getD u Go.undef := by simp [List.getD, Array.getD_eq_getD_getElem?]
    rw [e1, hAl, List.getD, List.getElem?_append, if_pos hu]
    rfl
  obtain ⟨d1, d2⟩ := hI.drew (w' := w.drew) rfl rfl rfl rfl
  obtain ⟨g1, g2⟩ := d1.alloc e q.sz ns A (by rw [hAsz]; exact Nat.mul_le_mul_right _ hncge) (fun i hi => hns _ (by simp [List.getD, hi])) (fun i j hi hj => by
    have e1 : (i + 1) * q.sz ≤ ns.length * q.sz := Nat.mul_le_mul_right _ (by omega)
    have e2 : (i + 1) * q.sz = i * q.sz + q.sz := by rw [Nat.succ_mul]
    rw [getA2 _ (by omega)]
    exact d2.rel (n3 i j hi hj))
  refine .value (v := .slice (some ⟨w.heap.size, 0, none⟩) ns.length nc) (w' := w.drew.alloc (.cells A e)) ?_ ⟨_, F, g1, d2.trans g2, ?_, .none (by simp [quietB, hc]) rfl⟩
  · have ha : a.eval xo = .slice none 0 0 := hx.nil_inv
    have hf := n2 w.drew rfl
    simp only [hvy] at hf
    have hsz' : (sizeOf e).run P w = .ok q.sz w := run_sizeOfT he w
    have hzv : (zeroValue e).run P w.drew = .ok z w.drew := by simp [zeroValue, typeInfo, hi, hzz]
    have hti : ∀ w', (typeInfo e).run P w' = .ok i0 w' := fun w' => by simp [typeInfo, hi]
    have hf0 : ∀ w', (Builtin.firstCells q.sz 0 (.slice none 0 0)).run P w' = .ok #[] w' := fun _ => rfl
    have h63 : ¬ (9223372036854775807 < (ns.length : Int)) := by omega
    have h48 : ¬ (281474976710656 < Builtin.nextslicecap ns.length 0 * i0.bytes) := by
      have := growslice_fits (need := ns.length) (old := 0) (bytes := i0.bytes) (by omega) (by rw [hiby]; omega)
      omega
    have hcut : (Question.appendCap ns.length 0 e).cut (w.tape w.drawn (.appendCap ns.length 0 e)) = nc := by rw [hnc]; rfl
    simp [execOp, ho, resolve, hc, hargs, invoke, builtin, Builtin.append_, ht, ht', run_underlying hu, run_underlying hu', ha, hvy, hsz', Builtin.lenOf, hroom, hti, h63, h48, Question.forced, hf, hf0, hzv, hcut, newRow, hA]
    try rfl
  · have := RelV.own (σ := σ ++ [(w.drew.heap.size, A.size)]) (F := F) (w := w.drew.alloc (.cells A e)) H.length q.sz 0 ns.length nc (w.drew.heap.size, A.size)
      (by rw [← hI.len]; simp) hncge (by simp only [hAsz, Nat.zero_add]; exact Nat.le_refl _) hlen
    simpa using this
end Go.Pv

namespace Go.Pv
open Go.RowKit (Below)

structure Res where
  s : Prop
  p : PV
  H : Heap

def noRes (H : Heap) : Res := ⟨False, .undef, H⟩

/-- The zero cells of a row's element. -/
def zr (P : Program) (T : TypeId) : List PV := match mkTy P T with
  | some q => q.zero
  | none => []
def getZ (P : Program) (T : TypeId) (es : List (List PV)) (i : Nat) : List PV := es.getD i (zr P T)
theorem getZ_eq {P : Program} {T : TypeId} {es : List (List PV)} {i : Nat} (h : i < es.length) : getZ P T es i = es.getD i [] := by simp [getZ, List.getD, h]
def rLoad (P : Program) (t : TypeId) (c : Bool) (p : PV) (H : Heap) : Res := match mkTy P t with
  | some r => match p with
    | .ref cs => ⟨c = true → r.sz ≤ cs.length ∧ (r.agg = false → r.sz = 1), valP r cs, H⟩
    | .ptr h sz i off => match H[h]? with
      | some (.rows T sz' es) => ⟨c = true → sz' = sz ∧ i < es.length ∧ off + r.sz ≤ sz ∧ (r.agg = false → r.sz = 1), valP r ((getZ P T es i).drop off), H⟩
      | _ => noRes H
    | _ => noRes H
  | none => noRes H
def rStore (P : Program) (t : TypeId) (c : Bool) (p v : PV) (H : Heap) : Res := match mkTy P t with
  | some r => match p with
    | .ptr h sz i off => match H[h]? with
      | some (.rows T sz' es) => ⟨c = true ∧ sz' = sz ∧ i < es.length ∧ off + r.sz ≤ sz ∧ (cellsP v).length = r.sz ∧ (cellsP v).all cellB = true, .undef,
          H.set h (.rows T sz' (es.set i (splice (es.getD i []) off (cellsP v))))⟩
      | _ => noRes H
    | _ => noRes H
  | none => noRes H
def rBin (P : Program) (op : BinOp) (t : TypeId) (c : Bool) (x y : PV) (H : Heap) : Res := match x, y with
  | .int k a, .int k' b => match arithP op k a b with
    | some p => ⟨k = k' ∧ (c = true → divB op = true → b ≠ 0), p, H⟩
    | none => noRes H
  | .str a, .str b => match strP op a b with
    | some p => ⟨True, p, H⟩
    | none => noRes H
  | .bool a, .bool b => match mkTy P t, op with
    | some r, .eql => ⟨(match r.k with | .bool => True | _ => False), .bool (a == b), H⟩
    | some r, .neq => ⟨(match r.k with | .bool => True | _ => False), .bool (!(a == b)), H⟩
    | _, _ => noRes H
  | _, _ => noRes H
/-- '==' of structs: field by field, as Bools. -/
def eqCells : List PV → List PV → Bool
  | .int _ a :: r, .int _ b :: s => (a == b) && eqCells r s
  | .bool a :: r, .bool b :: s => (a == b) && eqCells r s
  | .str a :: r, .str b :: s => (a.toList == b.toList) && eqCells r s
  | [], [] => true
  | _, _ => false
def rEqAgg (P : Program) (op : BinOp) (t : TypeId) (x y : PV) (H : Heap) : Res := match x, y, op with
  | .agg xs, .agg ys, .eql => ⟨EqOk P t xs ys (eqCells xs ys), .bool (eqCells xs ys), H⟩
  | .agg xs, .agg ys, .neq => ⟨EqOk P t xs ys (eqCells xs ys), .bool (!(eqCells xs ys)), H⟩
  | _, _, _ => noRes H
def isAggP : PV → Bool | .agg _ => true | _ => false
def rBinOp (P : Program) (op : BinOp) (t : TypeId) (c : Bool) (x y : PV) (H : Heap) : Res := match isAggP x with
  | true => rEqAgg P op t x y H
  | false => rBin P op t c x y H
def rFieldAddr (P : Program) (s : TypeId) (f : Nat) (c : Bool) (p : PV) (H : Heap) : Res := match mkTy P s with
  | some r => match r.k with
    | .struct fs => match fs[f]? with
      | some (o, fsz, _) => match p with
        | .ref cs => ⟨fsz ≠ 0 ∧ (c = true → o ≤ cs.length), .ref (cs.drop o), H⟩
        | .ptr h sz i off => ⟨fsz ≠ 0, .ptr h sz i (off + o), H⟩
        | _ => noRes H
      | none => noRes H
    | _ => noRes H
  | none => noRes H
def rField (P : Program) (s : TypeId) (f : Nat) (c : Bool) (p : PV) (H : Heap) : Res := match p with
  | .agg cs => match mkTy P s with
    | some r => match r.k with
      | .struct fs => match fs[f]? with
        | some (o, fsz, ag) => ⟨fsz ≠ 0 ∧ (c = true → o + fsz ≤ cs.length ∧ (ag = false → fsz = 1)), if ag then .agg ((cs.drop o).take fsz) else cs.getD o .undef, H⟩
        | none => noRes H
      | _ => noRes H
    | none => noRes H
  | _ => noRes H
def rIndexAddr (P : Program) (t : TypeId) (c : Bool) (x y : PV) (H : Heap) : Res := match y with
  | .int _ i => match mkTy P t with
    | some r => match r.k with
      | .slice e => match mkTy P e with
        | some q => match x with
          | .sl sz es => ⟨c = true → sz = q.sz ∧ 0 ≤ i ∧ i < (es.length : Int), .ref (es.getD i.toNat q.zero), H⟩
          | .own h sz a len => ⟨c = true → sz = q.sz ∧ 0 ≤ i ∧ i < (len : Int), .ptr h sz (a + i.toNat) 0, H⟩
          | _ => noRes H
        | none => noRes H
      | _ => noRes H
    | none => noRes H
  | _ => noRes H
def rIndex (P : Program) (t : TypeId) (c : Bool) (x y : PV) (H : Heap) : Res := match x, y with
  | .str s, .int _ i => match mkTy P t with
    | some r => ⟨(match r.k with | .str => True | _ => False) ∧ (c = true → 0 ≤ i ∧ i < (s.size : Int)), .int .u8 (bt s i), H⟩
    | none => noRes H
  | _, _ => noRes H
def rExtract (n : Nat) (c : Bool) (x : PV) (H : Heap) : Res := match x with
  | .tup cs => ⟨c = true → n < cs.length, cs.getD n .undef, H⟩
  | _ => noRes H
def rMake (P : Program) (t : TypeId) (c : Bool) (x y : PV) (H : Heap) : Res := match x, y with
  | .int .i64 n, .int .i64 m => match mkTy P t with
    | some r => match r.k with
      | .slice e => match mkTy P e with
        | some q => ⟨c = true ∧ n = m ∧ 0 ≤ n ∧ n ≤ 140737488355328 ∧ q.bytes * n ≤ 281474976710656 ∧ q.zero.length = q.sz, .own H.length q.sz 0 n.toNat, H ++ [.rows e q.sz (List.replicate n.toNat q.zero)]⟩
        | none => noRes H
      | _ => noRes H
    | none => noRes H
  | _, _ => noRes H
def rBuildSlice (P : Program) (t : TypeId) (len : Nat) (ix : List Nat) (c : Bool) (ps : List PV) (H : Heap) : Res := match mkTy P t with
  | some r => match r.k with
    | .slice e => match mkTy P e with
      | some q => ⟨c = true ∧ len = ix.length ∧ ix = List.range len ∧ (ps.all fun p => (cellsP p).all cellB && ((cellsP p).length == q.sz)) = true ∧ q.zero.length = q.sz ∧ len * q.sz ≤ 16777216 ∧ len ≤ 140737488355328,
          .own H.length q.sz 0 len, H ++ [.rows e q.sz (ps.map cellsP)]⟩
      | none => noRes H
    | _ => noRes H
  | none => noRes H
def rBuildA (P : Program) (n : Nat) (e : TypeId) (z : List PV) (ix : List Nat) (ps : List PV) (H : Heap) : Res := match mkTy P e with
  | some q => match buildP ((List.range n).map fun i => (i * q.sz, q.sz, q.agg)) z (ix.zip ps) with
    | some cs => ⟨True, .agg cs, H⟩
    | none => noRes H
  | none => noRes H
def rBuild (P : Program) (t : TypeId) (ix : List Nat) (ps : List PV) (H : Heap) : Res := match mkTy P t with
  | some r => match r.k with
    | .struct fs => match buildP fs r.zero (ix.zip ps) with
      | some cs => ⟨(fs.all fun f => f.2.1 != 0) = true, .agg cs, H⟩
      | none => noRes H
    | .array n e => rBuildA P n e r.zero ix ps H
    | _ => noRes H
  | none => noRes H
def rAlloc (P : Program) (e : TypeId) (c : Bool) (H : Heap) : Res := match mkTy P e with
  | some r => ⟨c = true ∧ r.zero.length = r.sz, .ptr H.length r.sz 0 0, H ++ [.rows e r.sz [r.zero]]⟩
  | none => noRes H
def rBox (P : Program) (e : TypeId) (c : Bool) (p : PV) (H : Heap) : Res := match mkTy P e with
  | some r => ⟨c = true ∧ (cellsP p).length = r.sz ∧ (cellsP p).all cellB = true, .ptr H.length r.sz 0 0, H ++ [.rows e r.sz [cellsP p]]⟩
  | none => noRes H
def rNot (p : PV) (H : Heap) : Res := match p with
  | .bool b => ⟨True, .bool (!b), H⟩
  | _ => noRes H
def rNeg (p : PV) (H : Heap) : Res := match p with
  | .int k n => ⟨True, .int k (k.wrap (0 - n)), H⟩
  | _ => noRes H
def rSlice (P : Program) (t : TypeId) (c : Bool) (x y : PV) (H : Heap) : Res := match y with
  | .int _ l => match mkTy P t with
    | some r => match r.k with
      | .slice e => match mkTy P e with
        | some q => match x with
          | .own h sz a len => ⟨c = true ∧ sz = q.sz ∧ 0 ≤ l ∧ l ≤ (len : Int), bif decide (l = (len : Int)) then .sl q.sz [] else .own h sz (a + l.toNat) (len - l.toNat), H⟩
          | _ => noRes H
        | none => noRes H
      | _ => noRes H
    | none => noRes H
  | _ => noRes H
def rLen (P : Program) (t : TypeId) (x : PV) (H : Heap) : Res := match mkTy P t with
  | some r => match x with
    | .str s => ⟨(match r.k with | .str => True | _ => False), .int .i64 s.size, H⟩
    | .sl _ es => ⟨(match r.k with | .slice _ => True | _ => False), .int .i64 es.length, H⟩
    | .own _ _ _ len => ⟨(match r.k with | .slice _ => True | _ => False), .int .i64 len, H⟩
    | .nil => ⟨(match r.k with | .slice _ => True | _ => False), .int .i64 0, H⟩
    | _ => noRes H
  | none => noRes H
def rAppN (P : Program) (t t' : TypeId) (c : Bool) (y : PV) (H : Heap) : Res := match mkTy P t, mkTy P t' with
  | some r, some r' => match r.k, r'.k with
    | .slice e, .slice _ => match mkTy P e with
      | some q => match readSl H q.sz y with
        | some ns => ⟨c = true ∧ (ns.all fun n => n.all cellB) = true ∧ q.zero.length = q.sz ∧ ns ≠ [] ∧ ns.length ≤ 140737488355328 ∧ ns.length * q.bytes ≤ 70368744177664,
            .own H.length q.sz 0 ns.length, H ++ [.rows e q.sz ns]⟩
        | none => noRes H
      | none => noRes H
    | _, _ => noRes H
  | _, _ => noRes H
def rAppend (P : Program) (t t' : TypeId) (c : Bool) (x y : PV) (H : Heap) : Res := match x with
  | .own h sz a len => match mkTy P t, mkTy P t', H[h]? with
    | some r, some r', some (.rows T sz' es) => match r.k, r'.k with
      | .slice e, .slice _ => match mkTy P e, readSl H sz y with
        | some q, some ns => ⟨c = true ∧ T = e ∧ sz' = sz ∧ sz = q.sz ∧ a = 0 ∧ len = es.length ∧ (ns.all fun n => n.all cellB) = true ∧ q.zero.length = q.sz ∧
            (match y with | .own h' _ _ _ => h' ≠ h | _ => True) ∧
            len + ns.length ≤ 140737488355328 ∧ (len + ns.length) * q.bytes ≤ 70368744177664,
            .own H.length sz 0 (es.length + ns.length), H.set h .dead ++ [.rows e sz (es ++ ns)]⟩
        | _, _ => noRes H
      | _, _ => noRes H
    | _, _, _ => noRes H
  | .nil => rAppN P t t' c y H
  | _ => noRes H
def rCall (P : Program) (φ : FuncId → List PV → PV) (c : Bool) (f : PV) (args : List PV) (H : Heap) : Res := match f with
  | .clo f caps => ⟨(c = true → PC P f ((args ++ caps).map (expo .sl H 8)) (φ f ((args ++ caps).map (expo .sl H 8)))) ∧ (hfL (args ++ caps) = true ∨ scal (φ f ((args ++ caps).map (expo .sl H 8))) = true),
      φ f ((args ++ caps).map (expo .sl H 8)), H⟩
  | _ => noRes H

/-- A slice's zero value is the nil slice. -/
def nilZ : PV → PV
  | .sl _ [] => .nil
  | p => p
def rMakeMap (P : Program) (t : TypeId) (c : Bool) (H : Heap) : Res := match mkTy P t with
  | some r => match r.k with
    | .map kt _ => match mkTy P kt with
      | some q => ⟨c = true, .mp H.length, H ++ [.map q.agg []]⟩
      | none => noRes H
    | _ => noRes H
  | none => noRes H
def rLookup (P : Program) (t : TypeId) (x y : PV) (H : Heap) : Res := match x, mkTy P t with
  | .mp h, some r => match r.k, H[h]? with
    | .map kt et, some (.map ag es) => match keyP ag y, mkTy P et with
      | some l, some q => ⟨KeyT P kt ag ∧ ZeroOk P et (nilZ (q.zero.getD 0 .undef)), mget (nilZ (q.zero.getD 0 .undef)) l es, H⟩
      | _, _ => noRes H
    | _, _ => noRes H
  | _, _ => noRes H
def rMapEntry (P : Program) (t : TypeId) (c : Bool) (x y : PV) (H : Heap) : Res := match x, mkTy P t with
  | .mp h, some r => match r.k, H[h]? with
    | .map kt et, some (.map ag es) => match keyP ag y, mkTy P et with
      | some l, some q => ⟨c = true ∧ KeyT P kt ag ∧ ZeroOk P et (nilZ (q.zero.getD 0 .undef)), .tup [mget (nilZ (q.zero.getD 0 .undef)) l es, .int .i64 (mpos l es)], H.set h (.map ag (ment (nilZ (q.zero.getD 0 .undef)) l es))⟩
      | _, _ => noRes H
    | _, _ => noRes H
  | _, _ => noRes H
def rMapUpdate (P : Program) (t : TypeId) (c : Bool) (x y p : PV) (H : Heap) : Res := match x, mkTy P t with
  | .mp h, some r => match r.k, H[h]? with
    | .map kt _, some (.map ag es) => match keyP ag y with
      | some l => ⟨c = true ∧ KeyT P kt ag, .undef, H.set h (.map ag (mput l p es))⟩
      | _ => noRes H
    | _, _ => noRes H
  | _, _ => noRes H
def rEntryStore (c : Bool) (x s p : PV) (H : Heap) : Res := match x, s with
  | .mp h, .int k n => match H[h]? with
    | some (.map ag es) => ⟨c = true ∧ k = .i64 ∧ 0 ≤ n ∧ n.toNat < es.length, .undef, H.set h (.map ag (mset n.toNat p es))⟩
    | _ => noRes H
  | _, _ => noRes H
def rRange (P : Program) (t : TypeId) (c : Bool) (x : PV) (H : Heap) : Res := match x, mkTy P t with
  | .mp h, some r => match r.k, H[h]? with
    | .map _ _, some (.map _ es) => ⟨c = true, .ptr H.length 1 0 0, H ++ [.iter h es.length []]⟩
    | _, _ => noRes H
  | .str s, some r => ⟨c = true ∧ (match r.k with | .str => True | _ => False), .ptr H.length 1 0 0, H ++ [.siter s 0]⟩
  | _, _ => noRes H
/-- The last one of a list. -/
def lastP : List Nat → Option Nat
  | [] => none
  | [j] => some j
  | _ :: j :: r => lastP (j :: r)
theorem lastP_eq : ∀ (l : List Nat) (j : Nat), lastP l = some j → l = l.dropLast ++ [j]
  | [], j, h => by simp [lastP] at h
  | [i], j, h => by simp [lastP] at h; simp [h]
  | a :: b :: r, j, h => by
    have := lastP_eq (b :: r) j (by simpa [lastP] using h)
    rw [List.dropLast_cons₂, List.cons_append, ← this]
def rEntry (c : Bool) (x : PV) (H : Heap) : Res := match x with
  | .ptr hi 1 0 0 => match H[hi]? with
    | some (.iter hm n seen) => match H[hm]?, lastP seen with
      | some (.map ag es), some j => ⟨c = true ∧ n = es.length ∧ j < es.length, .tup [kpv ag (es.getD j md).1, (es.getD j md).2], H⟩
      | _, _ => noRes H
    | _ => noRes H
  | _ => noRes H

def rOp (P : Program) (φ : FuncId → List PV → PV) (op : Op) (c : Bool) (ps : List PV) (H : Heap) : Res :=
  match op, ps with
  | .move _, [p] => ⟨True, p, H⟩
  | .assign _, [p] => ⟨True, p, H⟩
  | .alloc e, [] => rAlloc P e c H
  | .box e _, [p] => rBox P e c p H
  | .build t parts, ps => rBuild P t (parts.toList.map (·.1)) ps H
  | .load t _, [p] => rLoad P t c p H
  | .store t _ _, [p, v] => rStore P t c p v H
  | .binOp op t _ _ _, [x, y] => rBinOp P op t c x y H
  | .unOp .not _ _, [p] => rNot p H
  | .unOp .neg _ _, [p] => rNeg p H
  | .makeFunc (.func f) first _, ps => ⟨first = #[], .clo f ps, H⟩
  | .makeSlice t _ _, [x, y] => rMake P t c x y H
  | .buildSlice t len parts, ps => rBuildSlice P t len (parts.toList.map (·.1)) c ps H
  | .fieldAddr s _ f, [p] => rFieldAddr P s f c p H
  | .field s _ f, [p] => rField P s f c p H
  | .indexAddr t _ _, [x, y] => rIndexAddr P t c x y H
  | .index t _ _, [x, y] => rIndex P t c x y H
  | .extract _ n, [x] => rExtract n c x H
  | .slice t _ (some _) none none, [x, y] => rSlice P t c x y H
  | .makeMap t none, [] => rMakeMap P t c H
  | .lookup t _ _ false, [x, y] => rLookup P t x y H
  | .mapEntry t _ _, [x, y] => rMapEntry P t c x y H
  | .entryStore _ _ _ _, [x, s, z] => rEntryStore c x s z H
  | .mapUpdate t _ _ _, [x, y, z] => rMapUpdate P t c x y z H
  | .insert t _ _ _, [x, y, z] => rMapUpdate P t c x y z H
  | .range t _, [x] => rRange P t c x H
  | .entry _, [x] => rEntry c x H
  | .call cl, ps => match cl.callee with
    | .builtin .len => match cl.argTypes[0]?, ps with
      | some t, [x] => rLen P t x H
      | _, _ => noRes H
    | .builtin .append => match cl.argTypes[0]?, cl.argTypes[1]?, ps with
      | some t, some t', [x, y] => rAppend P t t' c x y H
      | _, _, _ => noRes H
    | .value _ => match ps with
      | f :: args => rCall P φ c f args H
      | _ => noRes H
    | _ => noRes H
  | _, _ => noRes H

theorem fill_more {pl pl' : Nat → Option (Nat × Nat)} (h : ∀ i x, pl i = some x → pl' i = some x) : ∀ (vs : List (Nat × Value)) (cells o : Array Value), Instr.fill pl cells vs = some o → Instr.fill pl' cells vs = some o
  | [], cells, o, ho => ho
  | (i, v) :: vs, cells, o, ho => by
    simp only [Instr.fill] at ho ⊢
    cases hp : pl i with
    | none => rw [hp] at ho; simp at ho
    | some x =>
      obtain ⟨off, size⟩ := x
      rw [hp] at ho
      rw [h i _ hp]
      simp only at ho ⊢
      split at ho
      · cases ho
      · rename_i hc
        rw [if_neg hc]
        exact fill_more h vs _ o ho
theorem under_array {P : Program} {t e : TypeId} {n : Nat} {r : Ty} (h : mkTy P t = some r) (hk : r.k = .array n e) : P.underlying t = some (.array n e) := by
  obtain ⟨d, hd, hk'⟩ := underT h
  rw [hk] at hk'
  cases d <;> simp [knOf] at hk'
  obtain ⟨rfl, rfl⟩ := hk'
  exact hd
theorem sound_buildArr {P : Program} {t e : TypeId} {n : Nat} {r q : Ty} (h : mkTy P t = some r) (hk : r.k = .array n e) (he : mkTy P e = some q) (parts : Array (Nat × Operand)) (ps : List PV) (out : List PV)
    (hb : buildP ((List.range n).map fun i => (i * q.sz, q.sz, q.agg)) r.zero ((parts.toList.map (·.1)).zip ps) = some out) (H : Heap) : Sound P (.build t parts) ps H (.agg out) H :=
  Sound.val fun σ F w a o B ho hI hn hr => by
    have hpl : ps.length = parts.size := by simp [Op.operands] at hn; omega
    have hu := under_array h hk
    obtain ⟨i0, d, z, hi, hd, hzz, hq⟩ := mkTy_inv h
    have hzero : r.zero = zeroL (shapeOf P 8 t) z.cells.toList := by rw [hq]
    have hzl : z.cells.size = r.zero.length := by rw [hzero]; simp [zeroL_length]
    have hr2 : ∀ i, i < ps.length → RelV σ F w (a.eval (parts.getD i default).2) (ps.getD i .undef) := by
      intro i hi
      have := hr i hi
      have hi2 : i < parts.size := by omega
      simp [Op.operands, Array.getD, hi2] at this
      simpa [Array.getD, hi2] using this
    obtain ⟨oc, o1, o2, o3⟩ := fill_build (σ := σ) (F := F) (w := w) ((List.range n).map fun i => (i * q.sz, q.sz, q.agg)) (((List.range n).map fun i => (i * q.sz, q.sz, q.agg)).map fun x => (x.1, x.2.1)).toArray (by simp) ((parts.toList.map (·.1)).zip ps) (parts.toList.map fun x => (x.1, a.eval x.2)) z.cells r.zero out
      (by simp [hpl]) (by
        intro i hi
        simp [hpl] at hi
        have hps : i < ps.length := by omega
        have := hr2 i hps
        have e1 : (((parts.toList.map (·.1)).zip ps).getD i default) = ((parts.getD i default).1, ps.getD i .undef) := by
          simp [List.getD, Array.getD, hi, hps, List.getElem?_zip_eq_some, List.zip, List.getElem?_zipWith]
        have e2 : ((parts.toList.map fun x => (x.1, a.eval x.2)).getD i default) = ((parts.getD i default).1, a.eval (parts.getD i default).2) := by
          simp [List.getD, Array.getD, hi]
        rw [e1, e2]
        exact ⟨rfl, this⟩) hzl (by
        intro j hj
        exact .frz (zero_rel hzero.symm j (by omega))) hb
    refine ⟨.agg oc, ?_, .agg oc out o2 o3⟩
    have hzr : (zeroValue t).run P w = .ok z w := by simp [zeroValue, typeInfo, hi, hzz]
    have hf := fill_more (pl' := fun i => some (i * q.sz, q.sz)) (fun i x hx => by
      simp only [List.getElem?_toArray, List.getElem?_map] at hx
      cases hg : (List.range n)[i]? with
      | none => rw [hg] at hx; simp at hx
      | some j =>
        rw [hg] at hx
        have hj : j = i := by
          have := List.getElem?_eq_some_iff.1 hg
          obtain ⟨h1, h2⟩ := this
          simpa using h2.symm
        subst hj
        simpa using hx) _ _ _ o1
    simp only [execOp, ho, Instr.build, Sem.run_bind, hzr, Result.andThen_ok, run_underlying hu, run_sizeOfT he, Array.toList_map, hf, Sem.run_pure]

theorem rOp_sound {P : Program} {φ : FuncId → List PV → PV} {op : Op} {c : Bool} {ps : List PV} {H : Heap} : (rOp P φ op c ps H).s →
    (c = false → (rOp P φ op c ps H).H = H) ∧ (c = true → Sound P op ps H (rOp P φ op c ps H).p (rOp P φ op c ps H).H) := by
  generalize hR : rOp P φ op c ps H = R
  have no : noRes H = R → R.s → (c = false → R.H = H) ∧ (c = true → Sound P op ps H R.p R.H) := fun h hs => by subst h; exact hs.elim
  unfold rOp at hR
  split at hR
  · subst hR; exact fun _ => ⟨fun _ => rfl, fun _ => sound_move _ _ _⟩
  · subst hR; exact fun _ => ⟨fun _ => rfl, fun _ => sound_assign _ _ _⟩
  · unfold rAlloc at hR
    split at hR
    · rename_i r hr
      subst hR
      rintro ⟨hc, hz⟩
      exact ⟨(fun e => by simp [hc] at e), fun _ => sound_alloc hr hz H⟩
    · exact no hR
  · unfold rBox at hR
    split at hR
    · subst hR
      rintro ⟨hc, h1, h2⟩
      exact ⟨(fun e => by simp [hc] at e), fun _ => sound_box _ _ h1 h2 H⟩
    · exact no hR
  · unfold rBuild at hR
    split at hR
    · rename_i r hr
      split at hR
      · rename_i fs hk
        split at hR
        · rename_i cs hb
          subst hR
          intro h
          exact ⟨fun _ => rfl, fun _ => sound_build hr hk (fun f hf => by have h' := h; simp only [List.all_eq_true] at h'; have := h' f hf; simpa using this) _ _ _ hb H⟩
        · exact no hR
      · rename_i n e hk
        unfold rBuildA at hR
        split at hR
        · rename_i q hq
          split at hR
          · rename_i cs hb
            subst hR
            exact fun _ => ⟨fun _ => rfl, fun _ => sound_buildArr hr hk hq _ _ _ hb H⟩
          · exact no hR
        · exact no hR
      · exact no hR
    · exact no hR
  · unfold rLoad at hR
    split at hR
    · rename_i r hr
      split at hR
      · subst hR
        intro h
        exact ⟨fun _ => rfl, fun hc => sound_load_ref hr _ _ (h hc).1 (h hc).2 H⟩
      · split at hR
        · rename_i hk
          subst hR
          intro h
          refine ⟨fun _ => rfl, fun hc => ?_⟩
          obtain ⟨rfl, h2, h3, h4⟩ := h hc
          rw [getZ_eq h2]
          exact sound_load_ptr hr _ _ _ _ _ _ _ H hk h2 h3 h4
        · exact no hR
      · exact no hR
    · exact no hR
  · unfold rStore at hR
    split at hR
    · rename_i r hr
      split at hR
      · split at hR
        · rename_i hk
          subst hR
          rintro ⟨hc, rfl, h2, h3, h4, h5⟩
          exact ⟨(fun e => by simp [hc] at e), fun _ => sound_store hr _ _ _ _ _ _ _ _ _ H hk h2 h3 h4 h5⟩
        · exact no hR
      · exact no hR
    · exact no hR
  · unfold rBinOp at hR
    split at hR
    · unfold rEqAgg at hR
      split at hR
      · subst hR; exact fun h => ⟨fun _ => rfl, fun _ => sound_aggEq h _ _ _ H⟩
      · subst hR; exact fun h => ⟨fun _ => rfl, fun _ => sound_aggNe h _ _ _ H⟩
      · exact no hR
    · unfold rBin at hR
      split at hR
      · split at hR
        · rename_i hp
          subst hR
          rintro ⟨rfl, hd⟩
          exact ⟨fun _ => rfl, fun hc => sound_arith _ _ _ _ _ _ _ _ _ hp (hd hc) H⟩
        · exact no hR
      · split at hR
        · rename_i hp
          subst hR
          exact fun _ => ⟨fun _ => rfl, fun _ => sound_strop _ _ _ _ _ _ _ _ hp H⟩
        · exact no hR
      · split at hR
        · rename_i r hr
          subst hR
          intro h
          exact ⟨fun _ => rfl, fun _ => sound_boolEq hr (by revert h; dsimp only; split <;> intro h; assumption; exact h.elim) _ _ _ _ _ H⟩
        · rename_i r hr
          subst hR
          intro h
          exact ⟨fun _ => rfl, fun _ => sound_boolNe hr (by revert h; dsimp only; split <;> intro h; assumption; exact h.elim) _ _ _ _ _ H⟩
        · exact no hR
      · exact no hR
  · unfold rNot at hR
    split at hR
    · subst hR; exact fun _ => ⟨fun _ => rfl, fun _ => sound_unNot _ _ _ _⟩
    · exact no hR
  · unfold rNeg at hR
    split at hR
    · subst hR; exact fun _ => ⟨fun _ => rfl, fun _ => sound_unNeg _ _ _ _ _⟩
    · exact no hR
  · subst hR
    intro h
    simp only at h
    subst h
    exact ⟨fun _ => rfl, fun _ => sound_makeFunc _ _ _ _⟩
  · unfold rMake at hR
    split at hR
    · split at hR
      · rename_i r hr
        split at hR
        · rename_i e hk
          split at hR
          · rename_i q hq
            subst hR
            rintro ⟨hc, rfl, h1, h2, h3, h4⟩
            exact ⟨(fun e => by simp [hc] at e), fun _ => sound_makeSlice hr hk hq _ _ _ h1 h2 h3 h4 H⟩
          · exact no hR
        · exact no hR
      · exact no hR
    · exact no hR
  · unfold rBuildSlice at hR
    split at hR
    · rename_i r hr
      split at hR
      · rename_i e hk
        split at hR
        · rename_i q hq
          subst hR
          rintro ⟨hc, h1, h2, h3, h4, h5, h6⟩
          exact ⟨(fun e => by simp [hc] at e), fun _ => sound_buildSlice hr hk hq _ _ (by simpa using h1) h2 _ h3 h4 h5 h6 H⟩
        · exact no hR
      · exact no hR
    · exact no hR
  · unfold rFieldAddr at hR
    split at hR
    · rename_i r hr
      split at hR
      · rename_i fs hk
        split at hR
        · rename_i o fsz ag hf
          split at hR
          · subst hR
            rintro ⟨hz, h⟩
            exact ⟨fun _ => rfl, fun hc => sound_fieldAddr_ref hr hk _ _ _ _ _ hf hz _ (h hc) H⟩
          · subst hR
            intro hz
            exact ⟨fun _ => rfl, fun _ => sound_fieldAddr_ptr hr hk _ _ _ _ _ hf hz _ _ _ _ H⟩
          · exact no hR
        · exact no hR
      · exact no hR
    · exact no hR
  · unfold rField at hR
    split at hR
    · split at hR
      · rename_i r hr
        split at hR
        · rename_i fs hk
          split at hR
          · rename_i o fsz ag hf
            subst hR
            rintro ⟨hz, h⟩
            exact ⟨fun _ => rfl, fun hc => sound_field hr hk _ _ _ _ _ hf hz _ (h hc).1 (h hc).2 H⟩
          · exact no hR
        · exact no hR
      · exact no hR
    · exact no hR
  · unfold rIndexAddr at hR
    split at hR
    · split at hR
      · rename_i r hr
        split at hR
        · rename_i e hk
          split at hR
          · rename_i q hq
            split at hR
            · subst hR
              intro h
              refine ⟨fun _ => rfl, fun hc => ?_⟩
              obtain ⟨rfl, h2, h3⟩ := h hc
              exact sound_indexAddr_sl hr hk hq _ _ _ _ _ h2 h3 H
            · subst hR
              intro h
              refine ⟨fun _ => rfl, fun hc => ?_⟩
              obtain ⟨rfl, h2, h3⟩ := h hc
              exact sound_indexAddr_own hr hk hq _ _ _ _ _ _ _ h2 h3 H
            · exact no hR
          · exact no hR
        · exact no hR
      · exact no hR
    · exact no hR
  · unfold rIndex at hR
    split at hR
    · split at hR
      · rename_i r hr
        subst hR
        rintro ⟨hk, h1⟩
        exact ⟨fun _ => rfl, fun hc => sound_index hr (by revert hk; split <;> intro h; assumption; exact h.elim) _ _ _ _ _ (h1 hc).1 (h1 hc).2 H⟩
      · exact no hR
    · exact no hR
  · unfold rExtract at hR
    split at hR
    · subst hR; exact fun h => ⟨fun _ => rfl, fun hc => sound_extract _ _ _ (h hc) H⟩
    · exact no hR
  · unfold rSlice at hR
    split at hR
    · split at hR
      · rename_i r hr
        split at hR
        · rename_i e hk
          split at hR
          · rename_i q hq
            split at hR
            · subst hR
              rintro ⟨hc, rfl, h1, h2⟩
              exact ⟨fun _ => rfl, fun _ => sound_slice_any hr hk hq _ _ _ _ _ _ _ h1 h2 H⟩
            · exact no hR
          · exact no hR
        · exact no hR
      · exact no hR
    · exact no hR
  · unfold rMakeMap at hR
    split at hR
    · rename_i r hr
      split at hR
      · split at hR
        · subst hR
          intro hc
          exact ⟨(fun e => by simp only at hc; simp [hc] at e), fun _ => sound_makeMap _ H⟩
        · exact no hR
      · exact no hR
    · exact no hR
  · unfold rLookup at hR
    split at hR
    · rename_i h r hr
      split at hR
      · rename_i kt et ag es hk hH
        split at hR
        · rename_i l q hl hq
          subst hR
          rintro ⟨h1, h2⟩
          exact ⟨fun _ => rfl, fun _ => sound_lookup hr hk h1 _ _ _ _ _ l es H hH hl h2⟩
        · exact no hR
      · exact no hR
    · exact no hR
  · unfold rMapEntry at hR
    split at hR
    · rename_i h r hr
      split at hR
      · rename_i kt et ag es hk hH
        split at hR
        · rename_i l q hl hq
          subst hR
          rintro ⟨hc, h1, h2⟩
          exact ⟨(fun e => by simp [hc] at e), fun _ => sound_mapEntry hr hk h1 _ _ _ _ _ l es H hH hl h2⟩
        · exact no hR
      · exact no hR
    · exact no hR
  · unfold rEntryStore at hR
    split at hR
    · rename_i h k n
      split at hR
      · rename_i ag es hH
        subst hR
        rintro ⟨hc, rfl, h1, h2⟩
        refine ⟨(fun e => by simp [hc] at e), fun _ => ?_⟩
        obtain ⟨m, rfl⟩ := Int.eq_ofNat_of_zero_le h1
        exact sound_entryStore _ _ _ _ _ _ ag es H hH h2
      · exact no hR
    · exact no hR
  · unfold rMapUpdate at hR
    split at hR
    · rename_i h r hr
      split at hR
      · rename_i kt et ag es hk hH
        split at hR
        · rename_i l hl
          subst hR
          rintro ⟨hc, h1⟩
          exact ⟨(fun e => by simp [hc] at e), fun _ => sound_mapUpdate hr hk h1 _ _ _ _ _ _ l es H hH hl⟩
        · exact no hR
      · exact no hR
    · exact no hR
  · unfold rMapUpdate at hR
    split at hR
    · rename_i h r hr
      split at hR
      · rename_i kt et ag es hk hH
        split at hR
        · rename_i l hl
          subst hR
          rintro ⟨hc, h1⟩
          exact ⟨(fun e => by simp [hc] at e), fun _ => sound_insert hr hk h1 _ _ _ _ _ _ l es H hH hl⟩
        · exact no hR
      · exact no hR
    · exact no hR
  · unfold rRange at hR
    split at hR
    · rename_i h r hr
      split at hR
      · rename_i kt et ag es hk hH
        subst hR
        intro hc
        exact ⟨(fun e => by simp only at hc; simp [hc] at e), fun _ => sound_range hr hk _ _ ag es H hH⟩
      · exact no hR
    · rename_i st r hr
      subst hR
      rintro ⟨hc, hk⟩
      exact ⟨(fun e => by simp [hc] at e), fun _ => sound_rangeS hr (by revert hk; split <;> intro h; assumption; exact h.elim) _ _ H⟩
    · exact no hR
  · unfold rEntry at hR
    split at hR
    · rename_i hi
      split at hR
      · rename_i hm n seen h1
        split at hR
        · rename_i ag es j h2 hj
          subst hR
          rintro ⟨hc, rfl, h3⟩
          refine ⟨fun _ => rfl, fun _ => ?_⟩
          rw [lastP_eq seen j hj] at h1
          exact sound_entry _ _ _ _ _ j ag es H h1 h2 rfl h3
        · exact no hR
      · exact no hR
    · exact no hR
  · split at hR
    · rename_i hcl
      split at hR
      · rename_i t x ht
        unfold rLen at hR
        split at hR
        · rename_i r hr
          split at hR
          · subst hR
            intro h
            exact ⟨fun _ => rfl, fun _ => sound_len hr _ hcl ht _ _ (.inl ⟨_, rfl, rfl, by revert h; dsimp only; split <;> intro h; assumption; exact h.elim⟩) H⟩
          · subst hR
            intro h
            exact ⟨fun _ => rfl, fun _ => sound_len hr _ hcl ht _ _ (.inr ⟨by revert h; dsimp only; split <;> intro h; exact ⟨_, by assumption⟩; exact h.elim, .inr (.inl ⟨_, _, rfl, rfl⟩)⟩) H⟩
          · subst hR
            intro h
            exact ⟨fun _ => rfl, fun _ => sound_len hr _ hcl ht _ _ (.inr ⟨by revert h; dsimp only; split <;> intro h; exact ⟨_, by assumption⟩; exact h.elim, .inr (.inr ⟨_, _, _, _, rfl, rfl⟩)⟩) H⟩
          · subst hR
            intro h
            exact ⟨fun _ => rfl, fun _ => sound_len hr _ hcl ht _ _ (.inr ⟨by revert h; dsimp only; split <;> intro h; exact ⟨_, by assumption⟩; exact h.elim, .inl ⟨rfl, rfl⟩⟩) H⟩
          · exact no hR
        · exact no hR
      · exact no hR
    · rename_i hcl
      split at hR
      · rename_i t t' x y ht ht'
        unfold rAppend at hR
        split at hR
        · split at hR
          · rename_i r r' T sz' es hr hr' hH
            split at hR
            · rename_i e e' hk hk'
              split at hR
              · rename_i q ns hq hns
                subst hR
                rintro ⟨hc, rfl, rfl, rfl, rfl, rfl, h1, h2, h3, h4, h5⟩
                exact ⟨(fun e => by simp [hc] at e), fun _ => sound_append hr hk hr' hk' hq _ hcl ht ht' _ _ _ _ H hH hns h1 h2 h4 h5⟩
              · exact no hR
            · exact no hR
          · exact no hR
        · unfold rAppN at hR
          split at hR
          · rename_i r r' hr hr'
            split at hR
            · rename_i e e' hk hk'
              split at hR
              · rename_i q hq
                split at hR
                · rename_i ns hns
                  subst hR
                  rintro ⟨hc, h1, h2, h3, h4, h5⟩
                  exact ⟨(fun e => by simp [hc] at e), fun _ => sound_append_nil hr hk hr' hk' hq _ hcl ht ht' _ _ H hns h1 h2 h3 h4 h5⟩
                · exact no hR
              · exact no hR
            · exact no hR
          · exact no hR
        · exact no hR
      · exact no hR
    · rename_i fx hcl
      split at hR
      · unfold rCall at hR
        split at hR
        · subst hR
          rintro ⟨h1, h2⟩
          exact ⟨fun _ => rfl, fun hc => sound_call _ _ hcl _ _ _ _ H (h1 hc) h2⟩
        · exact no hR
      · exact no hR
    · exact no hR
  · exact no hR

end Go.Pv

namespace Go.Pv
open Go.RowKit (Below)

/-- Under which guards something was carried out: slots, and which way. -/
abbrev Cond := List (Nat × Bool)
structure TV where
  ok : Bool
  c : Cond
  p : PV
/-- What the slots hold. -/
abbrev TEnv := List (Nat × Cond × PV)
def tg : TEnv → Nat → TV
  | [], _ => ⟨false, [], .undef⟩
  | (t, c, p) :: r, u => if t = u then ⟨true, c, p⟩ else tg r u

def boolP : PV → Bool | .bool b => b | _ => false
def isB : PV → Bool | .bool _ => true | _ => false
/-- No guard hangs on this slot. -/
def noC (d : Nat) : Cond → Bool
  | [] => true
  | (s, _) :: r => (s != d) && noC d r
/-- Do these guards hold? -/
def holds (T : TEnv) : Cond → Bool
  | [] => true
  | (s, b) :: r => (boolP (tg T s).p == b) && holds T r
def memC (s : Nat) (b : Bool) : Cond → Bool
  | [] => false
  | (s', b') :: r => (s == s' && b == b') || memC s b r
def subC : Cond → Cond → Bool
  | [], _ => true
  | (s, b) :: r, c => memC s b c && subC r c

def constP : Value → Option PV
  | .int k n => some (.int k n) | .bool b => some (.bool b) | .string s => if s.size ≤ lenMax then some (.str s) else none | .slice none 0 0 => some .nil | _ => none

def opv (T : TEnv) : Operand → TV
  | .tmp t => tg T t
  | .const v => match constP v with
    | some p => ⟨true, [], p⟩
    | none => ⟨false, [], .undef⟩
  | .func f => ⟨true, [], .clo f []⟩
  | .global _ => ⟨false, [], .undef⟩
def okC (x : TV) (c : Cond) : Bool := x.ok && subC x.c c

def pickP (t : Bool) (a b : PV) : PV := match a, b with
  | .bool x, .bool y => .bool (bif t then x else y)
  | _, _ => if t then a else b

def argsOk (T : TEnv) (c : Cond) : List Operand → Bool
  | [] => true
  | x :: r => okC (opv T x) c && argsOk T c r
def argsP (T : TEnv) : List Operand → List PV
  | [] => []
  | x :: r => (opv T x).p :: argsP T r

def rPick (T : TEnv) (c : Cond) (x a b : Operand) (H : Heap) : Res := match x with
  | .tmp t => ⟨(okC (tg T t) c && isB (tg T t).p && okC (opv T a) ((t, true) :: c) && okC (opv T b) ((t, false) :: c)) = true, pickP (boolP (tg T t).p) (opv T a).p (opv T b).p, H⟩
  | _ => noRes H

def withOk (b : Bool) (r : Res) : Res := ⟨b = true ∧ r.s, r.p, r.H⟩

def vStep (P : Program) (φ : FuncId → List PV → PV) (op : Op) (T : TEnv) (c : Cond) (H : Heap) : Res := match op with
  | .pick x a b => rPick T c x a b H
  | op => withOk (argsOk T c op.operands.toList) (rOp P φ op (holds T c) (argsP T op.operands.toList) H)

abbrev POp := Option Tmp × Op × Option (Option Tmp × Bool)
def prepO (ops : Array Oper) (o : Oper) : POp := (o.dst, o.op, o.guard.map fun g => ((ops[g.1]?).bind (·.dst), g.2))
def prep (ops : Array Oper) : List POp := ops.toList.map (prepO ops)

def putT (T : TEnv) (d : Option Tmp) (c : Cond) (p : PV) : TEnv := match d with
  | some d => (d, c, p) :: T
  | none => T
def gC (T : TEnv) : Option (Option Tmp × Bool) → Cond
  | none => []
  | some (some t, b) => (t, b) :: (tg T t).c
  | some (none, _) => []
def gS (T : TEnv) : Option (Option Tmp × Bool) → Bool
  | none => true
  | some (some t, _) => (tg T t).ok && isB (tg T t).p
  | some (none, _) => false

/-- Only what was carried out without a guard lives on behind a region. -/
def endT : TEnv → TEnv
  | [] => []
  | (t, [], p) :: r => (t, [], p) :: endT r
  | (t, _ :: _, _) :: r => (t, [], .undef) :: endT r

def vNext (r : Res) (d : Option Tmp) (c : Cond) (T : TEnv) (k : TEnv → Heap → Prop) : Prop := r.s ∧ k (putT T d c r.p) r.H

def vcOps (P : Program) (φ : FuncId → List PV → PV) : List POp → TEnv → Heap → (TEnv → Heap → Prop) → Prop
  | [], T, H, K => K (endT T) H
  | o :: rest, T, H, K => gS T o.2.2 = true ∧ vNext (vStep P φ o.2.1 T (gC T o.2.2) H) o.1 (gC T o.2.2) T fun T H => vcOps P φ rest T H K

theorem endT_tg (T : TEnv) (t : Nat) : (tg (endT T) t).c = [] ∧ ((tg (endT T) t).ok = true → (tg T t).ok = true ∧ ((tg T t).c = [] ∧ (tg (endT T) t).p = (tg T t).p ∨ (tg (endT T) t).p = .undef)) := by
  induction T with
  | nil => exact ⟨rfl, fun h => by simp [endT, tg] at h⟩
  | cons e r ih =>
    obtain ⟨u, c, p⟩ := e
    cases c with
    | nil =>
      simp only [endT, tg]
      split
      · exact ⟨rfl, fun _ => ⟨rfl, .inl ⟨rfl, rfl⟩⟩⟩
      · exact ih
    | cons x xs =>
      simp only [endT, tg]
      split
      · exact ⟨rfl, fun _ => ⟨rfl, .inr rfl⟩⟩
      · exact ih

/-- One slot reads as is told. -/
def RelAt (σ : List (Nat × Nat)) (F : Fr) (w : World) (tmps : Array Value) (T : TEnv) (t : Nat) : Prop :=
  (tg T t).ok = true → (holds T (tg T t).c = true → RelV σ F w (tmps.getD t Go.undef) (tg T t).p) ∧ (holds T (tg T t).c = false → tmps.getD t Go.undef = Go.undef)

def RelT (σ : List (Nat × Nat)) (F : Fr) (w : World) (tmps : Array Value) (T : TEnv) : Prop := ∀ t, RelAt σ F w tmps T t

theorem RelT.step {B : Nat} {σ σ' : List (Nat × Nat)} {F F' : Fr} {w w' : World} {tmps : Array Value} {T : TEnv} (h : RelT σ F w tmps T) (x : Step B σ F w σ' F' w') : RelT σ' F' w' tmps T :=
  fun t ht => ⟨fun hc => x.rel ((h t ht).1 hc), (h t ht).2⟩

theorem holds_put {T : TEnv} {d : Nat} {c : Cond} {p : PV} : ∀ {l : Cond}, noC d l = true → holds ((d, c, p) :: T) l = holds T l
  | [], _ => rfl
  | (s, b) :: r, h => by
    simp only [noC, Bool.and_eq_true, bne_iff_ne, ne_eq] at h
    have : tg ((d, c, p) :: T) s = tg T s := by simp [tg, Ne.symm h.1]
    simp only [holds, this, holds_put h.2]

theorem RelT.put {σ : List (Nat × Nat)} {F : Fr} {w : World} {a : Act} {T : TEnv} (h : RelT σ F w a.tmps T) (d : Option Tmp) (c : Cond) (p : PV) (v : Value) (hm : ∀ x, d = some x → (∀ t, noC x (tg T t).c = true) ∧ noC x c = true)
    (hd : ∀ x, d = some x → x < a.tmps.size) (hv : (holds T c = true → RelV σ F w v p) ∧ (holds T c = false → v = Go.undef)) : RelT σ F w (a.put d v).tmps (putT T d c p) := by
  cases d with
  | none => exact h
  | some x =>
    have hm := hm x rfl
    intro t ht
    simp only [putT, tg] at ht ⊢
    by_cases e : x = t
    · subst e
      have : (a.put (some x) v).tmps.getD x Go.undef = v := by simp [Act.put, Array.getD_eq_getD_getElem?, hd x rfl]
      rw [if_pos rfl, this, holds_put hm.2]
      exact hv
    · rw [if_neg e] at ht ⊢
      have : (a.put (some x) v).tmps.getD t Go.undef = a.tmps.getD t Go.undef := by
        simp [Act.put, Array.getD_eq_getD_getElem?, e]
      rw [this, holds_put (hm.1 t)]
      exact h t ht

theorem RelT.endT {σ : List (Nat × Nat)} {F : Fr} {w : World} {tmps : Array Value} {T : TEnv} (h : RelT σ F w tmps T) : RelT σ F w tmps (endT T) := by
  intro t ht
  obtain ⟨h1, h2⟩ := endT_tg T t
  rw [h1]
  refine ⟨fun _ => ?_, fun e => by simp [holds] at e⟩
  obtain ⟨h3, h4⟩ := h2 ht
  rcases h4 with ⟨h4, h5⟩ | h4
  · rw [h5]; exact (h t h3).1 (by rw [h4]; rfl)
  · rw [h4]; exact .frz (.undef _)

theorem constP_rel {F : Fr} {w : World} {v : Value} {p : PV} (h : constP v = some p) : RelF F w v p := by
  unfold constP at h
  split at h
  · simp only [Option.some.injEq] at h; subst h; exact .int _ _
  · simp only [Option.some.injEq] at h; subst h; exact .bool _
  · split at h
    · rename_i hs
      simp only [Option.some.injEq] at h; subst h; exact .str _ hs
    · cases h
  · simp only [Option.some.injEq] at h; subst h; exact .nil
  · cases h

theorem memC_holds {T : TEnv} {s : Nat} {b : Bool} : ∀ {c : Cond}, memC s b c = true → holds T c = true → (boolP (tg T s).p == b) = true
  | [], h, _ => by simp [memC] at h
  | (s', b') :: r, h, hh => by
    simp only [memC, Bool.or_eq_true, Bool.and_eq_true, beq_iff_eq] at h
    simp only [holds, Bool.and_eq_true] at hh
    rcases h with ⟨rfl, rfl⟩ | h
    · exact hh.1
    · exact memC_holds h hh.2
theorem subC_holds {T : TEnv} : ∀ {l c : Cond}, subC l c = true → holds T c = true → holds T l = true
  | [], _, _, _ => rfl
  | (s, b) :: r, c, h, hh => by
    simp only [subC, Bool.and_eq_true] at h
    simp only [holds, Bool.and_eq_true]
    exact ⟨memC_holds h.1 hh, subC_holds h.2 hh⟩

theorem opv_rel {σ : List (Nat × Nat)} {F : Fr} {w : World} {a : Act} {T : TEnv} {x : Operand} (h : ∀ t, x = .tmp t → RelAt σ F w a.tmps T t) {c : Cond} (hx : okC (opv T x) c = true) (hc : holds T c = true) : RelV σ F w (a.eval x) (opv T x).p := by
  simp only [okC, Bool.and_eq_true] at hx
  cases x with
  | tmp t => exact (h t rfl hx.1).1 (subC_holds hx.2 hc)
  | const v =>
    have h1 := hx.1
    simp only [opv] at h1 ⊢
    split at h1
    · rename_i p hp; exact .frz (constP_rel hp)
    · simp at h1
  | func f => exact .clo f #[] [] rfl fun i hi => by simp at hi
  | global g => simp [opv] at hx

theorem args_rel {σ : List (Nat × Nat)} {F : Fr} {w : World} {a : Act} {T : TEnv} {c : Cond} (hc : holds T c = true) : ∀ {l : List Operand}, (∀ t, Operand.tmp t ∈ l → RelAt σ F w a.tmps T t) → argsOk T c l = true →
    (argsP T l).length = l.length ∧ ∀ i, i < l.length → RelV σ F w (a.eval (l.getD i default)) ((argsP T l).getD i .undef)
  | [], _, _ => ⟨rfl, fun i hi => by simp at hi⟩
  | x :: l, h, hx => by
    simp only [argsOk, Bool.and_eq_true] at hx
    obtain ⟨h1, h2⟩ := args_rel hc (fun t ht => h t (List.mem_cons_of_mem _ ht)) hx.2
    refine ⟨by simp [argsP, h1], fun i hi => ?_⟩
    cases i with
    | zero => exact opv_rel (fun t e => h t (e ▸ List.mem_cons_self ..)) hx.1 hc
    | succ i => simpa [argsP] using h2 i (by simpa using hi)
theorem argsP_length {T : TEnv} : ∀ (l : List Operand), (argsP T l).length = l.length
  | [] => rfl
  | _ :: l => by simp [argsP, argsP_length l]

/-- A step of one operation, carried out or not. -/
theorem vStep_sound {P : Program} {φ : FuncId → List PV → PV} {op : Op} {c : Cond} {T : TEnv} {H : Heap} (h : (vStep P φ op T c H).s) :
    (holds T c = false → (vStep P φ op T c H).H = H) ∧ (holds T c = true → ∀ (B : Nat) (σ : List (Nat × Nat)) (F : Fr) (w : World) (a : Act) (o : Oper), o.op = op → Ow B σ F w H → (∀ t, Operand.tmp t ∈ op.operands.toList → RelAt σ F w a.tmps T t) →
      StepOk P o a w fun v w' => ∃ σ' F', Ow B σ' F' w' (vStep P φ op T c H).H ∧ Step B σ F w σ' F' w' ∧ RelV σ' F' w' v (vStep P φ op T c H).p ∧ Tl op σ F w σ' F' w') := by
  by_cases hp : ∃ x y z, op = .pick x y z
  · obtain ⟨x, y, z, rfl⟩ := hp
    simp only [vStep, rPick] at h ⊢
    cases x with
    | tmp t =>
      simp only [Bool.and_eq_true] at h ⊢
      obtain ⟨⟨⟨h1, h2⟩, h3⟩, h4⟩ := h
      refine ⟨fun _ => trivial, fun hct B σ F w a o ho hI hT => ?_⟩
      have hTx : ∀ u : Operand, u = .tmp t ∨ u = y ∨ u = z → ∀ t', u = .tmp t' → RelAt σ F w a.tmps T t' := fun u hu t' e => hT t' (by subst e; rcases hu with h | h | h <;> simp [Op.operands, h])
      have rx := opv_rel (hTx _ (.inl rfl)) (x := .tmp t) h1 hct
      obtain ⟨b, hb⟩ : ∃ b, (tg T t).p = .bool b := by
        cases hq : (tg T t).p <;> simp [hq, isB] at h2
        exact ⟨_, rfl⟩
      simp only [opv, hb] at rx
      refine .value (v := if b then a.eval y else a.eval z) (w' := w) ?_ ⟨σ, F, hI, Step.refl B σ F w, ?_, fun _ => ⟨rfl, .inl ⟨rfl, rfl⟩⟩, fun h => by simp [nwB] at h⟩
      · cases b <;> simp [execOp, ho, rx.bool_inv, asBool]
      · rw [hb]
        cases b with
        | true =>
          have ry := opv_rel (hTx _ (.inr (.inl rfl))) h3 (by simp only [holds, hb, boolP, hct]; rfl)
          have e : ∀ pa pb, pickP true pa pb = pa := by intro pa pb; unfold pickP; split <;> simp
          simp only [boolP, e]; simpa using ry
        | false =>
          have rz := opv_rel (hTx _ (.inr (.inr rfl))) h4 (by simp only [holds, hb, boolP, hct]; rfl)
          have e : ∀ pa pb, pickP false pa pb = pb := by intro pa pb; unfold pickP; split <;> simp
          simp only [boolP, e]; simpa using rz
    | _ => exact h.elim
  · have hv : vStep P φ op T c H = withOk (argsOk T c op.operands.toList) (rOp P φ op (holds T c) (argsP T op.operands.toList) H) := by
      unfold vStep
      split
      · exact absurd ⟨_, _, _, rfl⟩ hp
      · rfl
    rw [hv] at h ⊢
    simp only [withOk] at h ⊢
    obtain ⟨h1, h2⟩ := h
    obtain ⟨r1, r2⟩ := rOp_sound h2
    refine ⟨r1, fun hct B σ F w a o ho hI hT => ?_⟩
    obtain ⟨a1, a2⟩ := args_rel hct hT h1
    refine r2 hct B σ F w a o ho hI (by simpa using a1) fun i hi => ?_
    have := a2 i (by rw [← a1]; exact hi)
    have e : op.operands.toList.getD i default = op.operands.getD i default := by simp [List.getD, Array.getD_eq_getD_getElem?]
    rw [← e]; exact this

/-- How a machine's state stands to what is told of it. (σ0, F0, w0: where the call began.) -/
def SR (B base n : Nat) (σ0 : List (Nat × Nat)) (F0 : Fr) (w0 : World) (T : TEnv) (H : Heap) (a : Act) (w : World) : Prop :=
  ∃ σ F, (∀ t, (tg T t).c = []) ∧ a.tmps.size = n ∧ a.defers = [] ∧ RelT σ F w a.tmps T ∧ Ow B σ F w H ∧ Ext B base σ0 F0 w0 σ F w

/-- Slots in bounds; each slot written once; guards look back. -/
def okList (n : Nat) : List Nat → Nat → List Oper → Bool
  | _, _, [] => true
  | seen, i, o :: r => (match o.guard with | some (j, _) => decide (j < i) | none => true) && match o.dst with
    | some d => decide (d < n) && !(seen.contains d) && okList n (d :: seen) (i + 1) r
    | none => okList n seen (i + 1) r
def okOps (n : Nat) (ops : Array Oper) : Bool := okList n [] 0 ops.toList

theorem okList_at {n : Nat} : ∀ (l : List Oper) (seen : List Nat) (i : Nat), okList n seen i l = true → ∀ (k : Nat) (o : Oper), l[k]? = some o →
    (∀ j b, o.guard = some (j, b) → j < i + k) ∧ ∀ d, o.dst = some d → d < n ∧ d ∉ seen ∧ ∀ (j : Nat) (o' : Oper), j < k → l[j]? = some o' → o'.dst ≠ some d
  | [], _, _, _, k, o, ho => by simp at ho
  | x :: l, seen, i, h, k, o, ho => by
    simp only [okList, Bool.and_eq_true] at h
    obtain ⟨hg, h⟩ := h
    cases k with
    | zero =>
      simp only [List.getElem?_cons_zero, Option.some.injEq] at ho
      subst ho
      refine ⟨fun j b e => by rw [e] at hg; simpa using hg, fun d e => ?_⟩
      rw [e] at h
      simp only [Bool.and_eq_true, Bool.not_eq_true', decide_eq_true_eq] at h
      exact ⟨h.1.1, by simpa using h.1.2, fun j o' hj => by omega⟩
    | succ k =>
      simp only [List.getElem?_cons_succ] at ho
      cases hx : x.dst with
      | none =>
        simp only [hx] at h
        obtain ⟨g1, g2⟩ := okList_at l seen (i + 1) h k o ho
        refine ⟨fun j b e => by have := g1 j b e; omega, fun d e => ⟨(g2 d e).1, (g2 d e).2.1, fun j o' hj hj' => ?_⟩⟩
        cases j with
        | zero => simp only [List.getElem?_cons_zero, Option.some.injEq] at hj'; subst hj'; rw [hx]; simp
        | succ j => exact (g2 d e).2.2 j o' (by omega) (by simpa using hj')
      | some dx =>
        simp only [hx, Bool.and_eq_true] at h
        obtain ⟨g1, g2⟩ := okList_at l (dx :: seen) (i + 1) h.2 k o ho
        refine ⟨fun j b e => by have := g1 j b e; omega, fun d e => ⟨(g2 d e).1, fun hm => (g2 d e).2.1 (by simp [hm]), fun j o' hj hj' => ?_⟩⟩
        cases j with
        | zero =>
          simp only [List.getElem?_cons_zero, Option.some.injEq] at hj'; subst hj'; rw [hx]
          intro hd
          simp only [Option.some.injEq] at hd
          exact (g2 d e).2.1 (by simp [hd])
        | succ j => exact (g2 d e).2.2 j o' (by omega) (by simpa using hj')

theorem noC_of {d : Nat} : ∀ {c : Cond}, (∀ s b, (s, b) ∈ c → s ≠ d) → noC d c = true
  | [], _ => rfl
  | (s, b) :: r, h => by
    simp only [noC, Bool.and_eq_true, bne_iff_ne, ne_eq]
    exact ⟨h s b (by simp), noC_of fun s b hm => h s b (by simp [hm])⟩

/-- Guards hang on slots of operations before the k-th. -/
def CondsIn (ops : Array Oper) (k : Nat) (c : Cond) : Prop := ∀ s b, (s, b) ∈ c → ∃ (j : Nat) (o : Oper), j < k ∧ ops[j]? = some o ∧ o.dst = some s
theorem CondsIn.mono {ops : Array Oper} {k k' : Nat} {c : Cond} (h : CondsIn ops k c) (hk : k ≤ k') : CondsIn ops k' c := fun s b hm => let ⟨j, o, h1, h2⟩ := h s b hm; ⟨j, o, by omega, h2⟩
theorem CondsIn.noC {ops : Array Oper} {n k d : Nat} {c : Cond} (hok : okOps n ops = true) (h : CondsIn ops k c) {o : Oper} (ho : ops[k]? = some o) (hd : o.dst = some d) : noC d c = true := by
  refine noC_of fun s b hm e => ?_
  obtain ⟨j, o', h1, h2, h3⟩ := h s b hm
  obtain ⟨_, g2⟩ := okList_at ops.toList [] 0 hok k o (by simpa using ho)
  exact (g2 d hd).2.2 j o' h1 (by simpa using h2) (e ▸ h3)

theorem wanted_eq {σ : List (Nat × Nat)} {F : Fr} {w : World} {tmps : Array Value} {T : TEnv} (ops : Array Oper) (o : Oper) (hT : ∀ j b t, o.guard = some (j, b) → (ops[j]?).bind (·.dst) = some t → RelAt σ F w tmps T t)
    (h : gS T (prepO ops o).2.2 = true) : Region.wanted o (yielded ops tmps) = holds T (gC T (prepO ops o).2.2) := by
  unfold Region.wanted
  simp only [prepO] at h ⊢
  cases hg : o.guard with
  | none => simp [gC, holds]
  | some g =>
    obtain ⟨j, b⟩ := g
    simp only [hg, Option.map_some] at h ⊢
    cases ht : (ops[j]?).bind (·.dst) with
    | none => simp [gS, ht] at h
    | some t =>
      simp only [ht, gS, Bool.and_eq_true] at h
      simp only [gC, holds]
      obtain ⟨x, hx⟩ : ∃ x, (tg T t).p = .bool x := by
        cases hq : (tg T t).p <;> simp [hq, isB] at h
        exact ⟨_, rfl⟩
      simp only [yielded, ht, Option.bind_some, hx, boolP]
      obtain ⟨h1, h2⟩ := hT j b t hg ht h.1
      cases hh : holds T (tg T t).c with
      | true =>
        have := h1 hh
        rw [hx] at this
        have := this.bool_inv
        rw [Array.getD_eq_getD_getElem?] at this
        cases hq : tmps[t]? with
        | none => simp [hq, Go.undef] at this
        | some v =>
          simp [hq] at this
          subst this
          cases x <;> cases b <;> rfl
      | false =>
        have := h2 hh
        rw [Array.getD_eq_getD_getElem?] at this
        cases hq : tmps[t]? with
        | none => simp
        | some v =>
          simp [hq] at this
          subst this
          simp [Go.undef]

/-- A region in the text's order. -/
theorem vcOps_sound {P : Program} {φ : FuncId → List PV → PV} {B base n : Nat} {σ0 : List (Nat × Nat)} {F0 : Fr} {w0 : World} (ops : Array Oper) (hok : okOps n ops = true) (Q : Exit → Act → World → Prop) (K : TEnv → Heap → Prop)
    (hq : ∀ T H a w, K T H → SR B base n σ0 F0 w0 T H a w → Q .normal a w) :
    ∀ (m k : Nat) (T : TEnv) (H : Heap) (a : Act) (w : World) (σ : List (Nat × Nat)) (F : Fr), k + m = ops.size → vcOps P φ ((prep ops).drop k) T H K →
      (∀ t, CondsIn ops k (tg T t).c) → a.tmps.size = n → a.defers = [] → RelT σ F w a.tmps T → Ow B σ F w H → Ext B base σ0 F0 w0 σ F w → wpOps P ops Q (List.range' k m) a w
  | 0, k, T, H, a, w, σ, F, hk, hv, hs, s1, s2, s3, s4, s5 => by
    have : (prep ops).drop k = [] := by simp [prep]; omega
    rw [this] at hv
    exact hq (endT T) H a w hv ⟨σ, F, fun t => (endT_tg T t).1, s1, s2, s3.endT, s4, s5⟩
  | m + 1, k, T, H, a, w, σ, F, hk, hv, hs, s1, s2, s3, s4, s5 => by
    have hlt : k < ops.size := by omega
    have ho : ops[k]? = some ops[k] := by simp [hlt]
    have hd : (prep ops).drop k = prepO ops ops[k] :: (prep ops).drop (k + 1) := by
      rw [List.drop_eq_getElem_cons (by simpa [prep] using hlt)]
      simp [prep]
    rw [hd] at hv
    simp only [vcOps] at hv
    obtain ⟨hg, hst, hK⟩ := hv
    have hw := wanted_eq ops ops[k] (fun _ _ t _ _ => s3 t) hg
    obtain ⟨hf, hstep⟩ := vStep_sound hst
    obtain ⟨k1, k2⟩ := okList_at ops.toList [] 0 hok k ops[k] (by simpa using ho)
    have hdst : ∀ x, ops[k].dst = some x → x < a.tmps.size := fun x hx => by rw [s1]; exact (k2 x hx).1
    have hsz : ∀ v, (a.put ops[k].dst v).tmps.size = n := by intro v; cases ops[k].dst <;> simp [Act.put, s1]
    have hdf : ∀ v, (a.put ops[k].dst v).defers = [] := by intro v; cases ops[k].dst <;> simp [Act.put, s2]
    have hC : CondsIn ops k (gC T (prepO ops ops[k]).2.2) := by
      simp only [prepO]
      cases hgd : ops[k].guard with
      | none => intro s b hm; simp [gC] at hm
      | some g =>
        obtain ⟨j, b⟩ := g
        simp only [Option.map_some]
        cases ht : (ops[j]?).bind (·.dst) with
        | none => intro s b hm; simp [gC] at hm
        | some t =>
          intro s b' hm
          simp only [gC, List.mem_cons, Prod.mk.injEq] at hm
          rcases hm with ⟨rfl, rfl⟩ | hm
          · obtain ⟨o', ho', hd'⟩ := Option.bind_eq_some_iff.1 ht
            exact ⟨j, o', by have := k1 j _ hgd; omega, ho', hd'⟩
          · exact hs t s b' hm
    have hm : ∀ x, ops[k].dst = some x → (∀ t, noC x (tg T t).c = true) ∧ noC x (gC T (prepO ops ops[k]).2.2) = true :=
      fun x hx => ⟨fun t => (hs t).noC hok ho hx, hC.noC hok ho hx⟩
    have hs' : ∀ p, ∀ t, CondsIn ops (k + 1) (tg (putT T ops[k].dst (gC T (prepO ops ops[k]).2.2) p) t).c := by
      intro p t
      cases hx : ops[k].dst with
      | none => exact (hs t).mono (by omega)
      | some x =>
        simp only [putT, tg]
        split
        · exact hC.mono (by omega)
        · exact (hs t).mono (by omega)
    rw [List.range'_succ]
    simp only [wpOps, ho, hw]
    cases hc : holds T (gC T (prepO ops ops[k]).2.2) with
    | true =>
      rw [if_pos rfl]
      refine .inl (hstep hc B σ F w a ops[k] rfl s4 (fun t _ => s3 t) _ _ ?_)
      rintro v w' ⟨σ', F', h1, h2, h3, _⟩
      exact vcOps_sound ops hok Q K hq m (k + 1) _ _ _ _ σ' F' (by omega) hK (hs' _) (hsz v) (hdf v)
        ((s3.step h2).put _ _ _ _ hm hdst ⟨fun _ => h3, (fun e => by rw [hc] at e; cases e)⟩) h1 (s5.trans (h2 base))
    | false =>
      rw [if_neg (by simp)]
      have hH := hf hc
      rw [hH] at hK
      exact vcOps_sound ops hok Q K hq m (k + 1) _ _ _ _ σ F (by omega) hK (hs' _) (hsz _) (hdf _)
        (s3.put _ _ _ _ hm hdst ⟨(fun e => by rw [hc] at e; cases e), fun _ => rfl⟩) s4 s5

end Go.Pv

namespace Go.Pv
open Go.RowKit (Below)

/-- An invariant over what has come up serves every order. -/
theorem wpAny_inv {P : Program} {ops : Array Oper} {Q : Exit → Act → World → Prop} (Inv : (Nat → Bool) → Act → World → Prop)
    (hback : ∀ (i : Nat) (o : Oper), ops[i]? = some o → ∀ e ∈ o.after, Region.binds .any e = true → e.on < i)
    (hQ : ∀ L a w, (∀ j, j < ops.size → L j = true) → Inv L a w → Q .normal a w)
    (hstep : ∀ (L : Nat → Bool) (a : Act) (w : World) (i : Nat) (o : Oper), Inv L a w → ops[i]? = some o → L i = false →
      (∀ (j : Nat) (o' : Oper), ops[j]? = some o' → L j = true → ∀ e ∈ o'.after, Region.binds .any e = true → L e.on = true) →
      (∀ e ∈ o.after, Region.binds .any e = true → L e.on = true) → wpOp P ops Q i (Inv fun j => if j = i then true else L j) a w) :
    ∀ (fuel : Nat) (listed : Array Bool) (a : Act) (w : World), listed.size = ops.size → (List.range ops.size).countP (fun j => !listed.getD j false) = fuel →
      (∀ (j : Nat) (o' : Oper), ops[j]? = some o' → listed.getD j false = true → ∀ e ∈ o'.after, Region.binds .any e = true → listed.getD e.on false = true) →
      Inv (fun j => listed.getD j false) a w → wpAny P .any ops Q fuel listed a w := by
  have key : ∀ (listed : Array Bool), listed.size = ops.size → Region.ready .any ops listed = [] → ∀ j, j < ops.size → listed.getD j false = true := by
    intro listed hsz hr j
    induction j using Nat.strongRecOn with
    | _ j ih =>
      intro hj
      cases hl : listed.getD j false with
      | true => rfl
      | false =>
        have : j ∈ Region.ready .any ops listed := by
          refine mem_ready.2 ⟨?_, ops[j], by simp [hj], fun e he hb => ih e.on (hback j ops[j] (by simp [hj]) e he hb) ?_⟩
          · simp [Array.getD_eq_getD_getElem?, hsz, hj] at hl ⊢; exact hl
          · have := hback j ops[j] (by simp [hj]) e he hb; omega
        rw [hr] at this; cases this
  intro fuel
  induction fuel with
  | zero =>
    intro listed a w hsz hc hcl hI
    have hall : ∀ j, j < ops.size → listed.getD j false = true := by
      intro j hj
      have := List.countP_eq_zero.1 hc j (List.mem_range.2 hj)
      simpa using this
    refine ⟨?_, hQ _ a w hall hI⟩
    apply List.eq_nil_iff_forall_not_mem.2
    intro i hi
    obtain ⟨h0, o, ho, _⟩ := mem_ready.1 hi
    have hlt : i < ops.size := (Array.getElem?_eq_some_iff.1 ho).1
    have h1 := hall i hlt
    simp [Array.getD_eq_getD_getElem?, hsz, hlt] at h0 h1
    rw [h0] at h1; cases h1
  | succ fuel ih =>
    intro listed a w hsz hc hcl hI
    refine ⟨fun hr => hQ _ a w (key listed hsz hr) hI, fun i hi => ?_⟩
    obtain ⟨h0, o, ho, hall⟩ := mem_ready.1 hi
    have hlt : i < ops.size := (Array.getElem?_eq_some_iff.1 ho).1
    have hli : listed.getD i false = false := by
      simp [Array.getD_eq_getD_getElem?, hsz, hlt] at h0 ⊢; exact h0
    have hget : ∀ j, (listed.setIfInBounds i true).getD j false = if j = i then true else listed.getD j false := by
      intro j
      by_cases hji : j = i
      · subst hji; simp [Array.getD_eq_getD_getElem?, hsz, hlt]
      · rw [if_neg hji, getD_set_ne false (Ne.symm hji)]
    refine wpOp_mono (fun a' w' h => ?_) (hstep _ a w i o hI ho hli hcl hall)
    refine ih (listed.setIfInBounds i true) a' w' (by simpa using hsz) ?_ ?_ (by simpa only [hget] using h)
    · have h1 : (List.range ops.size).countP (fun j => !listed.getD j false) = (List.range ops.size).countP (fun j => !(listed.setIfInBounds i true).getD j false) + 1 := by
        have hsplit : List.range ops.size = List.range i ++ (i :: (List.range' (i + 1) (ops.size - i - 1))) := by
          rw [List.range_eq_range', List.range_eq_range', ← List.range'_succ]
          have := List.range'_append (s := 0) (m := i) (n := ops.size - i - 1 + 1) (step := 1)
          simp only [Nat.zero_add, Nat.one_mul] at this
          rw [this]; congr 1; omega
        rw [hsplit, List.countP_append, List.countP_append, List.countP_cons, List.countP_cons]
        have e1 : (List.range i).countP (fun j => !listed.getD j false) = (List.range i).countP (fun j => !(listed.setIfInBounds i true).getD j false) :=
          List.countP_congr fun j hj => by rw [hget, if_neg (by have := List.mem_range.1 hj; omega)]
        have e2 : (List.range' (i + 1) (ops.size - i - 1)).countP (fun j => !listed.getD j false) = (List.range' (i + 1) (ops.size - i - 1)).countP (fun j => !(listed.setIfInBounds i true).getD j false) :=
          List.countP_congr fun j hj => by rw [hget, if_neg (by have := (List.mem_range'_1.1 hj).1; omega)]
        rw [e1, e2, hget i, if_pos rfl, hli]
        simp; omega
      omega
    · intro j o' ho' hj e he hb
      rw [hget] at hj ⊢
      split
      · rfl
      · by_cases hji : j = i
        · subst hji
          rw [ho] at ho'; cases ho'
          exact hall e he hb
        · rw [if_neg hji] at hj
          exact hcl j o' ho' hj e he hb

/-- Operation i waits for operation j, by a chain of edges. -/
def reachB (ops : Array Oper) (j : Nat) : Nat → Nat → Bool
  | 0, _ => false
  | fuel + 1, i => match ops[i]? with
    | some o => o.after.any fun e => Region.binds .any e && (e.on == j || reachB ops j fuel e.on)
    | none => false

theorem reach_listed {ops : Array Oper} {L : Nat → Bool} {j : Nat} (hcl : ∀ (j : Nat) (o' : Oper), ops[j]? = some o' → L j = true → ∀ e ∈ o'.after, Region.binds .any e = true → L e.on = true) :
    ∀ (fuel i : Nat) (o : Oper), ops[i]? = some o → (∀ e ∈ o.after, Region.binds .any e = true → L e.on = true) → reachB ops j fuel i = true → L j = true
  | 0, _, _, _, _, h => by simp [reachB] at h
  | fuel + 1, i, o, ho, hall, h => by
    simp only [reachB, ho] at h
    obtain ⟨e, he, h1⟩ := Array.any_eq_true'.1 h
    simp only [Bool.and_eq_true, Bool.or_eq_true, beq_iff_eq] at h1
    have hle := hall e he h1.1
    rcases h1.2 with h2 | h2
    · rw [← h2]; exact hle
    · cases hoe : ops[e.on]? with
      | none =>
        cases fuel with
        | zero => simp [reachB] at h2
        | succ n => simp [reachB, hoe] at h2
      | some oe => exact reach_listed hcl fuel e.on oe hoe (hcl e.on oe hoe hle) h2

/-- Operations that may stand in a region's head: any order among them is the same. -/
def headB (op : Op) : Bool := quietB op || newB op
def headN (ops : Array Oper) : Nat := (ops.toList.takeWhile fun o => headB o.op).length

/-- Does operation o wait for number j by an edge? -/
def edgeB (o : Oper) (j : Nat) : Bool := o.after.any fun e => Region.binds .any e && e.on == j

/-- A region in which any order of its head is the same, and what is behind the head comes in the text's order. -/
def okDraw (ops : Array Oper) : Bool :=
  ((List.range ops.size).all fun i => match ops[i]? with
    | some o => (o.after.all fun e => !Region.binds .any e || decide (e.on < i)) &&
      (if i < headN ops then
        ((List.range (headN ops)).all fun j => match ops[j]? with
          | some oj => match oj.dst with
            | some d => !(o.looksAt ops).contains d || (!newB oj.op && (if j < i then edgeB o j else decide (j = i) || edgeB oj i))
            | none => true
          | none => true)
      else (List.range i).all fun j => reachB ops j ops.size i)
    | none => true)

structure Cm (F : Fr) (w : World) (F' : Fr) (w' : World) : Prop where
  below : Below w.heap.size w w'
  sub : ∀ (t : Bool) b, F t b → F' t b
  sup : ∀ (t : Bool) b, F' t b → F t b ∨ w.heap.size ≤ b
  lt : ∀ b, F' true b → b < w'.heap.size

theorem Cm.rel {F F' : Fr} {w w' : World} (c : Cm F w F' w') (ho : ∀ b, F true b → b < w.heap.size) {σ : List (Nat × Nat)} {v : Value} {p : PV} (h : RelV σ F w v p) : RelV σ F' w' v p :=
  h.frame (fun _ _ h => h) c.sub fun b hb => c.below.block b (ho b hb)
theorem Cm.blk {F F' : Fr} {w w' : World} (c : Cm F w F' w') (ho : ∀ b, F true b → b < w.heap.size) {σ : List (Nat × Nat)} {x : Nat × Nat} {k : Blk} (hx : x.1 < w.heap.size) (h : BlkOk σ F w x k) : BlkOk σ F' w' x k := by
  exact h.frame (fun _ _ h => h) c.sub (fun b hb => c.below.block b (ho b hb)) (fun _ => c.below.block x.1 hx) (fun _ hn hF => by rcases c.sup _ _ hF with h | h; exact hn h; omega)
theorem Ow.calm {B : Nat} {σ : List (Nat × Nat)} {F F' : Fr} {w w' : World} {H : Heap} (hI : Ow B σ F w H) (c : Cm F w F' w') : Ow B σ F' w' H ∧ Step B σ F w σ F' w' := by
  have hsz := c.below.size
  refine ⟨⟨hI.len, fun h x k hb hk => ?_, fun h x k hb hk hd => ⟨(hI.big h x k hb hk hd).1, by have := (hI.big h x k hb hk hd).2; omega⟩, hI.inj, c.lt, by have := hI.base; omega⟩,
    fun m => ⟨c.below.mono hI.base, c.sub, fun b hb => c.below.block b (hI.old b hb), fun _ _ _ h => h, fun t b hb => (c.sup t b hb).elim .inl fun h => .inr (Nat.le_trans hI.base h)⟩⟩
  by_cases hd : k = .dead
  · subst hd; trivial
  · exact c.blk hI.old (hI.big h x _ hb hk hd).2 (hI.ok h x _ hb hk)
theorem Qt.calm {B : Nat} {σ σ' : List (Nat × Nat)} {F F' : Fr} {w w' : World} {H : Heap} (hI : Ow B σ F w H) (h : Qt σ F w σ' F' w') : σ' = σ ∧ Cm F w F' w' := by
  obtain ⟨rfl, ⟨rfl, rfl⟩ | ⟨hb, rfl⟩⟩ := h
  · exact ⟨rfl, Below.refl _ _, fun _ _ h => h, fun _ _ h => .inl h, hI.old⟩
  · exact ⟨rfl, hb, fun _ _ h => .inl h, fun _ _ h => h.imp id (·.1), fun b h => h.elim (fun h => Nat.lt_of_lt_of_le (hI.old b h) hb.size) (·.2)⟩
theorem Nw.calm {B : Nat} {σ σ' : List (Nat × Nat)} {F F' : Fr} {w w' : World} {H : Heap} (hI : Ow B σ F w H) (h : Nw σ F w σ' F' w') : ∃ x, σ' = σ ++ [x] ∧ w.heap.size ≤ x.1 ∧ F' = F ∧ Cm F w F w' := by
  obtain ⟨x, h1, h2, h3, h4⟩ := h
  exact ⟨x, h1, h2, h4, h3, fun _ _ h => h, fun _ _ h => .inl h, fun b h => Nat.lt_of_lt_of_le (hI.old b h) h3.size⟩

/-- A block that is there, and nobody's, becomes the call's own. -/
theorem Ow.adopt {B : Nat} {σ : List (Nat × Nat)} {F : Fr} {w : World} {H : Heap} (hI : Ow B σ F w H) {x : Nat × Nat} {k : Blk} (hk : ∀ τ, BlkOk τ F w x k) (h1 : B ≤ x.1) (h2 : x.1 < w.heap.size)
    (h3 : ∀ (h : Nat) (y : Nat × Nat) (b : Blk), σ[h]? = some y → H[h]? = some b → b ≠ .dead → y.1 ≠ x.1) : Ow B (σ ++ [x]) F w (H ++ [k]) := by
  have part : ∀ (h : Nat) (y : Nat × Nat) (b : Blk), (σ ++ [x])[h]? = some y → (H ++ [k])[h]? = some b →
      (h < σ.length ∧ σ[h]? = some y ∧ H[h]? = some b) ∨ (h = σ.length ∧ y = x ∧ b = k) := by
    intro h y b hb hb'
    by_cases hl : h < σ.length
    · rw [List.getElem?_append_left hl] at hb
      rw [List.getElem?_append_left (by rw [← hI.len]; exact hl)] at hb'
      exact .inl ⟨hl, hb, hb'⟩
    · have hl' : h = σ.length := by
        have := (List.getElem?_eq_some_iff.1 hb).1
        simp at this; omega
      subst hl'
      simp at hb
      rw [hI.len] at hb'
      simp at hb'
      exact .inr ⟨rfl, hb.symm, hb'.symm⟩
  refine ⟨by simp [hI.len], ?_, ?_, ?_, hI.old, hI.base⟩
  · intro h y b hb hb'
    rcases part h y b hb hb' with ⟨hl, hb, hb'⟩ | ⟨_, rfl, rfl⟩
    · exact (hI.ok h y b hb hb').frame (fun h y hy => by rw [List.getElem?_append_left (List.getElem?_eq_some_iff.1 hy).1]; exact hy) (fun _ _ h => h) (fun _ _ => rfl) (fun _ => rfl) (fun _ h => h)
    · exact hk _
  · intro h y b hb hb' hd
    rcases part h y b hb hb' with ⟨hl, hb, hb'⟩ | ⟨_, rfl, rfl⟩
    · exact hI.big h y b hb hb' hd
    · exact ⟨h1, h2⟩
  · intro h h' y y' b b' hb hb' hx hk1 hk2 hd hd'
    rcases part h y b hb hk1 with ⟨hl, gb, gk⟩ | ⟨rfl, rfl, rfl⟩
    · rcases part h' y' b' hb' hk2 with ⟨hl', gb', gk'⟩ | ⟨rfl, rfl, rfl⟩
      · exact hI.inj h h' y y' b b' gb gb' hx gk gk' hd hd'
      · exact absurd hx (h3 h y b gb gk hd)
    · rcases part h' y' b' hb' hk2 with ⟨hl', gb', gk'⟩ | ⟨rfl, rfl, rfl⟩
      · exact absurd hx.symm (h3 h' y' b' gb' gk' hd')
      · rfl

/-- A new block's handle, under another number. -/
def ren (h : Nat) : PV → PV
  | .ptr _ sz i off => .ptr h sz i off
  | .own _ sz a len => .own h sz a len
  | p => p
/-- What a new operation answers. -/
inductive NewRes (H : Heap) : PV → Heap → Prop where
  | mk (p : PV) (T sz : Nat) (es : List (List PV)) (hp : (∃ s i off, p = .ptr H.length s i off) ∨ ∃ s a len, p = .own H.length s a len) (hz : ∀ i j, hf ((es.getD i []).getD j .undef) = true) : NewRes H p (H ++ [.rows T sz es])

theorem hf_zeroPV (s : Nat) (v : Value) : hf (zeroPV s v) = true := by
  unfold zeroPV; split <;> (try rfl) <;> split <;> rfl
theorem hf_zero {P : Program} {t : TypeId} {r : Ty} (h : mkTy P t = some r) (j : Nat) : hf (r.zero.getD j .undef) = true := by
  obtain ⟨i, d, z, _, _, _, rfl⟩ := mkTy_inv h
  by_cases hj : j < z.cells.toList.length
  · obtain ⟨s, hs⟩ := zeroL_getD (shapeOf P 8 t) z.cells.toList j hj
    simp only [hs]; exact hf_zeroPV _ _
  · have : (zeroL (shapeOf P 8 t) z.cells.toList).getD j .undef = .undef := by
      simp [List.getD, List.getElem?_eq_none (show (zeroL (shapeOf P 8 t) z.cells.toList).length ≤ j by rw [zeroL_length]; omega)]
    simp only [this]; rfl

theorem rBinOp_H (P : Program) (op : BinOp) (t : TypeId) (c : Bool) (x y : PV) (H : Heap) : (rBinOp P op t c x y H).H = H := by
  unfold rBinOp
  split
  · unfold rEqAgg; split <;> rfl
  · unfold rBin; split <;> (try rfl) <;> split <;> rfl

theorem rOp_quiet {P : Program} {φ : FuncId → List PV → PV} {op : Op} {c : Bool} {ps : List PV} {H : Heap} (hq : quietB op = true) : (rOp P φ op c ps H).H = H := by
  unfold rOp
  split <;> try rfl
  all_goals first
    | (simp [quietB] at hq; done)
    | (unfold rBuild rBuildA; split <;> (try rfl); split <;> (try rfl); (split <;> rfl); (split <;> (try rfl)); split <;> rfl)
    | (unfold rLookup; split <;> (try rfl); split <;> (try rfl); split <;> rfl)
    | (unfold rEntry; split <;> (try rfl); split <;> (try rfl); split <;> rfl)
    | (unfold rLoad; split <;> (try rfl); split <;> (try rfl); split <;> rfl)
    | exact rBinOp_H ..
    | (unfold rNot; split <;> rfl)
    | (unfold rNeg; split <;> rfl)
    | (unfold rFieldAddr; split <;> (try rfl); split <;> (try rfl); split <;> (try rfl); split <;> rfl)
    | (unfold rField; split <;> (try rfl); split <;> (try rfl); split <;> (try rfl); split <;> rfl)
    | (unfold rIndexAddr; split <;> (try rfl); split <;> (try rfl); split <;> (try rfl); split <;> (try rfl); split <;> rfl)
    | (unfold rIndex; split <;> (try rfl); split <;> rfl)
    | (unfold rExtract; split <;> rfl)
    | (unfold rSlice; split <;> (try rfl); split <;> (try rfl); split <;> (try rfl); split <;> (try rfl); split <;> rfl)
    | skip
  split
  · split
    · unfold rLen; split <;> (try rfl); split <;> rfl
    · rfl
  · rename_i hc; simp [quietB, hc] at hq
  · split
    · unfold rCall; split <;> rfl
    · rfl
  · rfl

theorem vStep_quiet {P : Program} {φ : FuncId → List PV → PV} {op : Op} {c : Cond} {T : TEnv} {H : Heap} (hq : quietB op = true) : (vStep P φ op T c H).H = H := by
  unfold vStep
  split
  · unfold rPick; split <;> rfl
  · simp only [withOk]; exact rOp_quiet hq

theorem vStep_new {P : Program} {φ : FuncId → List PV → PV} {op : Op} {c : Cond} {T : TEnv} {H : Heap} (hq : newB op = true) (h : (vStep P φ op T c H).s) : NewRes H (vStep P φ op T c H).p (vStep P φ op T c H).H := by
  cases op <;> simp only [newB, Bool.false_eq_true] at hq
  · rename_i e
    simp only [vStep, withOk, rOp, Op.operands] at h ⊢
    obtain ⟨_, h⟩ := h
    have e1 : argsP T (#[] : Array Operand).toList = [] := rfl
    rw [e1] at h ⊢
    simp only [rAlloc] at h ⊢
    split at h
    · rename_i r hr
      simp only [hr]
      exact .mk _ _ _ _ (.inl ⟨_, _, _, rfl⟩) fun i j => by
        cases i with
        | zero => simpa using hf_zero hr j
        | succ i => simp [List.getD, hf]
    · exact h.elim
  · rename_i t x y
    have e0 : (Op.makeSlice t x y).operands.toList = [x, y] := rfl
    simp only [vStep, withOk, e0, argsP, rOp] at h ⊢
    obtain ⟨_, h⟩ := h
    unfold rMake at h ⊢
    split at h
    · rename_i n m hn hm
      split at h
      · rename_i r hr
        split at h
        · rename_i e hk
          split at h
          · rename_i q hqq
            simp only [hr, hk, hqq]
            refine .mk _ _ _ _ (.inr ⟨_, _, _, rfl⟩) fun i j => ?_
            by_cases hi : i < n.toNat
            · have : (List.replicate n.toNat q.zero).getD i [] = q.zero := by simp [List.getD, hi]
              rw [this]; exact hf_zero hqq j
            · have : (List.replicate n.toNat q.zero).getD i [] = [] := by simp [List.getD, hi]
              rw [this]; simp [List.getD, hf]
          · exact h.elim
        · exact h.elim
      · exact h.elim
    · exact h.elim

/-- Where a region's head stands: what the slots hold, the blocks made so far. -/
structure HS where
  T : TEnv
  X : List Blk
def hres (P : Program) (φ : FuncId → List PV → PV) (H : Heap) (s : HS) (o : POp) : Res := vStep P φ o.2.1 s.T (gC s.T o.2.2) H
def isNone {α : Type} : Option α → Bool | none => true | some _ => false
def hcond (P : Program) (φ : FuncId → List PV → PV) (H : Heap) (s : HS) (o : POp) : Prop :=
  gS s.T o.2.2 = true ∧ (newB o.2.1 = true → isNone o.2.2 = true) ∧ (hres P φ H s o).s
def hval (P : Program) (φ : FuncId → List PV → PV) (H : Heap) (s : HS) (o : POp) : PV :=
  if newB o.2.1 = true then ren (H.length + s.X.length) (hres P φ H s o).p else (hres P φ H s o).p
def hnext (P : Program) (φ : FuncId → List PV → PV) (H : Heap) (s : HS) (o : POp) : HS :=
  ⟨putT s.T o.1 (gC s.T o.2.2) (hval P φ H s o), s.X ++ (hres P φ H s o).H.drop H.length⟩
def vcHead (P : Program) (φ : FuncId → List PV → PV) (H : Heap) (K : List POp → TEnv → Heap → Prop) : List POp → HS → Prop
  | [], s => K [] s.T (H ++ s.X)
  | o :: rest, s => if headB o.2.1 = true then hcond P φ H s o ∧ vcHead P φ H K rest (hnext P φ H s o) else K (o :: rest) s.T (H ++ s.X)
/-- What is to be shown of a region that draws. -/
def vcDraw (P : Program) (φ : FuncId → List PV → PV) (l : List POp) (T : TEnv) (H : Heap) (K : TEnv → Heap → Prop) : Prop :=
  vcHead P φ H (fun rest T H => vcOps P φ rest T H K) l ⟨T, []⟩

def hat (P : Program) (φ : FuncId → List PV → PV) (H : Heap) (l : List POp) (s : HS) (k : Nat) : HS := (l.take k).foldl (hnext P φ H) s

theorem vcHead_facts {P : Program} {φ : FuncId → List PV → PV} {H : Heap} {K : List POp → TEnv → Heap → Prop} : ∀ (l : List POp) (s : HS), vcHead P φ H K l s →
    ∀ h, h = (l.takeWhile fun o => headB o.2.1).length → (∀ (k : Nat) (o : POp), k < h → l[k]? = some o → headB o.2.1 = true ∧ hcond P φ H (hat P φ H l s k) o) ∧
      K (l.drop h) (hat P φ H l s h).T (H ++ (hat P φ H l s h).X)
  | [], s, hv, h, hh => by
    subst hh
    exact ⟨fun k o hk => by simp at hk, hv⟩
  | o :: rest, s, hv, h, hh => by
    simp only [vcHead] at hv
    cases hb : headB o.2.1 with
    | false =>
      simp only [hb, Bool.false_eq_true, if_false] at hv
      simp only [List.takeWhile, hb, List.length_nil] at hh
      subst hh
      exact ⟨fun k o hk => by omega, hv⟩
    | true =>
      simp only [hb, if_true] at hv
      simp only [List.takeWhile, hb, List.length_cons] at hh
      subst hh
      obtain ⟨h1, h2⟩ := vcHead_facts rest _ hv.2 _ rfl
      refine ⟨fun k o' hk ho => ?_, h2⟩
      cases k with
      | zero =>
        simp only [List.getElem?_cons_zero, Option.some.injEq] at ho
        subst ho
        exact ⟨hb, hv.1⟩
      | succ k => exact h1 k o' (by omega) (by simpa using ho)

section head
variable {P : Program} {φ : FuncId → List PV → PV} {ops : Array Oper} {H : Heap} {T0 : TEnv} {n : Nat}

/-- The head's k-th place. -/
abbrev At (P : Program) (φ : FuncId → List PV → PV) (ops : Array Oper) (H : Heap) (T0 : TEnv) (k : Nat) : HS := hat P φ H (prep ops) ⟨T0, []⟩ k
theorem At_succ {k : Nat} {o : Oper} (ho : ops[k]? = some o) : At P φ ops H T0 (k + 1) = hnext P φ H (At P φ ops H T0 k) (prepO ops o) := by
  have : (prep ops)[k]? = some (prepO ops o) := by simp [prep, ho]
  simp only [At, hat]
  rw [List.take_add_one, this]
  simp
theorem ops_at (hok : okOps n ops = true) {k : Nat} {o : Oper} (ho : ops[k]? = some o) : (∀ j b, o.guard = some (j, b) → j < k) ∧ ∀ d, o.dst = some d → d < n ∧ ∀ (j : Nat) (o' : Oper), j < k → ops[j]? = some o' → o'.dst ≠ some d := by
  obtain ⟨h1, h2⟩ := okList_at ops.toList [] 0 hok k o (by simpa using ho)
  exact ⟨fun j b e => by have := h1 j b e; omega, fun d hd => ⟨(h2 d hd).1, fun j o' hj ho' => (h2 d hd).2.2 j o' hj (by simpa using ho')⟩⟩

/-- A slot that no operation before the k-th writes. -/
theorem tg_old (t : Nat) : ∀ (k : Nat), k ≤ ops.size → (∀ (j : Nat) (o : Oper), j < k → ops[j]? = some o → o.dst ≠ some t) → tg (At P φ ops H T0 k).T t = tg T0 t
  | 0, _, _ => rfl
  | k + 1, hk, h => by
    have ho : ops[k]? = some ops[k] := by simp [show k < ops.size by omega]
    rw [At_succ ho]
    have ih := tg_old t k (by omega) fun j o hj => h j o (by omega)
    simp only [hnext, prepO]
    cases hd : ops[k].dst with
    | none => exact ih
    | some d =>
      simp only [putT, tg]
      have : d ≠ t := fun e => h k ops[k] (by omega) ho (by rw [hd, e])
      rw [if_neg this]; exact ih
/-- A slot that the j-th operation writes. -/
theorem tg_new (hok : okOps n ops = true) {j : Nat} {o : Oper} (ho : ops[j]? = some o) {t : Nat} (hd : o.dst = some t) : ∀ (k : Nat), k ≤ ops.size → j < k →
    tg (At P φ ops H T0 k).T t = ⟨true, gC (At P φ ops H T0 j).T (prepO ops o).2.2, hval P φ H (At P φ ops H T0 j) (prepO ops o)⟩
  | 0, _, h => by omega
  | k + 1, hk, h => by
    have hok' : ops[k]? = some ops[k] := by simp [show k < ops.size by omega]
    rw [At_succ hok']
    by_cases hjk : j = k
    · subst hjk
      rw [ho] at hok'
      simp only [Option.some.injEq] at hok'
      rw [← hok']
      simp only [hnext]
      have : (prepO ops o).1 = some t := hd
      rw [this]
      simp [putT, tg]
    · have ih := tg_new hok ho hd k (by omega) (by omega)
      simp only [hnext, prepO]
      cases hd' : ops[k].dst with
      | none => exact ih
      | some d =>
        simp only [putT, tg]
        have : d ≠ t := fun e => ((ops_at hok hok').2 d hd').2 j o (by omega) ho (by rw [hd, e])
        rw [if_neg this]; exact ih

theorem At_conds (hok : okOps n ops = true) (h0 : ∀ t, (tg T0 t).c = []) : ∀ (k : Nat), k ≤ ops.size → ∀ t, CondsIn ops k (tg (At P φ ops H T0 k).T t).c
  | 0, _, t => by
    intro s b hm
    have : (tg (At P φ ops H T0 0).T t).c = [] := h0 t
    rw [this] at hm; cases hm
  | k + 1, hk, t => by
    have ho : ops[k]? = some ops[k] := by simp [show k < ops.size by omega]
    have ih := At_conds hok h0 k (by omega)
    rw [At_succ ho]
    simp only [hnext]
    cases hd : (prepO ops ops[k]).1 with
    | none => exact (ih t).mono (by omega)
    | some d =>
      simp only [putT, tg]
      split
      · simp only [prepO]
        cases hgd : ops[k].guard with
        | none => intro s b hm; simp [gC] at hm
        | some g =>
          obtain ⟨j, b⟩ := g
          simp only [Option.map_some]
          cases ht : (ops[j]?).bind (·.dst) with
          | none => intro s b hm; simp [gC] at hm
          | some t =>
            intro s b' hm
            simp only [gC, List.mem_cons, Prod.mk.injEq] at hm
            rcases hm with ⟨rfl, rfl⟩ | hm
            · obtain ⟨o', ho', hd'⟩ := Option.bind_eq_some_iff.1 ht
              exact ⟨j, o', by have := (ops_at hok ho).1 j _ hgd; omega, ho', hd'⟩
            · exact (ih t).mono (Nat.le_succ k) s b' hm
      · exact (ih t).mono (by omega)
theorem gC_conds (hok : okOps n ops = true) (h0 : ∀ t, (tg T0 t).c = []) {k : Nat} {o : Oper} (ho : ops[k]? = some o) : CondsIn ops k (gC (At P φ ops H T0 k).T (prepO ops o).2.2) := by
  have ih := At_conds (P := P) (φ := φ) (H := H) hok h0 k (by have := (Array.getElem?_eq_some_iff.1 ho).1; omega)
  simp only [prepO]
  cases hgd : o.guard with
  | none => intro s b hm; simp [gC] at hm
  | some g =>
    obtain ⟨j, b⟩ := g
    simp only [Option.map_some]
    cases ht : (ops[j]?).bind (·.dst) with
    | none => intro s b hm; simp [gC] at hm
    | some t =>
      intro s b' hm
      simp only [gC, List.mem_cons, Prod.mk.injEq] at hm
      rcases hm with ⟨rfl, rfl⟩ | hm
      · obtain ⟨o', ho', hd'⟩ := Option.bind_eq_some_iff.1 ht
        exact ⟨j, o', (ops_at hok ho).1 j _ hgd, ho', hd'⟩
      · exact ih t s b' hm

/-- Guards say the same at every later place. -/
theorem holds_at (hok : okOps n ops = true) {m i k : Nat} (hi : m ≤ i) (hk : m ≤ k) (hi' : i ≤ ops.size) (hk' : k ≤ ops.size) : ∀ {c : Cond}, CondsIn ops m c →
    holds (At P φ ops H T0 i).T c = holds (At P φ ops H T0 k).T c
  | [], _ => rfl
  | (s, b) :: r, h => by
    obtain ⟨j, o, h1, h2, h3⟩ := h s b (by simp)
    simp only [holds]
    rw [tg_new hok h2 h3 i hi' (by omega), tg_new hok h2 h3 k hk' (by omega), holds_at hok hi hk hi' hk' fun s b hm => h s b (by simp [hm])]

/-- What is told of a block that operation o has made. -/
def NewAt (B : Nat) (σ : List (Nat × Nat)) (F : Fr) (w : World) (tmps : Array Value) (H : Heap) (r : Res) (d : Option Tmp) (x : Nat × Nat) : Prop :=
  ∃ blk, r.H = H ++ [blk] ∧ (∀ τ, BlkOk τ F w x blk) ∧ B ≤ x.1 ∧ x.1 < w.heap.size ∧ (∀ (h : Nat) (y : Nat × Nat) (b : Blk), σ[h]? = some y → H[h]? = some b → b ≠ .dead → y.1 ≠ x.1) ∧
    ∀ t, d = some t → ∀ (τ : List (Nat × Nat)) (m : Nat), τ[m]? = some x → RelV τ F w (tmps.getD t Go.undef) (ren m r.p)

structure HInv (P : Program) (φ : FuncId → List PV → PV) (ops : Array Oper) (H : Heap) (T0 : TEnv) (n h B base : Nat) (σ0 : List (Nat × Nat)) (F0 : Fr) (w0 : World)
    (L : Nat → Bool) (a : Act) (w : World) (σ : List (Nat × Nat)) (F : Fr) (xs : Nat → Nat × Nat) : Prop where
  size : a.tmps.size = n
  defers : a.defers = []
  ow : Ow B σ F w H
  ext : Ext B base σ0 F0 w0 σ F w
  old : ∀ t, (∀ (k : Nat) (o : Oper), k < h → ops[k]? = some o → o.dst = some t → L k = false) → RelAt σ F w a.tmps T0 t
  quiet : ∀ (k : Nat) (o : Oper), k < h → ops[k]? = some o → L k = true → newB o.op = false → ∀ t, o.dst = some t → RelAt σ F w a.tmps (At P φ ops H T0 h).T t
  new : ∀ (k : Nat) (o : Oper), k < h → ops[k]? = some o → L k = true → newB o.op = true → NewAt B σ F w a.tmps H (hres P φ H (At P φ ops H T0 k) (prepO ops o)) o.dst (xs k)
  apart : ∀ (k k' : Nat) (o o' : Oper), k < h → k' < h → ops[k]? = some o → ops[k']? = some o' → L k = true → L k' = true → newB o.op = true → newB o'.op = true → k ≠ k' → (xs k).1 ≠ (xs k').1

theorem RelAt.calm {σ : List (Nat × Nat)} {F F' : Fr} {w w' : World} {tmps tmps' : Array Value} {T : TEnv} {t : Nat} (h : RelAt σ F w tmps T t) (c : Cm F w F' w') (ho : ∀ b, F true b → b < w.heap.size) (he : tmps'.getD t Go.undef = tmps.getD t Go.undef) : RelAt σ F' w' tmps' T t := by
  intro hok
  rw [he]
  exact ⟨fun hc => c.rel ho ((h hok).1 hc), (h hok).2⟩
theorem NewAt.calm {B : Nat} {σ : List (Nat × Nat)} {F F' : Fr} {w w' : World} {tmps tmps' : Array Value} {H : Heap} {r : Res} {d : Option Tmp} {x : Nat × Nat} (h : NewAt B σ F w tmps H r d x) (c : Cm F w F' w') (ho : ∀ b, F true b → b < w.heap.size)
    (he : ∀ t, d = some t → tmps'.getD t Go.undef = tmps.getD t Go.undef) : NewAt B σ F' w' tmps' H r d x := by
  obtain ⟨blk, h1, h2, h3, h4, h5, h6⟩ := h
  refine ⟨blk, h1, fun τ => c.blk ho h4 (h2 τ), h3, Nat.lt_of_lt_of_le h4 c.below.size, h5, fun t ht τ m hm => ?_⟩
  rw [he t ht]
  exact c.rel ho (h6 t ht τ m hm)

theorem RelV.renew {σ τ : List (Nat × Nat)} {F : Fr} {w : World} {v : Value} {p : PV} {h m : Nat} {x : Nat × Nat} (hr : RelV σ F w v p) (hx : σ[h]? = some x)
    (hp : (∃ s i off, p = .ptr h s i off) ∨ ∃ s a len, p = .own h s a len) (hm : τ[m]? = some x) : RelV τ F w v (ren m p) := by
  rcases hp with ⟨s, i, off, rfl⟩ | ⟨s, a, len, rfl⟩
  · obtain ⟨y, hy, rfl⟩ := hr.ptr_inv
    rw [hx] at hy; cases hy
    exact .ptr m s i off x hm
  · obtain ⟨y, cap, hy, hc, rfl, hn⟩ := hr.own_inv
    rw [hx] at hy; cases hy
    exact .own m s a len cap x hm hc hn hr.own_len

/-- A block whose cells lead to no handles reads the same under any handles. -/
theorem BlkOk.free {σ : List (Nat × Nat)} {F : Fr} {w : World} {x : Nat × Nat} {T sz : Nat} {es : List (List PV)} (h : BlkOk σ F w x (.rows T sz es)) (hz : ∀ i j, hf ((es.getD i []).getD j .undef) = true) (τ : List (Nat × Nat)) : BlkOk τ F w x (.rows T sz es) := by
  obtain ⟨arr, a1, a0, a2, a3, a4, a5⟩ := h
  exact ⟨arr, a1, a0, a2, a3, fun i j hi hj => .frz ((a4 i j hi hj).toF (hz i j)), a5⟩

/-- What okDraw says of the head. -/
theorem okDraw_spec (hd : okDraw ops = true) : (∀ (i : Nat) (o : Oper), ops[i]? = some o → ∀ e ∈ o.after, Region.binds .any e = true → e.on < i) ∧
    (∀ (i : Nat) (o : Oper), i < headN ops → ops[i]? = some o → ∀ (j : Nat) (oj : Oper), j < headN ops → ops[j]? = some oj → ∀ d, oj.dst = some d → d ∈ o.looksAt ops → newB oj.op = false ∧ (j < i → edgeB o j = true) ∧ (i < j → edgeB oj i = true)) ∧
    (∀ (i : Nat) (o : Oper), headN ops ≤ i → ops[i]? = some o → ∀ j, j < i → reachB ops j ops.size i = true) := by
  simp only [okDraw, List.all_eq_true, List.mem_range] at hd
  refine ⟨fun i o ho e he hb => ?_, fun i o hi ho j oj hj hoj d hdj hm => ?_, fun i o hi ho j hj => ?_⟩
  · have hlt := (Array.getElem?_eq_some_iff.1 ho).1
    have h := hd i hlt
    simp only [ho, Bool.and_eq_true] at h
    have := Array.all_eq_true_iff_forall_mem.1 h.1 e he
    simpa [hb] using this
  · have hlt := (Array.getElem?_eq_some_iff.1 ho).1
    have h := hd i hlt
    simp only [ho, Bool.and_eq_true, hi, if_true, List.all_eq_true, List.mem_range] at h
    have := h.2 j hj
    simp only [hoj, hdj, Bool.or_eq_true, Bool.and_eq_true, Bool.not_eq_true'] at this
    rcases this with this | ⟨h1, h2⟩
    · have : (o.looksAt ops).contains d = true := by simpa using hm
      simp_all
    · refine ⟨h1, fun hji => by rw [if_pos hji] at h2; exact h2, fun hij => ?_⟩
      rw [if_neg (by omega)] at h2
      simp only [Bool.or_eq_true, decide_eq_true_eq] at h2
      exact h2.resolve_left (by omega)
  · have hlt := (Array.getElem?_eq_some_iff.1 ho).1
    have h := hd i hlt
    simp only [ho, Bool.and_eq_true, show ¬ i < headN ops by omega, if_false, List.all_eq_true, List.mem_range] at h
    exact h.2 j hj

theorem edge_on {o : Oper} {j : Nat} {L : Nat → Bool} (h : edgeB o j = true) (hall : ∀ e ∈ o.after, Region.binds .any e = true → L e.on = true) : L j = true := by
  obtain ⟨e, he, h1⟩ := Array.any_eq_true'.1 h
  simp only [Bool.and_eq_true, beq_iff_eq] at h1
  rw [← h1.2]; exact hall e he h1.1

theorem getD_put_ne {a : Act} {d : Option Tmp} {v : Value} {t : Nat} (h : d ≠ some t) : (a.put d v).tmps.getD t Go.undef = a.tmps.getD t Go.undef := by
  cases d with
  | none => rfl
  | some x =>
    have : x ≠ t := fun e => h (by rw [e])
    simp [Act.put, Array.getD_eq_getD_getElem?, this]
theorem getD_put_eq {a : Act} {v : Value} {t : Nat} (h : t < a.tmps.size) : (a.put (some t) v).tmps.getD t Go.undef = v := by
  simp [Act.put, Array.getD_eq_getD_getElem?, h]

/-- One operation of the head. -/
theorem HInv.step {h B base : Nat} {σ0 : List (Nat × Nat)} {F0 : Fr} {w0 : World} (hok : okOps n ops = true) (hd : okDraw ops = true) (h0 : ∀ t, (tg T0 t).c = []) (hh : h = headN ops) (hle : h ≤ ops.size)
    (hc : ∀ (k : Nat) (o : Oper), k < h → ops[k]? = some o → headB o.op = true ∧ hcond P φ H (At P φ ops H T0 k) (prepO ops o))
    {Q : Exit → Act → World → Prop} {L : Nat → Bool} {a : Act} {w : World} {σ : List (Nat × Nat)} {F : Fr} {xs : Nat → Nat × Nat} (I : HInv P φ ops H T0 n h B base σ0 F0 w0 L a w σ F xs)
    (hcl : ∀ (j : Nat) (o' : Oper), ops[j]? = some o' → L j = true → ∀ e ∈ o'.after, Region.binds .any e = true → L e.on = true)
    {i : Nat} {o : Oper} (hi : i < h) (ho : ops[i]? = some o) (hLi : L i = false) (hall : ∀ e ∈ o.after, Region.binds .any e = true → L e.on = true) :
    wpOp P ops Q i (fun a' w' => ∃ σ' F' xs', HInv P φ ops H T0 n h B base σ0 F0 w0 (fun j => if j = i then true else L j) a' w' σ' F' xs') a w := by
  have hi' : i < ops.size := by omega
  obtain ⟨hb, hgs, hnew, hs⟩ := hc i o hi ho
  obtain ⟨_, hd2, _⟩ := okDraw_spec hd
  -- the slots that it looks at read as at its place in the text
  have hlook : ∀ t, t ∈ o.looksAt ops → RelAt σ F w a.tmps (At P φ ops H T0 i).T t := by
    intro t ht
    by_cases hw : ∃ (k : Nat) (ok : Oper), k < h ∧ ops[k]? = some ok ∧ ok.dst = some t
    · obtain ⟨k, ok, hk, hok', hdk⟩ := hw
      obtain ⟨e1, e2, e3⟩ := hd2 i o (hh ▸ hi) ho k ok (hh ▸ hk) hok' t hdk ht
      rcases Nat.lt_trichotomy k i with hki | rfl | hik
      · have hLk := edge_on (e2 hki) hall
        have hr := I.quiet k ok hk hok' hLk e1 t hdk
        intro hx
        rw [tg_new hok hok' hdk i (by omega) hki] at hx ⊢
        have hr := hr (by rw [tg_new hok hok' hdk h hle hk])
        rw [tg_new hok hok' hdk h hle hk] at hr
        have := holds_at (P := P) (φ := φ) (H := H) (T0 := T0) hok (m := k) (i := i) (k := h) (by omega) (by omega) (by omega) hle (gC_conds (P := P) (φ := φ) (H := H) hok h0 hok')
        simp only at hr ⊢
        rw [this]; exact hr
      · rw [ho] at hok'; cases hok'
        have hnone : ∀ (j : Nat) (oj : Oper), j < k → ops[j]? = some oj → oj.dst ≠ some t := fun j oj hj hoj => ((ops_at hok ho).2 t hdk).2 j oj hj hoj
        have hr := I.old t fun j oj hj hoj hdj => by
          rcases Nat.lt_trichotomy j k with hjk | rfl | hkj
          · exact absurd hdj (hnone j oj hjk hoj)
          · exact hLi
          · exact absurd hdk (((ops_at hok hoj).2 t hdj).2 k o hkj ho)
        intro hx
        rw [tg_old t k (by omega) hnone] at hx ⊢
        have hr := hr hx
        refine ⟨fun _ => hr.1 (by rw [h0]; rfl), fun e => by rw [h0] at e; simp [holds] at e⟩
      · have hLk : L k = false := by
          cases hLk : L k with
          | false => rfl
          | true =>
            have := edge_on (e3 hik) (hcl k ok hok' hLk)
            rw [hLi] at this; cases this
        have hnone : ∀ (j : Nat) (oj : Oper), j < i → ops[j]? = some oj → oj.dst ≠ some t := fun j oj hj hoj => ((ops_at hok hok').2 t hdk).2 j oj (by omega) hoj
        have hr := I.old t fun j oj hj hoj hdj => by
          rcases Nat.lt_trichotomy j k with hjk | rfl | hkj
          · exact absurd hdj (((ops_at hok hok').2 t hdk).2 j oj hjk hoj)
          · exact hLk
          · exact absurd hdk (((ops_at hok hoj).2 t hdj).2 k ok hkj hok')
        intro hx
        rw [tg_old t i (by omega) hnone] at hx ⊢
        have hr := hr hx
        refine ⟨fun _ => hr.1 (by rw [h0]; rfl), fun e => by rw [h0] at e; simp [holds] at e⟩
    · have hnone : ∀ (j : Nat) (oj : Oper), j < h → ops[j]? = some oj → oj.dst ≠ some t := fun j oj hj hoj e => hw ⟨j, oj, hj, hoj, e⟩
      have hr := I.old t fun j oj hj hoj hdj => absurd hdj (hnone j oj hj hoj)
      intro hx
      rw [tg_old t i (by omega) fun j oj hj => hnone j oj (by omega)] at hx ⊢
      have hr := hr hx
      refine ⟨fun _ => hr.1 (by rw [h0]; rfl), fun e => by rw [h0] at e; simp [holds] at e⟩
  have hargs : ∀ t, Operand.tmp t ∈ o.op.operands.toList → RelAt σ F w a.tmps (At P φ ops H T0 i).T t := fun t ht => hlook t (by
    simp only [Oper.looksAt, List.mem_append, List.mem_filterMap]
    exact .inl ⟨.tmp t, ht, rfl⟩)
  have hw := wanted_eq ops o (T := (At P φ ops H T0 i).T) (σ := σ) (F := F) (w := w) (tmps := a.tmps) (fun j b t hgd ht => hlook t (by
    simp only [Oper.looksAt, List.mem_append]
    right; rw [hgd]; simp [ht])) hgs
  have hdst : ∀ x, o.dst = some x → x < a.tmps.size := fun x hx => by rw [I.size]; exact ((ops_at hok ho).2 x hx).1
  have hsz : ∀ v, (a.put o.dst v).tmps.size = n := by intro v; cases o.dst <;> simp [Act.put, I.size]
  have hdf : ∀ v, (a.put o.dst v).defers = [] := by intro v; cases o.dst <;> simp [Act.put, I.defers]
  have huniq : ∀ (k : Nat) (ok : Oper), k ≠ i → ops[k]? = some ok → ∀ t, ok.dst = some t → o.dst ≠ some t := by
    intro k ok hk hok' t ht e
    rcases Nat.lt_or_gt_of_ne hk with hk | hk
    · exact ((ops_at hok ho).2 t e).2 k ok hk hok' ht
    · exact ((ops_at hok hok').2 t ht).2 i o hk ho e
  -- what is left of the other slots
  have rest : ∀ (v : Value) (w' : World) (F' : Fr), Cm F w F' w' →
      (∀ t, (∀ (k : Nat) (ok : Oper), k < h → ops[k]? = some ok → ok.dst = some t → (if k = i then true else L k) = false) → RelAt σ F' w' (a.put o.dst v).tmps T0 t) := by
    intro v w' F' c t ht
    refine (I.old t fun k ok hk hok' hdk => ?_).calm c I.ow.old (getD_put_ne fun e => ?_)
    · have := ht k ok hk hok' hdk
      split at this
      · cases this
      · exact this
    · have := ht i o hi ho e
      simp at this
  have restq : ∀ (v : Value) (w' : World) (F' : Fr), Cm F w F' w' → ∀ (k : Nat) (ok : Oper), k < h → k ≠ i → ops[k]? = some ok → L k = true → newB ok.op = false → ∀ t, ok.dst = some t → RelAt σ F' w' (a.put o.dst v).tmps (At P φ ops H T0 h).T t :=
    fun v w' F' c k ok hk hki hok' hLk hn t ht => (I.quiet k ok hk hok' hLk hn t ht).calm c I.ow.old (getD_put_ne (huniq k ok hki hok' t ht))
  have restn : ∀ (v : Value) (w' : World) (F' : Fr), Cm F w F' w' → ∀ (k : Nat) (ok : Oper), k < h → k ≠ i → ops[k]? = some ok → L k = true → newB ok.op = true →
      NewAt B σ F' w' (a.put o.dst v).tmps H (hres P φ H (At P φ ops H T0 k) (prepO ops ok)) ok.dst (xs k) :=
    fun v w' F' c k ok hk hki hok' hLk hn => (I.new k ok hk hok' hLk hn).calm c I.ow.old fun t ht => getD_put_ne (huniq k ok hki hok' t ht)
  unfold wpOp
  simp only [ho, hw]
  obtain ⟨hf, hstep⟩ := vStep_sound hs
  -- the slot that it writes
  have hcD : ∀ (v : Value) (w' : World) (F' : Fr), newB o.op = false → (holds (At P φ ops H T0 i).T (gC (At P φ ops H T0 i).T (prepO ops o).2.2) = true → RelV σ F' w' v (hres P φ H (At P φ ops H T0 i) (prepO ops o)).p) →
      (holds (At P φ ops H T0 i).T (gC (At P φ ops H T0 i).T (prepO ops o).2.2) = false → v = Go.undef) → ∀ t, o.dst = some t → RelAt σ F' w' (a.put o.dst v).tmps (At P φ ops H T0 h).T t := by
    intro v w' F' hn h1 h2 t ht hx
    rw [tg_new hok ho ht h hle hi]
    have e := holds_at (P := P) (φ := φ) (H := H) (T0 := T0) hok (m := i) (i := h) (k := i) (by omega) (by omega) hle (by omega) (gC_conds (P := P) (φ := φ) (H := H) hok h0 ho)
    have hv : hval P φ H (At P φ ops H T0 i) (prepO ops o) = (hres P φ H (At P φ ops H T0 i) (prepO ops o)).p := by
      unfold hval
      rw [if_neg]
      show ¬ newB o.op = true
      rw [hn]; simp
    simp only [hv]
    rw [e, ht, getD_put_eq (hdst t ht)]
    exact ⟨h1, h2⟩
  cases hcc : holds (At P φ ops H T0 i).T (gC (At P φ ops H T0 i).T (prepO ops o).2.2) with
  | false =>
    rw [if_neg (by simp)]
    have hnb : newB o.op = false := by
      cases hnb : newB o.op with
      | false => rfl
      | true =>
        have hgn := hnew hnb
        cases hg : (prepO ops o).2.2 with
        | none => rw [hg] at hcc; simp [gC, holds] at hcc
        | some g => rw [hg] at hgn; cases hgn
    have c : Cm F w F w := ⟨Below.refl _ _, fun _ _ h => h, fun _ _ h => .inl h, I.ow.old⟩
    refine ⟨σ, F, xs, ⟨hsz _, hdf _, I.ow, I.ext, rest _ w F c, fun k ok hk hok' hLk hn t ht => ?_, fun k ok hk hok' hLk hn => ?_, fun k k' ok ok' hk hk' h1 h2 h3 h4 h5 h6 h7 => ?_⟩⟩
    · by_cases hki : k = i
      · subst hki
        rw [ho] at hok'; cases hok'
        exact hcD _ w F hnb (fun e => by rw [hcc] at e; cases e) (fun _ => rfl) t ht
      · rw [if_neg hki] at hLk
        exact restq _ w F c k ok hk hki hok' hLk hn t ht
    · by_cases hki : k = i
      · subst hki
        rw [ho] at hok'; cases hok'
        rw [hnb] at hn; cases hn
      · rw [if_neg hki] at hLk
        exact restn _ w F c k ok hk hki hok' hLk hn
    · have : k ≠ i := fun e => by subst e; rw [ho] at h1; cases h1; rw [hnb] at h5; cases h5
      have : k' ≠ i := fun e => by subst e; rw [ho] at h2; cases h2; rw [hnb] at h6; cases h6
      simp_all
      exact I.apart k k' ok ok' hk hk' h1 h2 h3 h4 h5 h6 h7
  | true =>
    rw [if_pos rfl]
    refine .inl (hstep hcc B σ F w a o rfl I.ow hargs _ _ ?_)
    rintro v w' ⟨σ', F', g1, g2, g3, g4⟩
    cases hnb : newB o.op with
    | false =>
      have hq : quietB o.op = true := by
        simpa [headB, hnb] using hb
      obtain ⟨rfl, c⟩ := (g4.1 hq).calm I.ow
      refine ⟨σ', F', xs, ⟨hsz _, hdf _, (I.ow.calm c).1, I.ext.trans ((I.ow.calm c).2 base), rest _ w' F' c, fun k ok hk hok' hLk hn t ht => ?_, fun k ok hk hok' hLk hn => ?_, fun k k' ok ok' hk hk' h1 h2 h3 h4 h5 h6 h7 => ?_⟩⟩
      · by_cases hki : k = i
        · subst hki
          rw [ho] at hok'; cases hok'
          exact hcD _ w' F' hnb (fun _ => g3) (fun e => by rw [hcc] at e; cases e) t ht
        · rw [if_neg hki] at hLk
          exact restq _ w' F' c k ok hk hki hok' hLk hn t ht
      · by_cases hki : k = i
        · subst hki
          rw [ho] at hok'; cases hok'
          rw [hnb] at hn; cases hn
        · rw [if_neg hki] at hLk
          exact restn _ w' F' c k ok hk hki hok' hLk hn
      · have : k ≠ i := fun e => by subst e; rw [ho] at h1; cases h1; rw [hnb] at h5; cases h5
        have : k' ≠ i := fun e => by subst e; rw [ho] at h2; cases h2; rw [hnb] at h6; cases h6
        simp_all
        exact I.apart k k' ok ok' hk hk' h1 h2 h3 h4 h5 h6 h7
    | true =>
      obtain ⟨x, rfl, hx, rfl, c⟩ := (g4.2 (nwB_of hnb)).calm I.ow
      have hnr := vStep_new hnb hs
      generalize hrr : hres P φ H (At P φ ops H T0 i) (prepO ops o) = rr
      have hrp : (vStep P φ o.op (At P φ ops H T0 i).T (gC (At P φ ops H T0 i).T (prepO ops o).2.2) H) = rr := hrr
      have q1 : Ow B (σ ++ [x]) F' w' rr.H := by rw [← hrp]; exact g1
      have q3 : RelV (σ ++ [x]) F' w' v rr.p := by rw [← hrp]; exact g3
      have qn : NewRes H rr.p rr.H := by rw [← hrp]; exact hnr
      obtain ⟨rs, rp, rH⟩ := rr
      simp only at qn q1 q3
      cases qn with
      | mk T sz es hp hz =>
        have hxs : (σ ++ [x])[H.length]? = some x := by rw [← I.ow.len]; simp
        have hbk : BlkOk (σ ++ [x]) F' w' x (.rows T sz es) := q1.ok H.length x _ hxs (by simp)
        have hbig := q1.big H.length x (.rows T sz es) hxs (by simp) (by simp)
        refine ⟨σ, F', fun k => if k = i then x else xs k, ⟨hsz _, hdf _, (I.ow.calm c).1, I.ext.trans ((I.ow.calm c).2 base), rest _ w' F' c, fun k ok hk hok' hLk hn t ht => ?_, fun k ok hk hok' hLk hn => ?_, fun k k' ok ok' hk hk' h1 h2 h3 h4 h5 h6 h7 => ?_⟩⟩
        · by_cases hki : k = i
          · subst hki
            rw [ho] at hok'; cases hok'
            rw [hnb] at hn; cases hn
          · rw [if_neg hki] at hLk
            exact restq _ w' F' c k ok hk hki hok' hLk hn t ht
        · by_cases hki : k = i
          · subst hki
            rw [ho] at hok'; cases hok'
            rw [if_pos rfl, hrr]
            refine ⟨_, rfl, fun τ => hbk.free hz τ, by have := I.ow.base; omega, hbig.2, fun hh y b hy hb' hd' => ?_, fun t ht τ m hm => ?_⟩
            · have := (I.ow.big hh y b hy hb' hd').2
              omega
            · rw [ht, getD_put_eq (hdst t ht)]
              have h9 : RelV τ F' w' v (ren m rp) := q3.renew hxs hp hm
              exact h9
          · rw [if_neg hki] at hLk ⊢
            exact restn _ w' F' c k ok hk hki hok' hLk hn
        · by_cases hki : k = i
          · have hk'i : k' ≠ i := fun e => h7 (by rw [hki, e])
            rw [if_neg hk'i] at h4
            simp only [hki, if_true, if_neg hk'i]
            obtain ⟨_, _, _, _, hl, _⟩ := I.new k' ok' hk' h2 h4 h6
            omega
          · rw [if_neg hki] at h3
            by_cases hk'i : k' = i
            · simp only [hk'i, if_true, if_neg hki]
              obtain ⟨_, _, _, _, hl, _⟩ := I.new k ok hk h1 h3 h5
              omega
            · rw [if_neg hk'i] at h4
              simp only [if_neg hki, if_neg hk'i]
              exact I.apart k k' ok ok' hk hk' h1 h2 h3 h4 h5 h6 h7

/-- The head is done: its new blocks become the call's own, in the text's order. -/
theorem HInv.adopt {h B base : Nat} {σ0 : List (Nat × Nat)} {F0 : Fr} {w0 : World} (hle : h ≤ ops.size)
    (hc : ∀ (k : Nat) (o : Oper), k < h → ops[k]? = some o → headB o.op = true ∧ hcond P φ H (At P φ ops H T0 k) (prepO ops o))
    {L : Nat → Bool} {a : Act} {w : World} {σ : List (Nat × Nat)} {F : Fr} {xs : Nat → Nat × Nat} (I : HInv P φ ops H T0 n h B base σ0 F0 w0 L a w σ F xs) (hL : ∀ k, k < h → L k = true) :
    ∀ k, k ≤ h → ∃ ys : List (Nat × Nat), Ow B (σ ++ ys) F w (H ++ (At P φ ops H T0 k).X) ∧ (∀ (hh : Nat) (y : Nat × Nat) (b : Blk), (σ ++ ys)[hh]? = some y → (H ++ (At P φ ops H T0 k).X)[hh]? = some b → b ≠ .dead →
        (∃ y' b', σ[hh]? = some y' ∧ H[hh]? = some b' ∧ b' ≠ .dead ∧ y' = y) ∨ ∃ j o, j < k ∧ ops[j]? = some o ∧ newB o.op = true ∧ y = xs j) ∧
      ∀ (j : Nat) (o : Oper), j < k → ops[j]? = some o → newB o.op = true → ∀ t, o.dst = some t → RelV (σ ++ ys) F w (a.tmps.getD t Go.undef) (hval P φ H (At P φ ops H T0 j) (prepO ops o))
  | 0, _ => by
    refine ⟨[], by simpa [At, hat] using I.ow, fun hh y b hy hb hd => .inl ⟨y, b, by simpa using hy, by simpa [At, hat] using hb, hd, rfl⟩, fun j o hj => by omega⟩
  | k + 1, hk => by
    obtain ⟨ys, r1, r2, r3⟩ := HInv.adopt hle hc I hL k (by omega)
    have ho : ops[k]? = some ops[k] := by simp [show k < ops.size by omega]
    obtain ⟨hb, hcd⟩ := hc k _ (by omega) ho
    have hX : (At P φ ops H T0 (k + 1)).X = (At P φ ops H T0 k).X ++ (hres P φ H (At P φ ops H T0 k) (prepO ops ops[k])).H.drop H.length := by rw [At_succ ho]; rfl
    cases hn : newB ops[k].op with
    | false =>
      have hq : quietB ops[k].op = true := by
        simpa [headB, hn] using hb
      have hH : (hres P φ H (At P φ ops H T0 k) (prepO ops ops[k])).H = H := vStep_quiet hq
      rw [hH, List.drop_length, List.append_nil] at hX
      rw [hX]
      refine ⟨ys, r1, fun hh y b hy hb' hd => ?_, fun j o hj hoj hnj t ht => ?_⟩
      · rcases r2 hh y b hy hb' hd with h | ⟨j, o, hj, h⟩
        · exact .inl h
        · exact .inr ⟨j, o, by omega, h⟩
      · by_cases hjk : j = k
        · subst hjk; rw [ho] at hoj; cases hoj; rw [hn] at hnj; cases hnj
        · exact r3 j o (by omega) hoj hnj t ht
    | true =>
      obtain ⟨blk, e1, e2, e3, e4, e5, e6⟩ := I.new k _ (by omega) ho (hL k (by omega)) hn
      rw [e1, List.drop_left] at hX
      rw [hX, ← List.append_assoc]
      have hnd : ∀ (hh : Nat) (y : Nat × Nat) (b : Blk), (σ ++ ys)[hh]? = some y → (H ++ (At P φ ops H T0 k).X)[hh]? = some b → b ≠ .dead → y.1 ≠ (xs k).1 := by
        intro hh y b hy hb' hd
        rcases r2 hh y b hy hb' hd with ⟨y', b', g1, g2, g3, rfl⟩ | ⟨j, o, hj, hoj, hnj, rfl⟩
        · exact e5 hh y' b' g1 g2 g3
        · exact I.apart j k o _ (by omega) (by omega) hoj ho (hL j (by omega)) (hL k (by omega)) hnj hn (by omega)
      have hA := r1.adopt e2 e3 e4 hnd
      have hlen := r1.len
      refine ⟨ys ++ [xs k], by rw [← List.append_assoc]; exact hA, fun hh y b hy hb' hd => ?_, fun j o hj hoj hnj t ht => ?_⟩
      · rw [← List.append_assoc] at hy
        by_cases hl : hh < (σ ++ ys).length
        · rw [List.getElem?_append_left hl] at hy
          rw [List.getElem?_append_left (by rw [← hlen]; exact hl)] at hb'
          rcases r2 hh y b hy hb' hd with h | ⟨j, o, hj, h⟩
          · exact .inl h
          · exact .inr ⟨j, o, by omega, h⟩
        · have : hh = (σ ++ ys).length := by
            have := (List.getElem?_eq_some_iff.1 hy).1
            rw [List.length_append] at this
            simp only [List.length_singleton] at this
            omega
          subst this
          simp only [List.getElem?_concat_length, Option.some.injEq] at hy
          exact .inr ⟨k, _, by omega, ho, hn, hy.symm⟩
      · rw [← List.append_assoc]
        by_cases hjk : j = k
        · subst hjk
          rw [ho] at hoj; cases hoj
          have hv : hval P φ H (At P φ ops H T0 j) (prepO ops ops[j]) = ren (H.length + (At P φ ops H T0 j).X.length) (hres P φ H (At P φ ops H T0 j) (prepO ops ops[j])).p := by
            unfold hval
            exact if_pos hn
          rw [hv]
          refine e6 t ht _ _ ?_
          have : H.length + (At P φ ops H T0 j).X.length = (σ ++ ys).length := by rw [hlen]; simp
          rw [this]
          simp only [List.getElem?_concat_length]
        · exact (r3 j o (by omega) hoj hnj t ht).frame (fun hh y hy => by rw [List.getElem?_append_left (List.getElem?_eq_some_iff.1 hy).1]; exact hy) (fun _ _ h => h) fun _ _ => rfl

/-- The tail, from its k-th operation on. -/
def TInv (P : Program) (φ : FuncId → List PV → PV) (ops : Array Oper) (K : TEnv → Heap → Prop) (n B base : Nat) (σ0 : List (Nat × Nat)) (F0 : Fr) (w0 : World) (k : Nat) (a : Act) (w : World) : Prop :=
  ∃ T H σ F, vcOps P φ ((prep ops).drop k) T H K ∧ (∀ t, CondsIn ops k (tg T t).c) ∧ a.tmps.size = n ∧ a.defers = [] ∧ RelT σ F w a.tmps T ∧ Ow B σ F w H ∧ Ext B base σ0 F0 w0 σ F w

theorem TInv.step {K : TEnv → Heap → Prop} {B base : Nat} {σ0 : List (Nat × Nat)} {F0 : Fr} {w0 : World} (hok : okOps n ops = true) {Q : Exit → Act → World → Prop} {k : Nat} (hlt : k < ops.size) {a : Act} {w : World}
    (I : TInv P φ ops K n B base σ0 F0 w0 k a w) : wpOp P ops Q k (TInv P φ ops K n B base σ0 F0 w0 (k + 1)) a w := by
  obtain ⟨T, H, σ, F, hv, hs, s1, s2, s3, s4, s5⟩ := I
  have ho : ops[k]? = some ops[k] := by simp [hlt]
  have hd : (prep ops).drop k = prepO ops ops[k] :: (prep ops).drop (k + 1) := by
    rw [List.drop_eq_getElem_cons (by simpa [prep] using hlt)]
    simp [prep]
  rw [hd] at hv
  simp only [vcOps] at hv
  obtain ⟨hg, hst, hK⟩ := hv
  have hw := wanted_eq ops ops[k] (fun _ _ t _ _ => s3 t) hg
  obtain ⟨hf, hstep⟩ := vStep_sound hst
  obtain ⟨k1, k2⟩ := ops_at hok ho
  have hdst : ∀ x, ops[k].dst = some x → x < a.tmps.size := fun x hx => by rw [s1]; exact (k2 x hx).1
  have hsz : ∀ v, (a.put ops[k].dst v).tmps.size = n := by intro v; cases ops[k].dst <;> simp [Act.put, s1]
  have hdf : ∀ v, (a.put ops[k].dst v).defers = [] := by intro v; cases ops[k].dst <;> simp [Act.put, s2]
  have hC : CondsIn ops k (gC T (prepO ops ops[k]).2.2) := by
    simp only [prepO]
    cases hgd : ops[k].guard with
    | none => intro s b hm; simp [gC] at hm
    | some g =>
      obtain ⟨j, b⟩ := g
      simp only [Option.map_some]
      cases ht : (ops[j]?).bind (·.dst) with
      | none => intro s b hm; simp [gC] at hm
      | some t =>
        intro s b' hm
        simp only [gC, List.mem_cons, Prod.mk.injEq] at hm
        rcases hm with ⟨rfl, rfl⟩ | hm
        · obtain ⟨o', ho', hd'⟩ := Option.bind_eq_some_iff.1 ht
          exact ⟨j, o', k1 j _ hgd, ho', hd'⟩
        · exact hs t s b' hm
  have hm : ∀ x, ops[k].dst = some x → (∀ t, noC x (tg T t).c = true) ∧ noC x (gC T (prepO ops ops[k]).2.2) = true :=
    fun x hx => ⟨fun t => (hs t).noC hok ho hx, hC.noC hok ho hx⟩
  have hs' : ∀ p, ∀ t, CondsIn ops (k + 1) (tg (putT T ops[k].dst (gC T (prepO ops ops[k]).2.2) p) t).c := by
    intro p t
    cases hx : ops[k].dst with
    | none => exact (hs t).mono (by omega)
    | some x =>
      simp only [putT, tg]
      split
      · exact hC.mono (by omega)
      · exact (hs t).mono (by omega)
  unfold wpOp
  simp only [ho, hw]
  cases hc : holds T (gC T (prepO ops ops[k]).2.2) with
  | true =>
    rw [if_pos rfl]
    refine .inl (hstep hc B σ F w a ops[k] rfl s4 (fun t _ => s3 t) _ _ ?_)
    rintro v w' ⟨σ', F', h1, h2, h3, _⟩
    exact ⟨_, _, σ', F', hK, hs' _, hsz v, hdf v, (s3.step h2).put _ _ _ _ hm hdst ⟨fun _ => h3, (fun e => by rw [hc] at e; cases e)⟩, h1, s5.trans (h2 base)⟩
  | false =>
    rw [if_neg (by simp)]
    have hH := hf hc
    rw [hH] at hK
    exact ⟨_, _, σ, F, hK, hs' _, hsz _, hdf _, s3.put _ _ _ _ hm hdst ⟨(fun e => by rw [hc] at e; cases e), fun _ => rfl⟩, s4, s5⟩

/-- A region that draws its order. -/
theorem vcDraw_sound {B base : Nat} {σ0 : List (Nat × Nat)} {F0 : Fr} {w0 : World} (hm : P.follows .mixedOrders = true) {id : Nat} (hok : okOps n ops = true) (hd : okDraw ops = true) (Q : Exit → Act → World → Prop) (K : TEnv → Heap → Prop)
    (hq : ∀ T H a w, K T H → SR B base n σ0 F0 w0 T H a w → Q .normal a w) {T : TEnv} {a : Act} {w : World} (hv : vcDraw P φ (prep ops) T H K) (hs : SR B base n σ0 F0 w0 T H a w) : (Code.region id ops true).wp P Q a w := by
  obtain ⟨σ, F, h0, s1, s2, s3, s4, s5⟩ := hs
  obtain ⟨d1, d2, d3⟩ := okDraw_spec hd
  have hhead : headN ops = ((prep ops).takeWhile fun o => headB o.2.1).length := by
    unfold headN prep
    rw [List.takeWhile_map, List.length_map]
    rfl
  obtain ⟨f1, f2⟩ := vcHead_facts (prep ops) ⟨T, []⟩ hv (headN ops) hhead
  have hle : headN ops ≤ ops.size := by
    unfold headN
    exact Nat.le_trans (List.takeWhile_sublist _).length_le (by simp)
  have hc : ∀ (k : Nat) (o : Oper), k < headN ops → ops[k]? = some o → headB o.op = true ∧ hcond P φ H (At P φ ops H T k) (prepO ops o) := by
    intro k o hk ho
    exact f1 k (prepO ops o) hk (by simp [prep, ho])
  -- the head done: the tail begins
  have turn : ∀ (L : Nat → Bool) (a : Act) (w : World), (∃ σ F xs, HInv P φ ops H T n (headN ops) B base σ0 F0 w0 L a w σ F xs) → (∀ k, k < headN ops → L k = true) → TInv P φ ops K n B base σ0 F0 w0 (headN ops) a w := by
    rintro L a w ⟨σ, F, xs, I⟩ hL
    obtain ⟨ys, r1, _, r3⟩ := I.adopt hle hc hL (headN ops) (Nat.le_refl _)
    have hfr : ∀ {v : Value} {p : PV}, RelV σ F w v p → RelV (σ ++ ys) F w v p := fun h => h.frame (fun hh y hy => by rw [List.getElem?_append_left (List.getElem?_eq_some_iff.1 hy).1]; exact hy) (fun _ _ h => h) fun _ _ => rfl
    refine ⟨_, _, σ ++ ys, F, f2, At_conds hok h0 _ hle, I.size, I.defers, fun t => ?_, r1, I.ext.below, I.ext.sub, I.ext.same, fun hh y hl hy => ?_, I.ext.sup⟩
    · by_cases hw : ∃ (k : Nat) (o : Oper), k < headN ops ∧ ops[k]? = some o ∧ o.dst = some t
      · obtain ⟨k, o, hk, ho, hdk⟩ := hw
        cases hn : newB o.op with
        | false =>
          have hr := I.quiet k o hk ho (hL k hk) hn t hdk
          intro hx
          have hr := hr hx
          exact ⟨fun e => hfr (hr.1 e), hr.2⟩
        | true =>
          have hr := r3 k o hk ho hn t hdk
          intro hx
          have e : tg (hat P φ H (prep ops) ⟨T, []⟩ (headN ops)).T t = _ := tg_new (P := P) (φ := φ) (H := H) (T0 := T) hok ho hdk (headN ops) hle hk
          rw [e]
          have hg : gC (At P φ ops H T k).T (prepO ops o).2.2 = [] := by
            have hgn := (hc k o hk ho).2.2.1 hn
            cases hg : (prepO ops o).2.2 with
            | none => rfl
            | some g => rw [hg] at hgn; cases hgn
          simp only [hg]
          exact ⟨fun _ => hr, fun e => by simp [holds] at e⟩
      · have hnone : ∀ (j : Nat) (oj : Oper), j < headN ops → ops[j]? = some oj → oj.dst ≠ some t := fun j oj hj hoj e => hw ⟨j, oj, hj, hoj, e⟩
        have hr := I.old t fun j oj hj hoj hdj => absurd hdj (hnone j oj hj hoj)
        intro hx
        have e : tg (hat P φ H (prep ops) ⟨T, []⟩ (headN ops)).T t = tg T t := tg_old (P := P) (φ := φ) (H := H) (T0 := T) t (headN ops) hle hnone
        rw [e] at hx ⊢
        have hr := hr hx
        exact ⟨fun _ => hfr (hr.1 (by rw [h0]; rfl)), fun e => by rw [h0] at e; simp [holds] at e⟩
    · have := I.ext.pre hh y hl hy
      rw [List.getElem?_append_left (List.getElem?_eq_some_iff.1 this).1]; exact this
  refine wp_region_any hm ?_
  refine wpAny_inv (P := P) (ops := ops) (Q := Q) (fun L a w => ((∀ k, headN ops ≤ k → k < ops.size → L k = false) ∧ ∃ σ F xs, HInv P φ ops H T n (headN ops) B base σ0 F0 w0 L a w σ F xs) ∨
      ∃ k, headN ops ≤ k ∧ k ≤ ops.size ∧ (∀ j, j < ops.size → L j = decide (j < k)) ∧ TInv P φ ops K n B base σ0 F0 w0 k a w) d1 ?_ ?_ ops.size _ a _ (by simp) ?_ ?_ ?_
  · -- all has come up
    have fin : ∀ a w, TInv P φ ops K n B base σ0 F0 w0 ops.size a w → Q .normal a w := by
      rintro a w ⟨T', H', σ', F', hv', hs', t1, t2, t3, t4, t5⟩
      have : (prep ops).drop ops.size = [] := by simp [prep]
      rw [this] at hv'
      exact hq (endT T') H' a w hv' ⟨σ', F', fun t => (endT_tg T' t).1, t1, t2, t3.endT, t4, t5⟩
    rintro L a w hL (⟨hn, hI⟩ | ⟨k, k1, k2, k3, k4⟩)
    · have hh : headN ops = ops.size := by
        rcases Nat.lt_or_ge (headN ops) ops.size with h | h
        · have := hn (headN ops) (Nat.le_refl _) h
          rw [hL _ h] at this; cases this
        · omega
      exact fin a w (by have := turn L a w hI fun k hk => hL k (by omega); rwa [hh] at this)
    · have hk : k = ops.size := by
        rcases Nat.lt_or_ge k ops.size with h | h
        · have := k3 k h
          rw [hL k h] at this; simp at this
        · omega
      subst hk
      exact fin a w k4
  · -- one comes up
    rintro L a w i o hI ho hLi hcl hall
    have hi := (Array.getElem?_eq_some_iff.1 ho).1
    have tailStep : ∀ (L : Nat → Bool) (a : Act) (w : World), headN ops ≤ i → (∀ j, j < ops.size → L j = decide (j < i)) → TInv P φ ops K n B base σ0 F0 w0 i a w →
        wpOp P ops Q i (fun a' w' => ((∀ k, headN ops ≤ k → k < ops.size → (if k = i then true else L k) = false) ∧ ∃ σ F xs, HInv P φ ops H T n (headN ops) B base σ0 F0 w0 (fun j => if j = i then true else L j) a' w' σ F xs) ∨
          ∃ k, headN ops ≤ k ∧ k ≤ ops.size ∧ (∀ j, j < ops.size → (if j = i then true else L j) = decide (j < k)) ∧ TInv P φ ops K n B base σ0 F0 w0 k a' w') a w := by
      intro L a w h1 h2 h3
      refine wpOp_mono (fun a' w' h => .inr ⟨i + 1, by omega, by omega, fun j hj => ?_, h⟩) (h3.step hok hi)
      by_cases hji : j = i
      · simp [hji]
      · rw [if_neg hji, h2 j hj]
        congr 1
        simp only [eq_iff_iff]
        omega
    rcases hI with ⟨hn, σ, F, xs, I⟩ | ⟨k, k1, k2, k3, k4⟩
    · rcases Nat.lt_or_ge i (headN ops) with hih | hih
      · refine wpOp_mono (fun a' w' h => .inl ⟨fun k hk1 hk2 => ?_, h⟩) (I.step hok hd h0 rfl hle hc hcl hih ho hLi hall)
        have hki : k ≠ i := by omega
        simp only [if_neg hki]; exact hn k hk1 hk2
      · have hL : ∀ j, j < i → L j = true := fun j hj => reach_listed hcl ops.size i o ho hall (d3 i o hih ho j hj)
        have hih' : i = headN ops := by
          rcases Nat.lt_or_ge (headN ops) i with h | h
          · have := hn (headN ops) (Nat.le_refl _) (by omega)
            rw [hL _ h] at this; cases this
          · omega
        have hT := turn L a w ⟨σ, F, xs, I⟩ fun k hk => hL k (by omega)
        refine tailStep L a w hih (fun j hj => ?_) (by rw [hih']; exact hT)
        rcases Nat.lt_or_ge j i with h | h
        · rw [hL j h]; simp [h]
        · rw [hn j (by omega) hj]; simp; omega
    · have hki : k ≤ i := by
        rcases Nat.lt_or_ge i k with h | h
        · have := k3 i hi
          rw [hLi] at this; simp at this; omega
        · exact h
      have hL : ∀ j, j < i → L j = true := fun j hj => reach_listed hcl ops.size i o ho hall (d3 i o (by omega) ho j hj)
      have hik : i = k := by
        rcases Nat.lt_or_ge k i with h | h
        · have := k3 k (by omega)
          rw [hL k h] at this; simp at this
        · omega
      subst hik
      exact tailStep L a w k1 k3 k4
  · -- how many have not come up: all
    have : ∀ l : List Nat, l.countP (fun j => !(Array.replicate ops.size false).getD j false) = l.length := by
      intro l
      rw [List.countP_eq_length]
      intro j _
      by_cases hj : j < ops.size <;> simp [Array.getD_eq_getD_getElem?, Array.getElem?_replicate, hj]
    rw [this]; simp
  · intro j o' ho' hj
    have hlt := (Array.getElem?_eq_some_iff.1 ho').1
    simp [Array.getD_eq_getD_getElem?, Array.getElem?_replicate, hlt] at hj
  · left
    refine ⟨fun k _ hk => by simp [Array.getD_eq_getD_getElem?, Array.getElem?_replicate, hk], σ, F, fun _ => (0, 0), s1, s2, ?_, ?_, fun t _ => ?_, fun k o hk ho hl => ?_, fun k o hk ho hl => ?_, fun k k' o o' hk _ ho _ hl => ?_⟩
    · exact (s4.drew (w' := { w with drawn := w.drawn + 1 }) rfl rfl rfl rfl).1
    · exact s5.trans ((s4.drew (w' := { w with drawn := w.drawn + 1 }) rfl rfl rfl rfl).2 base)
    · exact (s3.step (s4.drew (w' := { w with drawn := w.drawn + 1 }) rfl rfl rfl rfl).2) t
    all_goals
      have hlt := (Array.getElem?_eq_some_iff.1 ho).1
      simp [Array.getD_eq_getD_getElem?, Array.getElem?_replicate, hlt] at hl

end head

end Go.Pv

namespace Go.Pv
open Go.RowKit (Below)
variable {P : Program} {φ : FuncId → List PV → PV}

def isC : Operand → Bool | .tmp _ => false | _ => true
def backB (o : Oper) (i : Nat) : Bool := o.after.all fun e => !Region.binds .any e || decide (e.on < i)
/-- Two makes, then two assigns that look at them. -/
def okLate (ops : Array Oper) : Bool := match ops.toList with
  | [o0, o1, o2, o3] => match o0.dst, o1.dst, o2.dst, o3.dst, o2.op, o3.op with
    | some d0, some d1, some _, some _, .assign (.tmp s2), .assign (.tmp s3) =>
      s2 == d0 && s3 == d1 && newB o0.op && newB o1.op && o0.guard.isNone && o1.guard.isNone && o2.guard.isNone && o3.guard.isNone &&
      o0.op.operands.toList.all isC && o1.op.operands.toList.all isC && edgeB o2 0 && edgeB o3 0 && edgeB o3 1 && edgeB o3 2 && backB o0 0 && backB o1 1 && backB o2 2 && backB o3 3
    | _, _, _, _, _, _ => false
  | _ => false

theorem new_step {B base : Nat} {σ0 : List (Nat × Nat)} {F0 : Fr} {w0 : World} {T : TEnv} {H : Heap} {o : Oper} {d : Tmp} (hd : o.dst = some d) (hn : newB o.op = true) (hc : o.op.operands.toList.all isC = true) (hs : (vStep P φ o.op T [] H).s)
    {σ : List (Nat × Nat)} {F : Fr} {w : World} {a : Act} (hI : Ow B σ F w H) (hE : Ext B base σ0 F0 w0 σ F w) (hda : d < a.tmps.size) :
    StepOk P o a w fun v w' => ∃ x : Nat × Nat, Ow B σ F w' H ∧ Ext B base σ0 F0 w0 σ F w' ∧ Cm F w F w' ∧ w.heap.size ≤ x.1 ∧ NewAt B σ F w' (a.put (some d) v).tmps H (vStep P φ o.op T [] H) (some d) x := by
  obtain ⟨_, hstep⟩ := vStep_sound hs
  have hk := hstep rfl B σ F w a o rfl hI (fun t ht => by
    simp only [List.all_eq_true] at hc
    have := hc _ ht
    simp [isC] at this)
  intro next Q hnext
  refine hk next Q ?_
  rintro v w' ⟨σ', F', g1, g2, g3, g4⟩
  obtain ⟨x, rfl, hx, rfl, c⟩ := (g4.2 (nwB_of hn)).calm hI
  have hnr := vStep_new hn hs
  refine hnext v w' ⟨x, (hI.calm c).1, hE.trans ((hI.calm c).2 base), c, hx, ?_⟩
  generalize vStep P φ o.op T [] H = rr at g1 g3 hnr ⊢
  obtain ⟨rs, rp, rH⟩ := rr
  simp only at g1 g3 hnr ⊢
  cases hnr with
  | mk T0 sz es hp hz =>
    have hxs : (σ ++ [x])[H.length]? = some x := by rw [← hI.len]; simp
    have hbk : BlkOk (σ ++ [x]) F' w' x (.rows T0 sz es) := g1.ok H.length x _ hxs (by simp)
    have hbig := g1.big H.length x (.rows T0 sz es) hxs (by simp) (by simp)
    refine ⟨_, rfl, fun τ => hbk.free hz τ, by have := hI.base; omega, hbig.2, fun hh y b hy hb' hd' => ?_, fun t ht τ m hm => ?_⟩
    · have := (hI.big hh y b hy hb' hd').2
      omega
    · cases ht
      rw [getD_put_eq hda]
      exact g3.renew hxs hp hm

theorem vcLate_sound {n B base : Nat} {σ0 : List (Nat × Nat)} {F0 : Fr} {w0 : World} (hmx : P.follows .mixedOrders = true) {id : Nat} {ops : Array Oper} (hok : okOps n ops = true) (hd : okLate ops = true) (Q : Exit → Act → World → Prop) (K : TEnv → Heap → Prop)
    (hq : ∀ T H a w, K T H → SR B base n σ0 F0 w0 T H a w → Q .normal a w) {T : TEnv} {H : Heap} {a : Act} {w : World} (hv : vcDraw P φ (prep ops) T H K) (hs : SR B base n σ0 F0 w0 T H a w) : (Code.region id ops true).wp P Q a w := by
  unfold okLate at hd
  split at hd
  case h_2 => cases hd
  rename_i o0 o1 o2 o3 hl
  split at hd
  case h_2 => cases hd
  rename_i d0 d1 d2 d3 s2 s3 e0 e1 e2 e3 p2 p3
  simp only [Bool.and_eq_true, beq_iff_eq] at hd
  obtain ⟨⟨⟨⟨⟨⟨⟨⟨⟨⟨⟨⟨⟨⟨⟨⟨⟨hs2, hs3⟩, n0⟩, n1⟩, u0⟩, u1⟩, u2⟩, u3⟩, c0⟩, c1⟩, x20⟩, x30⟩, x31⟩, x32⟩, b0⟩, b1⟩, b2⟩, b3⟩ := hd
  rw [hs2] at p2
  rw [hs3] at p3
  have u0 : o0.guard = none := by simpa using u0
  have u1 : o1.guard = none := by simpa using u1
  have u2 : o2.guard = none := by simpa using u2
  have u3 : o3.guard = none := by simpa using u3
  have hget : ∀ i, ops[i]? = [o0, o1, o2, o3][i]? := fun i => by rw [← hl, Array.getElem?_toList]
  have hsz : ops.size = 4 := by rw [← Array.length_toList, hl]; rfl
  have g0 : ops[0]? = some o0 := hget 0
  have g1 : ops[1]? = some o1 := hget 1
  have g2 : ops[2]? = some o2 := hget 2
  have g3 : ops[3]? = some o3 := hget 3
  have k0 := ops_at hok g0
  have k1 := ops_at hok g1
  have k2 := ops_at hok g2
  have k3 := ops_at hok g3
  have l0 := (k0.2 d0 e0).1
  have l1 := (k1.2 d1 e1).1
  have l2 := (k2.2 d2 e2).1
  have l3 := (k3.2 d3 e3).1
  have n01 : d0 ≠ d1 := fun h => (k1.2 d1 e1).2 0 o0 (by omega) g0 (by rw [e0, h])
  have n02 : d0 ≠ d2 := fun h => (k2.2 d2 e2).2 0 o0 (by omega) g0 (by rw [e0, h])
  have n12 : d1 ≠ d2 := fun h => (k2.2 d2 e2).2 1 o1 (by omega) g1 (by rw [e1, h])
  have n03 : d0 ≠ d3 := fun h => (k3.2 d3 e3).2 0 o0 (by omega) g0 (by rw [e0, h])
  have n13 : d1 ≠ d3 := fun h => (k3.2 d3 e3).2 1 o1 (by omega) g1 (by rw [e1, h])
  have n23 : d2 ≠ d3 := fun h => (k3.2 d3 e3).2 2 o2 (by omega) g2 (by rw [e2, h])
  have hprep : prep ops = [(some d0, o0.op, none), (some d1, o1.op, none), (some d2, .assign (.tmp d0), none), (some d3, .assign (.tmp d1), none)] := by
    unfold prep; rw [hl]; simp [prepO, e0, e1, e2, e3, u0, u1, u2, u3, p2, p3]
  have hh0 : headB o0.op = true := by simp [headB, n0]
  have hh1 : headB o1.op = true := by simp [headB, n1]
  have hh2 : ∀ x, headB (.assign x) = true := fun x => rfl
  rw [hprep] at hv
  simp only [vcDraw, vcHead, hh0, hh1, hh2, if_true] at hv
  obtain ⟨⟨_, _, s0⟩, ⟨_, _, s1⟩, ⟨_, _, _⟩, ⟨_, _, _⟩, hK⟩ := hv
  simp only [hres, gC] at s0 s1
  simp only [hnext, hval, hres, gC, n0, n1, if_true, putT, List.nil_append] at hK s1
  obtain ⟨r0, hr0⟩ : ∃ r0, r0 = vStep P φ o0.op T [] H := ⟨_, rfl⟩
  rw [← hr0] at hK s1 s0
  obtain ⟨T1, hT1⟩ : ∃ T1, T1 = (d0, ([] : Cond), ren (H.length + ([] : List Blk).length) r0.p) :: T := ⟨_, rfl⟩
  obtain ⟨r1, hr1⟩ : ∃ r1, r1 = vStep P φ o1.op T1 [] H := ⟨_, rfl⟩
  rw [← hT1, ← hr1] at hK s1
  obtain ⟨σ, F, h0, t1, t2, t3, t4, t5⟩ := hs
  refine wp_region_any hmx ?_
  have hbk : ∀ (i : Nat) (o : Oper), ops[i]? = some o → ∀ e ∈ o.after, Region.binds .any e = true → e.on < i := by
    intro i o ho e he hb
    rw [hget] at ho
    have use : ∀ {o : Oper} {i : Nat}, backB o i = true → ∀ e ∈ o.after, Region.binds .any e = true → e.on < i := fun h e he hb => by
      have := Array.all_eq_true_iff_forall_mem.1 h e he
      simpa [hb] using this
    match i, ho with
    | 0, ho => cases ho; exact use b0 e he hb
    | 1, ho => cases ho; exact use b1 e he hb
    | 2, ho => cases ho; exact use b2 e he hb
    | 3, ho => cases ho; exact use b3 e he hb
  refine wpAny_inv (P := P) (ops := ops) (Q := Q) (fun L a w => ∃ (x0 x1 : Nat × Nat), a.tmps.size = n ∧ a.defers = [] ∧ Ow B σ F w H ∧ Ext B base σ0 F0 w0 σ F w ∧
      (∀ t, t ≠ d0 → t ≠ d1 → t ≠ d2 → t ≠ d3 → RelAt σ F w a.tmps T t) ∧ (L 0 = true → NewAt B σ F w a.tmps H r0 (some d0) x0) ∧ (L 1 = true → NewAt B σ F w a.tmps H r1 (some d1) x1) ∧
      (L 0 = true → L 1 = true → x0.1 ≠ x1.1) ∧ (L 2 = true → a.tmps.getD d2 Go.undef = a.tmps.getD d0 Go.undef) ∧ (L 3 = true → a.tmps.getD d3 Go.undef = a.tmps.getD d1 Go.undef)) hbk ?_ ?_ ops.size _ a _ (by simp) ?_ ?_ ?_
  · -- all has come up
    rintro L a w hL ⟨x0, x1, i1, i2, i3, i4, i5, i6, i7, i8, i9, i10⟩
    have L0 := hL 0 (by omega)
    have L1 := hL 1 (by omega)
    have q0 := i6 L0
    have q1 := i7 L1
    obtain ⟨bk0, q01, q02, q03, q04, q05, q06⟩ := q0
    obtain ⟨bk1, q11, q12, q13, q14, q15, q16⟩ := q1
    have A0 := i3.adopt q02 q03 q04 q05
    have hlen := i3.len
    have A1 := A0.adopt q12 q13 q14 (fun hh y b hy hb hd' => by
      by_cases hlt : hh < σ.length
      · rw [List.getElem?_append_left hlt] at hy
        rw [List.getElem?_append_left (by omega)] at hb
        exact q15 hh y b hy hb hd'
      · have : hh = σ.length := by
          have := (List.getElem?_eq_some_iff.1 hy).1
          simp at this; omega
        subst this
        simp at hy
        subst hy
        exact i8 L0 L1)
    have hX : r0.H.drop H.length = [bk0] := by rw [q01]; simp
    have hX1 : r1.H.drop H.length = [bk1] := by rw [q11]; simp
    rw [hX] at hK
    have ra : ∀ v : Value, ∀ p, RelV σ F w v p → RelV (σ ++ [x0] ++ [x1]) F w v p := fun v p h => h.frame (fun hh y hy => by
      rw [List.append_assoc, List.getElem?_append_left (List.getElem?_eq_some_iff.1 hy).1]; exact hy) (fun _ _ h => h) fun _ _ => rfl
    have v0 := q06 d0 rfl (σ ++ [x0] ++ [x1]) (H.length + ([] : List Blk).length) (by simp [← hlen])
    have v1 := q16 d1 rfl (σ ++ [x0] ++ [x1]) (H.length + [bk0].length) (by simp [← hlen])
    have e4 : vStep P φ (.assign (.tmp d0)) ((d1, [], ren (H.length + [bk0].length) r1.p) :: T1) [] H = ⟨_, (tg ((d1, [], ren (H.length + [bk0].length) r1.p) :: T1) d0).p, H⟩ := rfl
    have hq0 : newB (.assign (.tmp d0)) = false := rfl
    have hq1 : newB (.assign (.tmp d1)) = false := rfl
    have w0' : (vStep P φ (.assign (.tmp d0)) ((d1, [], ren (H.length + [bk0].length) r1.p) :: T1) [] H).H = H := rfl
    have w1' : ∀ TT, (vStep P φ (.assign (.tmp d1)) TT [] H).H = H := fun _ => rfl
    have hTd0 : (tg ((d1, [], ren (H.length + [bk0].length) r1.p) :: T1) d0) = ⟨true, [], ren (H.length + ([] : List Blk).length) r0.p⟩ := by
      rw [hT1]; simp [tg, Ne.symm n01]
    have pv0 : (vStep P φ (.assign (.tmp d0)) ((d1, [], ren (H.length + [bk0].length) r1.p) :: T1) [] H).p = ren (H.length + ([] : List Blk).length) r0.p := by
      show (tg _ d0).p = _
      rw [hTd0]
    have pv1 : ∀ pp, (vStep P φ (.assign (.tmp d1)) ((d2, [], pp) :: (d1, [], ren (H.length + [bk0].length) r1.p) :: T1) [] H).p = ren (H.length + [bk0].length) r1.p := by
      intro pp
      show (tg _ d1).p = _
      simp [tg, Ne.symm n12]
    simp only [hq0, hq1, Bool.false_eq_true, if_false, hX1, w0', w1', pv0, pv1, List.drop_length, List.append_nil] at hK
    refine hq _ _ a w hK ⟨σ ++ [x0] ++ [x1], F, fun t => (endT_tg _ t).1, i1, i2, RelT.endT fun t => ?_, ?_, i4.below, i4.sub, i4.same, fun hh y hl hy => ?_, i4.sup⟩
    · intro ht
      simp only [tg] at ht ⊢
      by_cases c3 : d3 = t
      · subst c3
        simp only [if_true]
        exact ⟨fun _ => by rw [i10 (hL 3 (by omega))]; exact v1, fun e => by simp [holds] at e⟩
      · rw [if_neg c3] at ht ⊢
        by_cases c2 : d2 = t
        · subst c2
          simp only [if_true]
          exact ⟨fun _ => by rw [i9 (hL 2 (by omega))]; exact v0, fun e => by simp [holds] at e⟩
        · rw [if_neg c2] at ht ⊢
          by_cases c1' : d1 = t
          · subst c1'
            simp only [if_true]
            exact ⟨fun _ => v1, fun e => by simp [holds] at e⟩
          · rw [if_neg c1'] at ht ⊢
            rw [hT1] at ht ⊢
            simp only [tg] at ht ⊢
            by_cases c0' : d0 = t
            · subst c0'
              simp only [if_true]
              exact ⟨fun _ => v0, fun e => by simp [holds] at e⟩
            · rw [if_neg c0'] at ht ⊢
              have := i5 t (Ne.symm c0') (Ne.symm c1') (Ne.symm c2) (Ne.symm c3) ht
              rw [h0 t] at this ⊢
              exact ⟨fun _ => ra _ _ (this.1 rfl), fun e => by simp [holds] at e⟩
    · simpa using A1
    · have := i4.pre hh y hl hy
      rw [List.append_assoc, List.getElem?_append_left (List.getElem?_eq_some_iff.1 this).1]; exact this
  · -- one comes up
    rintro L a w i o ⟨x0, x1, i1, i2, i3, i4, i5, i6, i7, i8, i9, i10⟩ ho hLi hcl hall
    have no2 : L 2 = true → L 0 = true := fun h => edge_on x20 (fun e he hb => hcl 2 o2 g2 h e he hb)
    have no30 : L 3 = true → L 0 = true := fun h => edge_on x30 (fun e he hb => hcl 3 o3 g3 h e he hb)
    have no31 : L 3 = true → L 1 = true := fun h => edge_on x31 (fun e he hb => hcl 3 o3 g3 h e he hb)
    have no32 : L 3 = true → L 2 = true := fun h => edge_on x32 (fun e he hb => hcl 3 o3 g3 h e he hb)
    rw [hget] at ho
    have wtd : ∀ {o : Oper}, o.guard = none → Region.wanted o (yielded ops a.tmps) = true := fun h => by simp [Region.wanted, h]
    match i, ho with
    | 0, ho =>
      cases ho
      unfold wpOp
      rw [g0]
      simp only [wtd u0, if_true]
      refine .inl (new_step (P := P) (φ := φ) (T := T) (base := base) (σ0 := σ0) (F0 := F0) (w0 := w0) e0 n0 c0 (hr0 ▸ s0) i3 i4 (by rw [i1]; exact l0) _ _ ?_)
      rintro v w' ⟨x, m1, m2, m3, m4, m5⟩
      rw [← hr0] at m5
      rw [e0]
      refine ⟨x, x1, by simpa [Act.put] using i1, by simpa [Act.put] using i2, m1, m2, fun t h1 h2 h3 h4 => (i5 t h1 h2 h3 h4).calm m3 i3.old (getD_put_ne (by simp [Ne.symm h1])), fun _ => m5, fun h => ?_, fun _ h => ?_, fun h => ?_, fun h => ?_⟩
      · exact (i7 (by simpa using h)).calm m3 i3.old fun t ht => by cases ht; exact getD_put_ne (by simp [n01])
      · obtain ⟨_, _, _, _, hl', _⟩ := i7 (by simpa using h)
        omega
      · have := no2 (by simpa using h); rw [hLi] at this; cases this
      · have := no30 (by simpa using h); rw [hLi] at this; cases this
    | 1, ho =>
      cases ho
      unfold wpOp
      rw [g1]
      simp only [wtd u1, if_true]
      refine .inl (new_step (P := P) (φ := φ) (T := T1) (base := base) (σ0 := σ0) (F0 := F0) (w0 := w0) e1 n1 c1 (hr1 ▸ s1) i3 i4 (by rw [i1]; exact l1) _ _ ?_)
      rintro v w' ⟨x, m1, m2, m3, m4, m5⟩
      rw [← hr1] at m5
      rw [e1]
      refine ⟨x0, x, by simpa [Act.put] using i1, by simpa [Act.put] using i2, m1, m2, fun t h1 h2 h3 h4 => (i5 t h1 h2 h3 h4).calm m3 i3.old (getD_put_ne (by simp [Ne.symm h2])), fun h => ?_, fun _ => m5, fun h _ => ?_, fun h => ?_, fun h => ?_⟩
      · exact (i6 (by simpa using h)).calm m3 i3.old fun t ht => by cases ht; exact getD_put_ne (by simp [Ne.symm n01])
      · obtain ⟨_, _, _, _, hl', _⟩ := i6 (by simpa using h)
        omega
      · rw [getD_put_ne (by simp [n12]), getD_put_ne (by simp [Ne.symm n01])]
        exact i9 (by simpa using h)
      · have := no31 (by simpa using h); rw [hLi] at this; cases this
    | 2, ho =>
      cases ho
      have L0 := edge_on x20 hall
      unfold wpOp
      rw [g2]
      simp only [wtd u2, if_true]
      have ev_d0 : a.eval (.tmp d0) = a.tmps.getD d0 Go.undef := rfl
      refine .inl (StepOk.value (P := P) (R := fun v w' => v = a.tmps.getD d0 Go.undef ∧ w' = w) (v := a.tmps.getD d0 Go.undef) (w' := w) (by rw [← ev_d0]; simp [execOp, p2]) ⟨rfl, rfl⟩ _ _ ?_)
      rintro v w' ⟨rfl, rfl⟩
      rw [e2]
      refine ⟨x0, x1, by simpa [Act.put] using i1, by simpa [Act.put] using i2, i3, i4, fun t h1 h2 h3 h4 => ?_, fun h => ?_, fun h => ?_, fun h h' => i8 (by simpa using h) (by simpa using h'), fun _ => ?_, fun h => ?_⟩
      · exact (i5 t h1 h2 h3 h4).calm ⟨Below.refl _ _, fun _ _ h => h, fun _ _ h => .inl h, i3.old⟩ i3.old (getD_put_ne (by simp [Ne.symm h3]))
      · exact (i6 (by simpa using h)).calm ⟨Below.refl _ _, fun _ _ h => h, fun _ _ h => .inl h, i3.old⟩ i3.old fun t ht => by cases ht; exact getD_put_ne (by simp [Ne.symm n02])
      · exact (i7 (by simpa using h)).calm ⟨Below.refl _ _, fun _ _ h => h, fun _ _ h => .inl h, i3.old⟩ i3.old fun t ht => by cases ht; exact getD_put_ne (by simp [Ne.symm n12])
      · rw [getD_put_eq (by rw [i1]; exact l2), getD_put_ne (by simp [Ne.symm n02])]
      · have := no32 (by simpa using h); rw [hLi] at this; cases this
    | 3, ho =>
      cases ho
      have L1 := edge_on x31 hall
      unfold wpOp
      rw [g3]
      simp only [wtd u3, if_true]
      have ev_d1 : a.eval (.tmp d1) = a.tmps.getD d1 Go.undef := rfl
      refine .inl (StepOk.value (P := P) (R := fun v w' => v = a.tmps.getD d1 Go.undef ∧ w' = w) (v := a.tmps.getD d1 Go.undef) (w' := w) (by rw [← ev_d1]; simp [execOp, p3]) ⟨rfl, rfl⟩ _ _ ?_)
      rintro v w' ⟨rfl, rfl⟩
      rw [e3]
      refine ⟨x0, x1, by simpa [Act.put] using i1, by simpa [Act.put] using i2, i3, i4, fun t h1 h2 h3 h4 => ?_, fun h => ?_, fun h => ?_, fun h h' => i8 (by simpa using h) (by simpa using h'), fun h => ?_, fun _ => ?_⟩
      · exact (i5 t h1 h2 h3 h4).calm ⟨Below.refl _ _, fun _ _ h => h, fun _ _ h => .inl h, i3.old⟩ i3.old (getD_put_ne (by simp [Ne.symm h4]))
      · exact (i6 (by simpa using h)).calm ⟨Below.refl _ _, fun _ _ h => h, fun _ _ h => .inl h, i3.old⟩ i3.old fun t ht => by cases ht; exact getD_put_ne (by simp [Ne.symm n03])
      · exact (i7 (by simpa using h)).calm ⟨Below.refl _ _, fun _ _ h => h, fun _ _ h => .inl h, i3.old⟩ i3.old fun t ht => by cases ht; exact getD_put_ne (by simp [Ne.symm n13])
      · rw [getD_put_ne (by simp [Ne.symm n23]), getD_put_ne (by simp [Ne.symm n03])]
        exact i9 (by simpa using h)
      · rw [getD_put_eq (by rw [i1]; exact l3), getD_put_ne (by simp [Ne.symm n13])]
  · have : ∀ l : List Nat, l.countP (fun j => !(Array.replicate ops.size false).getD j false) = l.length := by
      intro l
      rw [List.countP_eq_length]
      intro j _
      by_cases hj : j < ops.size <;> simp [Array.getD_eq_getD_getElem?, Array.getElem?_replicate, hj]
    rw [this]; simp
  · intro j o' ho' hj
    have hlt := (Array.getElem?_eq_some_iff.1 ho').1
    simp [Array.getD_eq_getD_getElem?, Array.getElem?_replicate, hlt] at hj
  · have fl : ∀ j, (Array.replicate ops.size false).getD j false = false := fun j => by
      by_cases hj : j < ops.size <;> simp [Array.getD_eq_getD_getElem?, Array.getElem?_replicate, hj]
    refine ⟨(0, 0), (0, 0), t1, t2, (t4.drew (w' := { w with drawn := w.drawn + 1 }) rfl rfl rfl rfl).1, t5.trans ((t4.drew (w' := { w with drawn := w.drawn + 1 }) rfl rfl rfl rfl).2 base),
      fun t _ _ _ _ => (t3.step (t4.drew (w' := { w with drawn := w.drawn + 1 }) rfl rfl rfl rfl).2) t, fun h => ?_, fun h => ?_, fun h => ?_, fun h => ?_, fun h => ?_⟩ <;> (simp only [fl] at h; cases h)
end Go.Pv
