/-
  Values, plain values and the relation between them, and what each operation does to it: of any program. Conditions: none.
-/
import Derived.Laws.CopyRow
import Derived.Orders
import Derived.Below
import Derived.Laws.MakeOwn
import Derived.Laws.AppendOwn
set_option linter.all false
set_option linter.unusedSimpArgs false
set_option linter.unusedVariables false
namespace Go.Pv
open Go.RowKit (Below)

/-- Pure values: frozen memory is a tree, memory of the call's own is told by a handle. -/
inductive PV where
  | int (k : IntKind) (n : Int)
  | bool (b : Bool)
  | str (s : ByteArray)
  | agg (cs : List PV)
  | tup (cs : List PV)
  | nil
  | sl (sz : Nat) (es : List (List PV))
  /-- The same, in a new block. -/
  | fs (sz : Nat) (es : List (List PV))
  | ref (cs : List PV)
  | ptr (h sz i off : Nat)
  | own (h sz a len : Nat)
  | mp (h : Nat)
  | clo (f : FuncId) (caps : List PV)
  | undef
  deriving Inhabited

/-- No slice and no string of those that are told of is longer. -/
def lenMax : Nat := 140737488355328

/-- Which blocks are frozen (true), and which are new (false). -/
abbrev Fr := Bool → Nat → Prop

/-- A machine value reads as a frozen pure value; all cells that it leads to lie in blocks of F. -/
inductive RelF (F : Fr) (w : World) : Value → PV → Prop where
  | int (k n) : RelF F w (.int k n) (.int k n)
  | bool (b) : RelF F w (.bool b) (.bool b)
  | str (s) (hs : s.size ≤ lenMax) : RelF F w (.string s) (.str s)
  | agg (cs : Array Value) (ps : List PV) (hn : cs.size = ps.length) (h : ∀ i, i < ps.length → RelF F w (cs.getD i Go.undef) (ps.getD i .undef)) : RelF F w (.agg cs) (.agg ps)
  | tup (cs : Array Value) (ps : List PV) (hn : cs.size = ps.length) (h : ∀ i, i < ps.length → RelF F w (cs.getD i Go.undef) (ps.getD i .undef)) : RelF F w (.tuple cs) (.tup ps)
  | nil : RelF F w (.slice none 0 0) .nil
  | sl0 (a cap sz) : RelF F w (.slice a 0 cap) (.sl sz [])
  | sl (b off n cap sz) (es : List (List PV)) (v : Nat → Nat → Value) (hb : F true b) (hn : es.length = n) (hc : n ≤ cap) (hL : n ≤ lenMax)
      (hz : ∀ i, i < n → (es.getD i []).length = sz)
      (hv : ∀ i j, i < n → j < sz → w.cell? ⟨b, off + (i * sz + j), none⟩ = some (v i j))
      (h : ∀ i j, i < n → j < sz → RelF F w (v i j) ((es.getD i []).getD j .undef)) : RelF F w (.slice (some ⟨b, off, none⟩) n cap) (.sl sz es)
  | fs0 (a cap sz) : RelF F w (.slice a 0 cap) (.fs sz [])
  | fs (b off n cap sz) (es : List (List PV)) (v : Nat → Nat → Value) (hb : F true b) (hw : F false b) (ha : ∃ arr T, w.heap[b]? = some (.cells arr T (0, 0))) (hn : es.length = n) (hc : n ≤ cap) (hL : n ≤ lenMax)
      (hz : ∀ i, i < n → (es.getD i []).length = sz)
      (hv : ∀ i j, i < n → j < sz → w.cell? ⟨b, off + (i * sz + j), none⟩ = some (v i j))
      (h : ∀ i j, i < n → j < sz → RelF F w (v i j) ((es.getD i []).getD j .undef)) : RelF F w (.slice (some ⟨b, off, none⟩) n cap) (.fs sz es)
  | ref (b off) (cs : List PV) (v : Nat → Value) (hb : F true b)
      (hv : ∀ j, j < cs.length → w.cell? ⟨b, off + j, none⟩ = some (v j))
      (h : ∀ j, j < cs.length → RelF F w (v j) (cs.getD j .undef)) : RelF F w (.pointer (some ⟨b, off, none⟩)) (.ref cs)
  | clo (f) (cs : Array Value) (ps : List PV) (hn : cs.size = ps.length) (h : ∀ i, i < ps.length → RelF F w (cs.getD i Go.undef) (ps.getD i .undef)) : RelF F w (.func (.func f) #[] cs) (.clo f ps)
  | undef (v) : RelF F w v .undef

theorem cell?_of_heap {w w' : World} {b : Nat} (h : w'.heap[b]? = w.heap[b]?) (off : Nat) (s : Option Nat) : w'.cell? ⟨b, off, s⟩ = w.cell? ⟨b, off, s⟩ := by
  simp only [World.cell?, h]

theorem RelF.frameT {F F' : Fr} {w w' : World} (hs : ∀ (t : Bool) b, F true b → F t b → F' t b) (hw : ∀ b, F true b → w'.heap[b]? = w.heap[b]?) :
    ∀ {v p}, RelF F w v p → RelF F' w' v p := by
  intro v p h
  induction h with
  | int k n => exact .int k n
  | bool b => exact .bool b
  | str s hs => exact .str s hs
  | agg cs ps hn _ ih => exact .agg cs ps hn ih
  | tup cs ps hn _ ih => exact .tup cs ps hn ih
  | nil => exact .nil
  | sl0 a cap sz => exact .sl0 a cap sz
  | sl b off n cap sz es v hb hn hc hL hz hv _ ih =>
    exact .sl b off n cap sz es v (hs true b hb hb) hn hc hL hz (fun i j hi hj => by rw [cell?_of_heap (hw b hb)]; exact hv i j hi hj) ih
  | fs0 a cap sz => exact .fs0 a cap sz
  | fs b off n cap sz es v hb hw' ha hn hc hL hz hv _ ih =>
    exact .fs b off n cap sz es v (hs true b hb hb) (hs false b hb hw') (by rw [hw b hb]; exact ha) hn hc hL hz (fun i j hi hj => by rw [cell?_of_heap (hw b hb)]; exact hv i j hi hj) ih
  | ref b off cs v hb hv _ ih =>
    exact .ref b off cs v (hs true b hb hb) (fun j hj => by rw [cell?_of_heap (hw b hb)]; exact hv j hj) ih
  | clo f cs ps hn _ ih => exact .clo f cs ps hn ih
  | undef v => exact .undef v

theorem RelF.frame {F F' : Fr} {w w' : World} (hs : ∀ (t : Bool) b, F t b → F' t b) (hw : ∀ b, F true b → w'.heap[b]? = w.heap[b]?) {v p} (h : RelF F w v p) : RelF F' w' v p :=
  h.frameT (fun t b _ => hs t b) hw

/-- A machine value reads as a pure value in which handles may occur; σ tells the handles' blocks. -/
inductive RelV (σ : List (Nat × Nat)) (F : Fr) (w : World) : Value → PV → Prop where
  | frz {v p} (h : RelF F w v p) : RelV σ F w v p
  | ptr (h sz i off) (x : Nat × Nat) (hb : σ[h]? = some x) : RelV σ F w (.pointer (some ⟨x.1, i * sz + off, none⟩)) (.ptr h sz i off)
  | own (h sz a len cap) (x : Nat × Nat) (hb : σ[h]? = some x) (hc : len ≤ cap) (hn : (a + cap) * sz ≤ x.2) (hL : len ≤ lenMax) : RelV σ F w (.slice (some ⟨x.1, a * sz, none⟩) len cap) (.own h sz a len)
  | mp (h) (x : Nat × Nat) (hb : σ[h]? = some x) : RelV σ F w (.map (some x.1)) (.mp h)
  | agg (cs : Array Value) (ps : List PV) (hn : cs.size = ps.length) (h : ∀ i, i < ps.length → RelV σ F w (cs.getD i Go.undef) (ps.getD i .undef)) : RelV σ F w (.agg cs) (.agg ps)
  | tup (cs : Array Value) (ps : List PV) (hn : cs.size = ps.length) (h : ∀ i, i < ps.length → RelV σ F w (cs.getD i Go.undef) (ps.getD i .undef)) : RelV σ F w (.tuple cs) (.tup ps)
  | clo (f) (cs : Array Value) (ps : List PV) (hn : cs.size = ps.length) (h : ∀ i, i < ps.length → RelV σ F w (cs.getD i Go.undef) (ps.getD i .undef)) : RelV σ F w (.func (.func f) #[] cs) (.clo f ps)

theorem RelV.frame {σ σ' : List (Nat × Nat)} {F F' : Fr} {w w' : World} (hσ : ∀ (h : Nat) (x : Nat × Nat), σ[h]? = some x → σ'[h]? = some x) (hs : ∀ (t : Bool) b, F t b → F' t b)
    (hw : ∀ b, F true b → w'.heap[b]? = w.heap[b]?) : ∀ {v p}, RelV σ F w v p → RelV σ' F' w' v p := by
  intro v p h
  induction h with
  | frz h => exact .frz (h.frame hs hw)
  | ptr h sz i off b hb => exact .ptr h sz i off b (hσ _ _ hb)
  | own h sz a len cap b hb hc hn hL => exact .own h sz a len cap b (hσ _ _ hb) hc hn hL
  | mp h b hb => exact .mp h b (hσ _ _ hb)
  | agg cs ps hn _ ih => exact .agg cs ps hn ih
  | tup cs ps hn _ ih => exact .tup cs ps hn ih
  | clo f cs ps hn _ ih => exact .clo f cs ps hn ih

section inv
variable {σ : List (Nat × Nat)} {F : Fr} {w : World} {v : Value}
theorem RelV.int_inv {k n} (h : RelV σ F w v (.int k n)) : v = .int k n := by
  cases h with | frz h => cases h; rfl
theorem RelV.bool_inv {b} (h : RelV σ F w v (.bool b)) : v = .bool b := by
  cases h with | frz h => cases h; rfl
theorem RelV.str_inv {s} (h : RelV σ F w v (.str s)) : v = .string s := by
  cases h with | frz h => cases h; rfl
theorem RelV.nil_inv (h : RelV σ F w v .nil) : v = .slice none 0 0 := by
  cases h with | frz h => cases h; rfl
theorem RelV.agg_inv {ps} (h : RelV σ F w v (.agg ps)) : ∃ cs : Array Value, v = .agg cs ∧ cs.size = ps.length ∧ ∀ i, i < ps.length → RelV σ F w (cs.getD i Go.undef) (ps.getD i .undef) := by
  cases h with
  | frz h => cases h with | agg cs _ hn h => exact ⟨cs, rfl, hn, fun i hi => .frz (h i hi)⟩
  | agg cs _ hn h => exact ⟨cs, rfl, hn, h⟩
theorem RelV.tup_inv {ps} (h : RelV σ F w v (.tup ps)) : ∃ cs : Array Value, v = .tuple cs ∧ cs.size = ps.length ∧ ∀ i, i < ps.length → RelV σ F w (cs.getD i Go.undef) (ps.getD i .undef) := by
  cases h with
  | frz h => cases h with | tup cs _ hn h => exact ⟨cs, rfl, hn, fun i hi => .frz (h i hi)⟩
  | tup cs _ hn h => exact ⟨cs, rfl, hn, h⟩
theorem RelV.clo_inv {f ps} (h : RelV σ F w v (.clo f ps)) : ∃ cs : Array Value, v = .func (.func f) #[] cs ∧ cs.size = ps.length ∧ ∀ i, i < ps.length → RelV σ F w (cs.getD i Go.undef) (ps.getD i .undef) := by
  cases h with
  | frz h => cases h with | clo _ cs _ hn h => exact ⟨cs, rfl, hn, fun i hi => .frz (h i hi)⟩
  | clo _ cs _ hn h => exact ⟨cs, rfl, hn, h⟩
theorem RelV.ptr_inv {h sz i off} (x : RelV σ F w v (.ptr h sz i off)) : ∃ x : Nat × Nat, σ[h]? = some x ∧ v = .pointer (some ⟨x.1, i * sz + off, none⟩) := by
  cases x with
  | frz h => cases h
  | ptr _ _ _ _ b hb => exact ⟨b, hb, rfl⟩
theorem RelV.own_inv {h sz a len} (x : RelV σ F w v (.own h sz a len)) : ∃ (x : Nat × Nat) (cap : Nat), σ[h]? = some x ∧ len ≤ cap ∧ v = .slice (some ⟨x.1, a * sz, none⟩) len cap ∧ (a + cap) * sz ≤ x.2 := by
  cases x with
  | frz h => cases h
  | own _ _ _ _ cap b hb hc hn hL => exact ⟨b, cap, hb, hc, rfl, hn⟩
theorem RelV.own_len {h sz a len} (x : RelV σ F w v (.own h sz a len)) : len ≤ lenMax := by
  cases x with
  | frz h => cases h
  | own _ _ _ _ cap b hb hc hn hL => exact hL
theorem RelV.mp_inv {h} (x : RelV σ F w v (.mp h)) : ∃ x : Nat × Nat, σ[h]? = some x ∧ v = .map (some x.1) := by
  cases x with
  | frz h => cases h
  | mp _ b hb => exact ⟨b, hb, rfl⟩
theorem RelV.ref_inv {cs} (x : RelV σ F w v (.ref cs)) : ∃ b off, F true b ∧ v = .pointer (some ⟨b, off, none⟩) ∧ ∃ f : Nat → Value, (∀ j, j < cs.length → w.cell? ⟨b, off + j, none⟩ = some (f j)) ∧ ∀ j, j < cs.length → RelF F w (f j) (cs.getD j .undef) := by
  cases x with
  | frz h => cases h with | ref b off _ f hb hv h => exact ⟨b, off, hb, rfl, f, hv, h⟩
theorem RelV.sl_inv {sz es} (x : RelV σ F w v (.sl sz es)) : (∃ a cap, es = [] ∧ v = .slice a 0 cap) ∨
    ∃ b off cap, F true b ∧ es.length ≤ cap ∧ v = .slice (some ⟨b, off, none⟩) es.length cap ∧ (∀ i, i < es.length → (es.getD i []).length = sz) ∧
      ∃ f : Nat → Nat → Value, (∀ i j, i < es.length → j < sz → w.cell? ⟨b, off + (i * sz + j), none⟩ = some (f i j)) ∧ ∀ i j, i < es.length → j < sz → RelF F w (f i j) ((es.getD i []).getD j .undef) := by
  cases x with
  | frz h => cases h with
    | sl0 a cap _ => exact .inl ⟨a, cap, rfl, rfl⟩
    | sl b off n cap _ _ f hb hn hc hL hz hv h => subst hn; exact .inr ⟨b, off, cap, hb, hc, rfl, hz, f, hv, h⟩
end inv

/-- A block of the call's own: rows of elements (each of sz cells), or given up. -/
inductive Blk where
  | rows (T sz : Nat) (es : List (List PV))
  /-- A map from numbers, or from lists of numbers: what was laid in, in order. -/
  | map (ag : Bool) (es : List (List Int × PV))
  /-- An iterator over a map that has n entries; which were met. -/
  | iter (h n : Nat) (seen : List Nat)
  /-- An iterator over a string. -/
  | siter (s : ByteArray) (pos : Nat)
  | dead
  deriving Inhabited

/-- A key. -/
def kl (ag : Bool) : Nat := if ag then 2 else 1
def kv (ag : Bool) (l : List Int) : Value := if ag then .agg (l.map (Value.int .i64)).toArray else .int .i64 (l.getD 0 0)
def mArr (ag : Bool) (es : List (List Int × PV)) (f : Nat → Value) : Array MapEntry :=
  ((List.range es.length).map fun i => { key := kv ag (es.getD i ([], .undef)).1, val := f i, born := i }).toArray

abbrev Heap := List Blk

def BlkOk (σ : List (Nat × Nat)) (F : Fr) (w : World) (x : Nat × Nat) : Blk → Prop
  | .rows T sz es => ∃ arr : Array Value, w.heap[x.1]? = some (.cells arr T (0, 0)) ∧ arr.size = x.2 ∧ es.length * sz ≤ arr.size ∧ (∀ i, i < es.length → (es.getD i []).length = sz) ∧
      (∀ i j, i < es.length → j < sz → RelV σ F w (arr.getD (i * sz + j) Go.undef) ((es.getD i []).getD j .undef)) ∧ ¬ F true x.1
  | .map ag es => (∃ f : Nat → Value, w.heap[x.1]? = some (.map (mArr ag es f) es.length) ∧ ∀ i, i < es.length → RelV σ F w (f i) (es.getD i ([], .undef)).2 ∧ (es.getD i ([], .undef)).1.length = kl ag) ∧ ¬ F true x.1
  | .iter h n seen => (∃ y : Nat × Nat, σ[h]? = some y ∧ w.heap[x.1]? = some (.mapIter (some y.1) n seen.toArray n)) ∧ ¬ F true x.1
  | .siter s pos => w.heap[x.1]? = some (.stringIter s pos) ∧ ¬ F true x.1
  | .dead => True

theorem BlkOk.frame {σ σ' : List (Nat × Nat)} {F F' : Fr} {w w' : World} (hσ : ∀ (h : Nat) (x : Nat × Nat), σ[h]? = some x → σ'[h]? = some x) (hs : ∀ (t : Bool) b, F t b → F' t b)
    (hw : ∀ b, F true b → w'.heap[b]? = w.heap[b]?) {x : Nat × Nat} {k : Blk} (hx : k ≠ .dead → w'.heap[x.1]? = w.heap[x.1]?) (hF : k ≠ .dead → ¬ F true x.1 → ¬ F' true x.1) (h : BlkOk σ F w x k) : BlkOk σ' F' w' x k := by
  cases k with
  | dead => trivial
  | rows T sz es =>
    obtain ⟨arr, a1, a0, a2, a3, a4, a5⟩ := h
    exact ⟨arr, (hx (by simp)).trans a1, a0, a2, a3, fun i j hi hj => (a4 i j hi hj).frame hσ hs hw, hF (by simp) a5⟩
  | map ag es =>
    obtain ⟨⟨f, a1, a2⟩, a5⟩ := h
    exact ⟨⟨f, (hx (by simp)).trans a1, fun i hi => ⟨(a2 i hi).1.frame hσ hs hw, (a2 i hi).2⟩⟩, hF (by simp) a5⟩
  | iter h0 n seen =>
    obtain ⟨⟨y, a1, a2⟩, a5⟩ := h
    exact ⟨⟨y, hσ _ _ a1, (hx (by simp)).trans a2⟩, hF (by simp) a5⟩
  | siter s pos => exact ⟨(hx (by simp)).trans h.1, hF (by simp) h.2⟩
theorem BlkOk.nF {σ : List (Nat × Nat)} {F : Fr} {w : World} {x : Nat × Nat} {k : Blk} (h : BlkOk σ F w x k) (hk : k ≠ .dead) : ¬ F true x.1 := by
  cases k with
  | dead => exact absurd rfl hk
  | rows T sz es => obtain ⟨_, _, _, _, _, _, h⟩ := h; exact h
  | map ag es => exact h.2
  | iter h0 n seen => exact h.2
  | siter s pos => exact h.2

/-- The call's own memory is as H tells. B: the blocks from B on are this call's. -/
structure Ow (B : Nat) (σ : List (Nat × Nat)) (F : Fr) (w : World) (H : Heap) : Prop where
  len : σ.length = H.length
  ok : ∀ (h : Nat) (x : Nat × Nat) (k : Blk), σ[h]? = some x → H[h]? = some k → BlkOk σ F w x k
  big : ∀ (h : Nat) (x : Nat × Nat) (k : Blk), σ[h]? = some x → H[h]? = some k → k ≠ .dead → B ≤ x.1 ∧ x.1 < w.heap.size
  inj : ∀ (h h' : Nat) (x x' : Nat × Nat) (k k' : Blk), σ[h]? = some x → σ[h']? = some x' → x.1 = x'.1 → H[h]? = some k → H[h']? = some k' → k ≠ .dead → k' ≠ .dead → h = h'
  old : ∀ b, F true b → b < w.heap.size
  base : B ≤ w.heap.size

/-- What a step leaves as it was. -/
structure Ext (B m : Nat) (σ : List (Nat × Nat)) (F : Fr) (w : World) (σ' : List (Nat × Nat)) (F' : Fr) (w' : World) : Prop where
  below : Below B w w'
  sub : ∀ (t : Bool) b, F t b → F' t b
  same : ∀ b, F true b → w'.heap[b]? = w.heap[b]?
  pre : ∀ (h : Nat) (x : Nat × Nat), h < m → σ[h]? = some x → σ'[h]? = some x
  sup : ∀ (t : Bool) b, F' t b → F t b ∨ B ≤ b

theorem Ext.refl (B m : Nat) (σ : List (Nat × Nat)) (F : Fr) (w : World) : Ext B m σ F w σ F w :=
  ⟨Below.refl B w, fun _ _ h => h, fun _ _ => rfl, fun _ _ _ h => h, fun _ _ h => .inl h⟩
theorem Ext.trans {B m : Nat} {σ σ' σ'' : List (Nat × Nat)} {F F' F'' : Fr} {w w' w'' : World} (x : Ext B m σ F w σ' F' w') (y : Ext B m σ' F' w' σ'' F'' w'') : Ext B m σ F w σ'' F'' w'' :=
  ⟨x.below.trans y.below, fun t b h => y.sub t b (x.sub t b h), fun b h => (y.same b (x.sub true b h)).trans (x.same b h), fun h b hm hb => y.pre h b hm (x.pre h b hm hb), fun t b h => (y.sup t b h).elim (x.sup t b) .inr⟩

/-- A whole step: no handle is lost. -/
def Step (B : Nat) (σ : List (Nat × Nat)) (F : Fr) (w : World) (σ' : List (Nat × Nat)) (F' : Fr) (w' : World) : Prop := ∀ m, Ext B m σ F w σ' F' w'
theorem Step.rel {B : Nat} {σ σ' : List (Nat × Nat)} {F F' : Fr} {w w' : World} (x : Step B σ F w σ' F' w') {v p} (h : RelV σ F w v p) : RelV σ' F' w' v p :=
  h.frame (fun h b hb => (x (h + 1)).pre h b (by omega) hb) (x 0).sub (x 0).same
theorem Step.relF {B : Nat} {σ σ' : List (Nat × Nat)} {F F' : Fr} {w w' : World} (x : Step B σ F w σ' F' w') {v p} (h : RelF F w v p) : RelF F' w' v p :=
  h.frame (x 0).sub (x 0).same
theorem Step.refl (B : Nat) (σ : List (Nat × Nat)) (F : Fr) (w : World) : Step B σ F w σ F w := fun _ => Ext.refl ..
theorem Step.trans {B : Nat} {σ σ' σ'' : List (Nat × Nat)} {F F' F'' : Fr} {w w' w'' : World} (x : Step B σ F w σ' F' w') (y : Step B σ' F' w' σ'' F'' w'') : Step B σ F w σ'' F'' w'' := fun m => (x m).trans (y m)

theorem Ow.allocB {B : Nat} {σ : List (Nat × Nat)} {F : Fr} {w : World} {H : Heap} (hI : Ow B σ F w H) (o : Obj) (sz : Nat) (kn : Blk)
    (hkn : Step B σ F w (σ ++ [(w.heap.size, sz)]) F (w.alloc o) → ¬ F true w.heap.size → BlkOk (σ ++ [(w.heap.size, sz)]) F (w.alloc o) (w.heap.size, sz) kn) :
    Ow B (σ ++ [(w.heap.size, sz)]) F (w.alloc o) (H ++ [kn]) ∧ Step B σ F w (σ ++ [(w.heap.size, sz)]) F (w.alloc o) := by
  have hst : Step B σ F w (σ ++ [(w.heap.size, sz)]) F (w.alloc o) := fun m =>
    ⟨(Below.refl B w).alloc hI.base _, fun _ _ h => h, fun b hb => Below.heap_alloc _ _ _ (hI.old b hb), fun h b _ hb => by
      rw [List.getElem?_append_left (List.getElem?_eq_some_iff.1 hb).1]; exact hb, fun _ _ h => .inl h⟩
  have hnF : ¬ F true w.heap.size := fun hF => by have := hI.old _ hF; omega
  -- where a handle of the new list stands
  have part : ∀ (h : Nat) (x : Nat × Nat) (k : Blk), (σ ++ [(w.heap.size, sz)])[h]? = some x → (H ++ [kn])[h]? = some k →
      (h < σ.length ∧ σ[h]? = some x ∧ H[h]? = some k) ∨ (h = σ.length ∧ x = (w.heap.size, sz) ∧ k = kn) := by
    intro h x k hb hk
    by_cases hl : h < σ.length
    · rw [List.getElem?_append_left hl] at hb
      rw [List.getElem?_append_left (by rw [← hI.len]; exact hl)] at hk
      exact .inl ⟨hl, hb, hk⟩
    · have hl' : h = σ.length := by
        have := (List.getElem?_eq_some_iff.1 hb).1
        simp at this; omega
      subst hl'
      simp at hb
      rw [hI.len] at hk
      simp at hk
      exact .inr ⟨rfl, hb.symm, hk.symm⟩
  refine ⟨⟨by simp [hI.len], ?_, ?_, ?_, ?_, ?_⟩, hst⟩
  · intro h x k hb hk'
    rcases part h x k hb hk' with ⟨_, hb, hk'⟩ | ⟨_, rfl, rfl⟩
    · exact (hI.ok h x k hb hk').frame (fun i y hy => (hst (i + 1)).pre i y (by omega) hy) (fun _ _ h => h) (fun b hb => Below.heap_alloc _ _ _ (hI.old b hb)) (fun hd => Below.heap_alloc _ _ _ (hI.big h x k hb hk' hd).2) (fun _ h => h)
    · exact hkn hst hnF
  · intro h x k hb hk hd
    rcases part h x k hb hk with ⟨_, hb, hk⟩ | ⟨_, rfl, rfl⟩
    · have := hI.big h x k hb hk hd
      simp; omega
    · have := hI.base
      simp; omega
  · intro h h' x x' k k' hb hb' hx hk hk' hd hd'
    rcases part h x k hb hk with ⟨_, p1, p2⟩ | ⟨p1, p2, _⟩
    · rcases part h' x' k' hb' hk' with ⟨_, q1, q2⟩ | ⟨_, q2, _⟩
      · exact hI.inj h h' x x' k k' p1 q1 hx p2 q2 hd hd'
      · have := (hI.big h x k p1 p2 hd).2
        rw [hx, q2] at this; simp at this
    · rcases part h' x' k' hb' hk' with ⟨_, q1, q2⟩ | ⟨q1, _, _⟩
      · have := (hI.big h' x' k' q1 q2 hd').2
        rw [← hx, p2] at this; simp at this
      · rw [p1, q1]
  · intro b hb
    have := hI.old b hb
    simp; omega
  · have := hI.base
    simp; omega

theorem Ow.alloc {B : Nat} {σ : List (Nat × Nat)} {F : Fr} {w : World} {H : Heap} (hI : Ow B σ F w H) (T sz : Nat) (es : List (List PV)) (arr : Array Value)
    (h1 : es.length * sz ≤ arr.size) (h2 : ∀ i, i < es.length → (es.getD i []).length = sz)
    (h3 : ∀ i j, i < es.length → j < sz → RelV σ F w (arr.getD (i * sz + j) Go.undef) ((es.getD i []).getD j .undef)) :
    Ow B (σ ++ [(w.heap.size, arr.size)]) F (w.alloc (.cells arr T)) (H ++ [.rows T sz es]) ∧ Step B σ F w (σ ++ [(w.heap.size, arr.size)]) F (w.alloc (.cells arr T)) :=
  hI.allocB _ _ _ fun hst hnF => ⟨arr, by show (w.heap.push _)[w.heap.size]? = _; simp, rfl, h1, h2, fun i j hi hj => hst.rel (h3 i j hi hj), hnF⟩

/-- What is given up. -/
theorem Ow.kill {B : Nat} {σ : List (Nat × Nat)} {F : Fr} {w : World} {H : Heap} (hI : Ow B σ F w H) (h0 : Nat) : Ow B σ F w (H.set h0 .dead) := by
  have key : ∀ (h : Nat) (k : Blk), (H.set h0 Blk.dead)[h]? = some k → k = .dead ∨ H[h]? = some k := by
    intro h k hk
    rw [List.getElem?_set] at hk
    split at hk
    · split at hk
      · left; simpa using hk.symm
      · simp at hk
    · right; exact hk
  refine ⟨by simp [hI.len], ?_, ?_, ?_, hI.old, hI.base⟩
  · intro h b k hb hk
    rcases key h k hk with rfl | hk
    · trivial
    · exact hI.ok h b k hb hk
  · intro h b k hb hk hd
    rcases key h k hk with rfl | hk
    · exact absurd rfl hd
    · exact hI.big h b k hb hk hd
  · intro h h' x x' k k' hb hb' hx hk hk' hd hd'
    rcases key h k hk with rfl | hk
    · exact absurd rfl hd
    rcases key h' k' hk' with rfl | hk'
    · exact absurd rfl hd'
    exact hI.inj h h' x x' k k' hb hb' hx hk hk' hd hd'

/-- A world in which one of the call's own blocks reads anew. -/
theorem Ow.putB {B : Nat} {σ : List (Nat × Nat)} {F : Fr} {w w' : World} {H : Heap} (hI : Ow B σ F w H) {h0 : Nat} {x0 : Nat × Nat} {ko kn : Blk}
    (hb : σ[h0]? = some x0) (hk : H[h0]? = some ko) (hd0 : ko ≠ .dead) (hw : ∀ k, k ≠ x0.1 → w'.heap[k]? = w.heap[k]?)
    (hsz : w'.heap.size = w.heap.size) (hos : w'.os = w.os) (ht : w'.tape = w.tape) (hou : w'.output = w.output)
    (hn : Step B σ F w σ F w' → ¬ F true x0.1 → BlkOk σ F w' x0 kn) :
    Ow B σ F w' (H.set h0 kn) ∧ Step B σ F w σ F w' := by
  have hbig := hI.big h0 x0 _ hb hk hd0
  have hnF : ¬ F true x0.1 := (hI.ok h0 x0 _ hb hk).nF hd0
  have hst : Step B σ F w σ F w' := fun m =>
    ⟨⟨hos, ht, hou, by omega, fun k hk => hw k (by omega)⟩, fun _ _ h => h, fun b hF => hw b (fun e => hnF (e ▸ hF)), fun _ _ _ h => h, fun _ _ h => .inl h⟩
  have key : ∀ (h : Nat) (k : Blk), (H.set h0 kn)[h]? = some k → (h = h0 ∧ k = kn) ∨ (h ≠ h0 ∧ H[h]? = some k) := by
    intro h k hk
    rw [List.getElem?_set] at hk
    split at hk
    · split at hk
      · left; exact ⟨by omega, by simpa using hk.symm⟩
      · simp at hk
    · right; exact ⟨by omega, hk⟩
  have key2 : ∀ (h : Nat) (k : Blk), (H.set h0 kn)[h]? = some k → k ≠ .dead → ∃ k', H[h]? = some k' ∧ k' ≠ .dead := by
    intro h k hk' hd
    rcases key h k hk' with ⟨rfl, rfl⟩ | ⟨_, h⟩
    · exact ⟨_, hk, hd0⟩
    · exact ⟨_, h, hd⟩
  refine ⟨⟨by simp [hI.len], ?_, ?_, ?_, fun b h => by rw [hsz]; exact hI.old b h, by rw [hsz]; exact hI.base⟩, hst⟩
  · intro h b k hb' hk'
    rcases key h k hk' with ⟨rfl, rfl⟩ | ⟨hne, hk''⟩
    · have : b = x0 := by rw [hb] at hb'; simpa using hb'.symm
      subst this
      exact hn hst hnF
    · exact (hI.ok h b k hb' hk'').frame (fun _ _ h => h) (fun _ _ h => h) (hst 0).same (fun hd => hw b.1 fun e => hne (hI.inj h h0 b x0 _ _ hb' hb e hk'' hk hd hd0)) (fun _ h => h)
  · intro h b k hb' hk' hd
    obtain ⟨k', a, c⟩ := key2 h k hk' hd
    rw [hsz]
    exact hI.big h b k' hb' a c
  · intro h h' x x' k k' hb' hb'' hx hk' hk'' hd hd'
    obtain ⟨k1, a1, c1⟩ := key2 h k hk' hd
    obtain ⟨k2, a2, c2⟩ := key2 h' k' hk'' hd'
    exact hI.inj h h' x x' k1 k2 hb' hb'' hx a1 a2 c1 c2

theorem Ow.put {B : Nat} {σ : List (Nat × Nat)} {F : Fr} {w w' : World} {H : Heap} (hI : Ow B σ F w H) {h0 T sz : Nat} {x0 : Nat × Nat} {es es' : List (List PV)} {arr : Array Value}
    (hb : σ[h0]? = some x0) (hk : H[h0]? = some (.rows T sz es)) (hw : ∀ k, k ≠ x0.1 → w'.heap[k]? = w.heap[k]?) (hw0 : w'.heap[x0.1]? = some (.cells arr T (0, 0))) (harr : arr.size = x0.2)
    (hsz : w'.heap.size = w.heap.size) (hos : w'.os = w.os) (ht : w'.tape = w.tape) (hou : w'.output = w.output)
    (h1 : es'.length * sz ≤ arr.size) (h2 : ∀ i, i < es'.length → (es'.getD i []).length = sz)
    (h3 : ∀ i j, i < es'.length → j < sz → RelV σ F w (arr.getD (i * sz + j) Go.undef) ((es'.getD i []).getD j .undef)) :
    Ow B σ F w' (H.set h0 (.rows T sz es')) ∧ Step B σ F w σ F w' :=
  hI.putB hb hk (by simp) hw hsz hos ht hou fun hst hnF => ⟨arr, hw0, harr, h1, h2, fun i j hi hj => hst.rel (h3 i j hi hj), hnF⟩

/-- A world that is the same but for the draws. -/
theorem Ow.drew {B : Nat} {σ : List (Nat × Nat)} {F : Fr} {w w' : World} {H : Heap} (hI : Ow B σ F w H) (hh : w'.heap = w.heap) (hos : w'.os = w.os) (ht : w'.tape = w.tape) (hou : w'.output = w.output) :
    Ow B σ F w' H ∧ Step B σ F w σ F w' := by
  have hst : Step B σ F w σ F w' := fun m => ⟨⟨hos, ht, hou, by rw [hh]; omega, fun k _ => by rw [hh]⟩, fun _ _ h => h, fun b _ => by rw [hh], fun _ _ _ h => h, fun _ _ h => .inl h⟩
  exact ⟨⟨hI.len, fun h b k hb hk => (hI.ok h b k hb hk).frame (fun _ _ h => h) (fun _ _ h => h) (hst 0).same (fun _ => by rw [hh]) (fun _ h => h),
    fun h b k hb hk hd => by rw [hh]; exact hI.big h b k hb hk hd, hI.inj, fun b h => by rw [hh]; exact hI.old b h, by rw [hh]; exact hI.base⟩, hst⟩

/-- A callee's world: what was there is as it was; what is new may be frozen. -/
theorem Ow.grown {B : Nat} {σ : List (Nat × Nat)} {F : Fr} {w w' : World} {H : Heap} (hI : Ow B σ F w H) (hb : Below w.heap.size w w') :
    Ow B σ (fun t b => F t b ∨ (w.heap.size ≤ b ∧ b < w'.heap.size)) w' H ∧ Step B σ F w σ (fun t b => F t b ∨ (w.heap.size ≤ b ∧ b < w'.heap.size)) w' := by
  have hst : Step B σ F w σ (fun t b => F t b ∨ (w.heap.size ≤ b ∧ b < w'.heap.size)) w' := fun m =>
    ⟨hb.mono hI.base, fun _ _ h => .inl h, fun b h => hb.block b (hI.old b h), fun _ _ _ h => h, fun _ b h => h.elim .inl fun h => .inr (Nat.le_trans hI.base h.1)⟩
  have hsz := hb.size
  refine ⟨⟨hI.len, ?_, fun h b k hb' hk hd => ⟨(hI.big h b k hb' hk hd).1, by have := (hI.big h b k hb' hk hd).2; omega⟩, hI.inj, fun b h => ?_, by have := hI.base; omega⟩, hst⟩
  · intro h b k hb' hk
    refine (hI.ok h b k hb' hk).frame (fun _ _ h => h) (fun _ _ h => .inl h) (fun c hc => hb.block c (hI.old c hc)) (fun hd => hb.block b.1 (hI.big h b k hb' hk hd).2) (fun hd hn hF => ?_)
    have := (hI.big h b k hb' hk hd).2
    rcases hF with hF | hF
    · exact hn hF
    · omega
  · rcases h with h | h
    · have := hI.old b h; omega
    · exact h.2

end Go.Pv

namespace Go.Pv
open Go.RowKit (Below)

inductive Kn where
  | int (k : IntKind) | bool | str | slice (e : TypeId) | ptr (e : TypeId) | struct (fs : List (Nat × Nat × Bool))
  | map (k e : TypeId) | array (n : Nat) (e : TypeId) | other

structure Ty where
  sz : Nat
  agg : Bool
  zero : List PV
  bytes : Nat
  k : Kn

def aggB (P : Program) (t : TypeId) : Bool := match P.underlying t with
  | some (.struct _) => true
  | some (.array _ _) => true
  | _ => false

/-- A field's cells; 0 where its type can't be told. -/
def fszOf (P : Program) (t : TypeId) : Nat := if (P.underlying t).isSome then P.cellsOf t else 0
theorem fszOf_inv {P : Program} {t : TypeId} {n : Nat} (h : fszOf P t = n) (hn : n ≠ 0) : ∃ i d, P.info? t = some i ∧ i.size = n ∧ P.underlying t = some d := by
  unfold fszOf at h
  cases hd : P.underlying t with
  | none => simp [hd] at h; exact absurd h.symm hn
  | some d =>
    cases hi : P.info? t with
    | none => simp [hd, Program.cellsOf, hi] at h; exact absurd h.symm hn
    | some i => exact ⟨i, d, rfl, by simpa [hd, Program.cellsOf, hi] using h, rfl⟩

def knOf (P : Program) : TypeDesc → Kn
  | .int k => .int k | .bool => .bool | .string => .str | .slice e => .slice e | .pointer e => .ptr e
  | .struct fs => .struct (fs.toList.map fun f => (f.offset, fszOf P f.type, aggB P f.type))
  | .map k e => .map k e | .array n e => .array n e | _ => .other

def zeroPV (s : Nat) : Value → PV
  | .int k n => .int k n | .bool b => .bool b | .string s => if s.size ≤ lenMax then .str s else .undef | .slice none 0 0 => if s = 0 then .nil else .sl s [] | _ => .undef
/-- Zero cells; of a slice: how many cells an element has. -/
def zeroL : List Nat → List Value → List PV
  | s :: ss, v :: vs => zeroPV s v :: zeroL ss vs
  | [], v :: vs => zeroPV 0 v :: zeroL [] vs
  | _, [] => []
/-- For each cell of a type: of a slice's cell, how many cells an element has. -/
def shapeOf (P : Program) : Nat → TypeId → List Nat
  | 0, _ => []
  | n + 1, t => match P.underlying t with
    | some (.slice e) => [P.cellsOf e]
    | some (.struct fs) => fs.toList.flatMap fun f => shapeOf P n f.type
    | some (.array k e) => (List.replicate k (shapeOf P n e)).flatten
    | _ => List.replicate (P.cellsOf t) 0

/-- What is told of a type. -/
def mkTy (P : Program) (t : TypeId) : Option Ty :=
  match P.info? t, P.underlying t with
  | some i, some d => match i.zero with
    | some z => some ⟨i.size, aggB P t, zeroL (shapeOf P 8 t) z.cells.toList, i.bytes, knOf P d⟩
    | none => none
  | _, _ => none

theorem zeroPV_rel {F : Fr} {w : World} (s : Nat) (v : Value) : RelF F w v (zeroPV s v) := by
  unfold zeroPV
  split
  · exact .int _ _
  · exact .bool _
  · split
    · rename_i hs; exact .str _ hs
    · exact .undef _
  · split
    · exact .nil
    · exact .sl0 _ _ _
  · exact .undef _
theorem zeroL_length : ∀ (ss : List Nat) (vs : List Value), (zeroL ss vs).length = vs.length
  | _ :: ss, _ :: vs => by simp [zeroL, zeroL_length ss vs]
  | [], _ :: vs => by simp [zeroL, zeroL_length [] vs]
  | [], [] => rfl
  | _ :: _, [] => rfl
theorem zeroL_getD : ∀ (ss : List Nat) (vs : List Value) (j : Nat), j < vs.length → ∃ s, (zeroL ss vs).getD j .undef = zeroPV s (vs.getD j Go.undef)
  | s :: ss, v :: vs, 0, _ => ⟨s, rfl⟩
  | [], v :: vs, 0, _ => ⟨0, rfl⟩
  | s :: ss, v :: vs, j + 1, h => by
    obtain ⟨s', h'⟩ := zeroL_getD ss vs j (by simpa using h)
    exact ⟨s', by simpa [zeroL] using h'⟩
  | [], v :: vs, j + 1, h => by
    obtain ⟨s', h'⟩ := zeroL_getD [] vs j (by simpa using h)
    exact ⟨s', by simpa [zeroL] using h'⟩
  | _, [], _, h => by simp at h

theorem mkTy_inv {P : Program} {t : TypeId} {r : Ty} (h : mkTy P t = some r) : ∃ i d z, P.info? t = some i ∧ P.underlying t = some d ∧ i.zero = some z ∧ r = ⟨i.size, aggB P t, zeroL (shapeOf P 8 t) z.cells.toList, i.bytes, knOf P d⟩ := by
  unfold mkTy at h
  split at h
  · rename_i i d hi hd
    split at h
    · rename_i z hz
      exact ⟨i, d, z, hi, hd, hz, by simpa using h.symm⟩
    · simp at h
  · simp at h

section runs
variable {P : Program} {t : TypeId} {r : Ty} (h : mkTy P t = some r) (w : World)
include h
theorem run_sizeOfT : (sizeOf t).run P w = .ok r.sz w := by
  obtain ⟨i, d, z, hi, hd, hz, rfl⟩ := mkTy_inv h
  simp [sizeOf, typeInfo, hi]
theorem run_isAggT : (isAgg t).run P w = .ok r.agg w := by
  obtain ⟨i, d, z, hi, hd, hz, rfl⟩ := mkTy_inv h
  simp only [isAgg, Sem.run_bind, run_underlying hd, Result.andThen_ok, aggB, hd]
  cases d <;> rfl
theorem run_zeroT : ∃ z, (zeroValue t).run P w = .ok z w ∧ zeroL (shapeOf P 8 t) z.cells.toList = r.zero := by
  obtain ⟨i, d, z, hi, hd, hz, rfl⟩ := mkTy_inv h
  exact ⟨z, by simp [zeroValue, typeInfo, hi, hz], rfl⟩
theorem run_bytesT : ∃ i, (typeInfo t).run P w = .ok i w ∧ i.bytes = r.bytes ∧ i.size = r.sz := by
  obtain ⟨i, d, z, hi, hd, hz, rfl⟩ := mkTy_inv h
  exact ⟨i, by simp [typeInfo, hi], rfl, rfl⟩
theorem cellsOfT : P.cellsOf t = r.sz := by
  obtain ⟨i, d, z, hi, hd, hz, rfl⟩ := mkTy_inv h
  simp [Program.cellsOf, hi]
theorem aggOfT : aggB P t = r.agg := by
  obtain ⟨i, d, z, hi, hd, hz, rfl⟩ := mkTy_inv h
  rfl
theorem underT : ∃ d, P.underlying t = some d ∧ knOf P d = r.k := by
  obtain ⟨i, d, z, hi, hd, hz, rfl⟩ := mkTy_inv h
  exact ⟨d, hd, rfl⟩
end runs

theorem under_slice {P : Program} {t e : TypeId} {r : Ty} (h : mkTy P t = some r) (hk : r.k = .slice e) : P.underlying t = some (.slice e) := by
  obtain ⟨d, hd, hk'⟩ := underT h
  rw [hk] at hk'
  cases d <;> simp [knOf] at hk'
  subst hk'; exact hd
theorem under_str {P : Program} {t : TypeId} {r : Ty} (h : mkTy P t = some r) (hk : r.k = .str) : P.underlying t = some .string := by
  obtain ⟨d, hd, hk'⟩ := underT h
  rw [hk] at hk'
  cases d <;> simp [knOf] at hk'
  exact hd
theorem under_bool {P : Program} {t : TypeId} {r : Ty} (h : mkTy P t = some r) (hk : r.k = .bool) : P.underlying t = some .bool := by
  obtain ⟨d, hd, hk'⟩ := underT h
  rw [hk] at hk'
  cases d <;> simp [knOf] at hk'
  exact hd
theorem under_struct {P : Program} {t : TypeId} {r : Ty} {l : List (Nat × Nat × Bool)} (h : mkTy P t = some r) (hk : r.k = .struct l) :
    ∃ fs : Array Field, P.underlying t = some (.struct fs) ∧ fs.toList.map (fun f => (f.offset, fszOf P f.type, aggB P f.type)) = l := by
  obtain ⟨d, hd, hk'⟩ := underT h
  rw [hk] at hk'
  cases d <;> simp [knOf] at hk'
  exact ⟨_, hd, hk'⟩

def cellsP : PV → List PV
  | .agg cs => cs
  | p => [p]
def cellB : PV → Bool
  | .agg _ | .tup _ | .undef => false
  | _ => true
def valP (r : Ty) (cs : List PV) : PV := if r.agg then .agg (cs.take r.sz) else cs.getD 0 .undef

mutual
/-- No handle occurs. -/
def hf : PV → Bool
  | .agg cs => hfL cs | .tup cs => hfL cs | .clo _ cs => hfL cs
  | .ptr .. => false | .own .. => false | .mp _ => false
  | _ => true
def hfL : List PV → Bool
  | [] => true
  | p :: r => hf p && hfL r
end
mutual
/-- It leads to no memory. -/
def scal : PV → Bool
  | .int .. => true | .bool _ => true | .str _ => true | .nil => true | .undef => true
  | .agg cs => scalL cs | .tup cs => scalL cs
  | _ => false
def scalL : List PV → Bool
  | [] => true
  | p :: r => scal p && scalL r
end

theorem hfL_getD {ps : List PV} (h : hfL ps = true) (i : Nat) (hi : i < ps.length) : hf (ps.getD i .undef) = true := by
  induction ps generalizing i with
  | nil => simp at hi
  | cons p r ih =>
    simp only [hfL, Bool.and_eq_true] at h
    cases i with
    | zero => simpa using h.1
    | succ i => simpa using ih h.2 i (by simpa using hi)
theorem scalL_getD {ps : List PV} (h : scalL ps = true) (i : Nat) (hi : i < ps.length) : scal (ps.getD i .undef) = true := by
  induction ps generalizing i with
  | nil => simp at hi
  | cons p r ih =>
    simp only [scalL, Bool.and_eq_true] at h
    cases i with
    | zero => simpa using h.1
    | succ i => simpa using ih h.2 i (by simpa using hi)

theorem RelV.toF {σ : List (Nat × Nat)} {F : Fr} {w : World} {v : Value} {p : PV} (h : RelV σ F w v p) (hp : hf p = true) : RelF F w v p := by
  induction h with
  | frz h => exact h
  | ptr => simp [hf] at hp
  | own => simp [hf] at hp
  | mp => simp [hf] at hp
  | agg cs ps hn _ ih => exact .agg cs ps hn fun i hi => ih i hi (hfL_getD (by simpa [hf] using hp) i hi)
  | tup cs ps hn _ ih => exact .tup cs ps hn fun i hi => ih i hi (hfL_getD (by simpa [hf] using hp) i hi)
  | clo f cs ps hn _ ih => exact .clo f cs ps hn fun i hi => ih i hi (hfL_getD (by simpa [hf] using hp) i hi)

theorem RelF.scal {F F' : Fr} {w w' : World} {v : Value} {p : PV} (h : RelF F w v p) (hp : scal p = true) : RelF F' w' v p := by
  induction h with
  | int k n => exact .int k n
  | bool b => exact .bool b
  | str s hs => exact .str s hs
  | nil => exact .nil
  | undef v => exact .undef v
  | sl0 => simp [Pv.scal] at hp
  | sl => simp [Pv.scal] at hp
  | fs0 => simp [Pv.scal] at hp
  | fs => simp [Pv.scal] at hp
  | ref => simp [Pv.scal] at hp
  | clo => simp [Pv.scal] at hp
  | agg cs ps hn _ ih => exact .agg cs ps hn fun i hi => ih i hi (scalL_getD (by simpa [Pv.scal] using hp) i hi)
  | tup cs ps hn _ ih => exact .tup cs ps hn fun i hi => ih i hi (scalL_getD (by simpa [Pv.scal] using hp) i hi)

theorem RelV.one {σ : List (Nat × Nat)} {F : Fr} {w : World} {v : Value} {p : PV} (h : RelV σ F w v p) (hp : cellB p = true) : v.oneCell' = true := by
  cases h with
  | frz h => cases h <;> first | rfl | simp [cellB] at hp
  | _ => first | rfl | simp [cellB] at hp

theorem cells_of_one {v : Value} (h : v.oneCell' = true) : v.cells = #[v] := by cases v <;> first | rfl | simp [Value.oneCell'] at h

theorem RelV.cells {σ : List (Nat × Nat)} {F : Fr} {w : World} {v : Value} {p : PV} (h : RelV σ F w v p) (hp : (cellsP p).all cellB = true) :
    v.cells.size = (cellsP p).length ∧ ∀ i, i < (cellsP p).length → RelV σ F w (v.cells.getD i Go.undef) ((cellsP p).getD i .undef) ∧ (v.cells.getD i Go.undef).oneCell' = true := by
  have one : cellB p = true → cellsP p = [p] → v.cells.size = (cellsP p).length ∧ ∀ i, i < (cellsP p).length → RelV σ F w (v.cells.getD i Go.undef) ((cellsP p).getD i .undef) ∧ (v.cells.getD i Go.undef).oneCell' = true := by
    intro hc he
    have h1 := h.one hc
    rw [cells_of_one h1, he]
    refine ⟨by simp, fun i hi => ?_⟩
    obtain rfl : i = 0 := by simpa using hi
    exact ⟨by simpa using h, by simpa using h1⟩
  cases p with
  | agg ps =>
    obtain ⟨cs, rfl, hn, hr⟩ := h.agg_inv
    refine ⟨hn, fun i hi => ⟨hr i hi, ?_⟩⟩
    refine (hr i hi).one ?_
    simp only [cellsP, List.all_eq_true] at hp
    exact hp _ (by simp only [cellsP] at hi; simp [List.getD, hi])
  | tup => simp [cellsP, cellB] at hp
  | undef => simp [cellsP, cellB] at hp
  | _ => exact one rfl rfl

def Enter (P : Program) (f : FuncId) : Prop := ∃ fn, P.funcs[f]? = some fn ∧ (fn.name == "runtime.NumGoroutine") = false ∧ fn.body.isNone = false

def PC (P : Program) (f : FuncId) (args : List PV) (r : PV) : Prop :=
  Enter P f ∧ ∀ (F : Fr) (w : World) (vs : Array Value), (∀ b, F true b → b < w.heap.size) → vs.size = args.length →
    (∀ i, i < args.length → RelF F w (vs.getD i Go.undef) (args.getD i .undef)) →
    Calls P f vs w fun e w' => ∃ v, e = .returned v ∧ RelF (fun t b => F t b ∨ (w.heap.size ≤ b ∧ b < w'.heap.size)) w' v r ∧ Below w.heap.size w w'

/-- A value of the call's own, as a frozen one. -/
def expo (c : Nat → List (List PV) → PV) (H : Heap) : Nat → PV → PV
  | 0, _ => .undef
  | n + 1, .agg cs => .agg (cs.map (expo c H n))
  | n + 1, .tup cs => .tup (cs.map (expo c H n))
  | n + 1, .clo f cs => .clo f (cs.map (expo c H n))
  | n + 1, .own h sz a len => match H[h]? with
    | some (.rows _ sz' es) => if sz' = sz ∧ a + len ≤ es.length then c sz (((es.drop a).take len).map fun e => e.map (expo c H n)) else .undef
    | _ => .undef
  | n + 1, .ptr h sz i off => match H[h]? with
    | some (.rows _ sz' es) => if sz' = sz ∧ i < es.length then .ref (((es.getD i []).drop off).map (expo c H n)) else .undef
    | _ => .undef
  | _ + 1, .mp _ => .undef
  | _ + 1, p => p

/-- F, and the call's own blocks. -/
def Live (σ : List (Nat × Nat)) (F : Fr) (H : Heap) : Fr := fun t b => F t b ∨ ∃ (h : Nat) (x : Nat × Nat) (k : Blk), σ[h]? = some x ∧ x.1 = b ∧ H[h]? = some k ∧ k ≠ Blk.dead

theorem getD_map_lt {α β : Type} (f : α → β) (l : List α) (i : Nat) (d : α) (d' : β) (hi : i < l.length) : (l.map f).getD i d' = f (l.getD i d) := by
  simp [List.getD, hi]

/-- How own rows are told: as rows, or as new rows. -/
def RowK (c : Nat → List (List PV) → PV) : Prop := ∀ (F : Fr) (w : World) (b off n cap sz : Nat) (es : List (List PV)) (v : Nat → Nat → Value), F true b → F false b → (∃ arr T, w.heap[b]? = some (.cells arr T (0, 0))) → es.length = n → n ≤ cap → n ≤ lenMax →
    (∀ i, i < n → (es.getD i []).length = sz) → (∀ i j, i < n → j < sz → w.cell? ⟨b, off + (i * sz + j), none⟩ = some (v i j)) →
    (∀ i j, i < n → j < sz → RelF F w (v i j) ((es.getD i []).getD j .undef)) → RelF F w (.slice (some ⟨b, off, none⟩) n cap) (c sz es)
theorem rowK_sl : RowK .sl := fun _ _ b off n cap sz es v h1 _ _ h3 h4 h5 h6 h7 h8 => .sl b off n cap sz es v h1 h3 h4 h5 h6 h7 h8
theorem rowK_fs : RowK .fs := fun _ _ b off n cap sz es v h1 h2 ha h3 h4 h5 h6 h7 h8 => .fs b off n cap sz es v h1 h2 ha h3 h4 h5 h6 h7 h8

theorem expo_rel {B : Nat} {σ : List (Nat × Nat)} {F : Fr} {w : World} {H : Heap} (hI : Ow B σ F w H) {c : Nat → List (List PV) → PV} (hc : RowK c) (n : Nat) :
    ∀ {v p}, RelV σ F w v p → RelF (Live σ F H) w v (expo c H n p) := by
  induction n with
  | zero => intro v p _; exact .undef _
  | succ n ih =>
    intro v p h
    have up : RelF F w v p → RelF (Live σ F H) w v p := fun h => h.frame (fun _ _ hb => Or.inl hb) (fun _ _ => rfl)
    have many : ∀ (cs : Array Value) (ps : List PV), (∀ i, i < ps.length → RelV σ F w (cs.getD i Go.undef) (ps.getD i .undef)) →
        ∀ i, i < (ps.map (expo c H n)).length → RelF (Live σ F H) w (cs.getD i Go.undef) ((ps.map (expo c H n)).getD i .undef) := by
      intro cs ps hr i hi
      rw [getD_map_lt _ _ _ .undef _ (by simpa using hi)]
      exact ih (hr i (by simpa using hi))
    cases p with
    | agg ps => obtain ⟨cs, rfl, hn, hr⟩ := h.agg_inv; exact .agg cs _ (by simpa using hn) (many cs ps hr)
    | tup ps => obtain ⟨cs, rfl, hn, hr⟩ := h.tup_inv; exact .tup cs _ (by simpa using hn) (many cs ps hr)
    | clo f ps => obtain ⟨cs, rfl, hn, hr⟩ := h.clo_inv; exact .clo f cs _ (by simpa using hn) (many cs ps hr)
    | mp => exact .undef _
    | own h0 sz a len =>
      obtain ⟨x, cap, hb, hcp, rfl, _⟩ := h.own_inv
      simp only [expo]
      split
      · rename_i T sz' es hk
        split
        · rename_i hh
          obtain ⟨rfl, hle⟩ := hh
          obtain ⟨arr, a1, a0, a2, a3, a4, a5⟩ := hI.ok h0 x _ hb hk
          have hL : ∀ t, Live σ F H t x.1 := fun t => Or.inr ⟨h0, x, _, hb, rfl, hk, by simp⟩
          have hlm : len ≤ lenMax := h.own_len
          have hlen : (((es.drop a).take len).map fun e => e.map (expo c H n)).length = len := by simp; omega
          have hel : ∀ i, i < len → ((((es.drop a).take len).map fun e => e.map (expo c H n)).getD i []) = (es.getD (a + i) []).map (expo c H n) := by
            intro i hi
            rw [getD_map_lt _ _ _ [] _ (by simp; omega)]
            congr 1
            simp only [List.getD, List.getElem?_take, List.getElem?_drop, if_pos hi]
          have hidx : ∀ i j, i < len → j < sz' → (a + i) * sz' + j < arr.size := by
            intro i j hi hj
            have : (a + i + 1) * sz' ≤ es.length * sz' := Nat.mul_le_mul_right _ (by omega)
            have e : (a + i + 1) * sz' = (a + i) * sz' + sz' := by rw [Nat.succ_mul]
            omega
          refine hc (Live σ F H) w x.1 (a * sz') len cap sz' _ (fun i j => arr.getD ((a + i) * sz' + j) Go.undef) (hL true) (hL false) ⟨arr, _, a1⟩ hlen hcp hlm ?_ ?_ ?_
          · intro i hi
            rw [hel i hi]
            simpa using a3 (a + i) (by omega)
          · intro i j hi hj
            have := hidx i j hi hj
            simp only [World.cell?, a1]
            have e : a * sz' + (i * sz' + j) = (a + i) * sz' + j := by rw [Nat.add_mul]; omega
            simp [e, this]
          · intro i j hi hj
            rw [hel i hi, getD_map_lt _ _ _ .undef _ (by rw [a3 (a + i) (by omega)]; exact hj)]
            exact ih (a4 (a + i) j (by omega) hj)
        · exact .undef _
      · exact .undef _
    | ptr h0 sz i off =>
      obtain ⟨x, hb, rfl⟩ := h.ptr_inv
      simp only [expo]
      split
      · rename_i T sz' es hk
        split
        · rename_i hh
          obtain ⟨rfl, hle⟩ := hh
          obtain ⟨arr, a1, a0, a2, a3, a4, a5⟩ := hI.ok h0 x _ hb hk
          have hL : ∀ t, Live σ F H t x.1 := fun t => Or.inr ⟨h0, x, _, hb, rfl, hk, by simp⟩
          have hl := a3 i hle
          refine .ref x.1 (i * sz' + off) _ (fun j => arr.getD (i * sz' + (off + j)) Go.undef) (hL true) ?_ ?_
          · intro j hj
            simp at hj
            have : (i + 1) * sz' ≤ es.length * sz' := Nat.mul_le_mul_right _ (by omega)
            have e : (i + 1) * sz' = i * sz' + sz' := by rw [Nat.succ_mul]
            have hlt : i * sz' + (off + j) < arr.size := by simp only [List.getD] at hl; omega
            simp only [World.cell?, a1]
            simp [Nat.add_assoc, hlt]
          · intro j hj
            simp at hj
            rw [getD_map_lt _ _ _ .undef _ (by simpa using hj)]
            have := a4 i (off + j) hle (by simp only [List.getD] at hl; omega)
            have e : ((es.getD i []).drop off).getD j .undef = (es.getD i []).getD (off + j) .undef := by simp [List.getD, List.getElem?_drop]
            rw [e]
            exact ih this
        · exact .undef _
      · exact .undef _
    | int k m => rw [h.int_inv]; exact .int k m
    | bool b => rw [h.bool_inv]; exact .bool b
    | str s => cases h with | frz h => exact up h
    | nil => rw [h.nil_inv]; exact .nil
    | undef => exact .undef _
    | sl sz es => cases h with | frz h => exact up h
    | fs sz es => cases h with | frz h => exact up h
    | ref cs => cases h with | frz h => exact up h

end Go.Pv

namespace Go.Pv
open Go.RowKit (Below)

def concV : PV → Option Value
  | .int k n => some (.int k n) | .bool b => some (.bool b) | .str s => some (.string s) | _ => none
def concL : List PV → Option (List Value)
  | [] => some []
  | p :: r => match concV p, concL r with | some v, some vs => some (v :: vs) | _, _ => none

/-- '==' of two structs whose cells are numbers, bools and strings. -/
def EqOk (P : Program) (t : TypeId) (xs ys : List PV) (r : Bool) : Prop :=
  P.eqGuardType P.depth t = false ∧ ∃ us vs, concL xs = some us ∧ concL ys = some vs ∧ ∀ w, (Op.equal t (.agg us.toArray) (.agg vs.toArray)).run P w = .ok r w

def arithP (op : BinOp) (k : IntKind) (a b : Int) : Option PV :=
  match op with
  | .add => some (.int k (k.wrap (a + b)))
  | .sub => some (.int k (k.wrap (a - b)))
  | .mul => some (.int k (k.wrap (a * b)))
  | .quo => some (.int k (k.wrap (a.tdiv b)))
  | .rem => some (.int k (a.tmod b))
  | .eql => some (.bool (a == b))
  | .neq => some (.bool (a != b))
  | .lss => some (.bool (decide (a < b)))
  | .leq => some (.bool (decide (a ≤ b)))
  | .gtr => some (.bool (decide (a > b)))
  | .geq => some (.bool (decide (a ≥ b)))
  | _ => none
def divB : BinOp → Bool | .quo => true | .rem => true | _ => false

def strP (op : BinOp) (a b : ByteArray) : Option PV :=
  match op with
  | .eql => some (.bool (a.toList == b.toList))
  | .neq => some (.bool (!(a.toList == b.toList)))
  | .lss => some (.bool (Op.bytesLess a.toList b.toList))
  | .leq => some (.bool (Op.bytesLess a.toList b.toList || a.toList == b.toList))
  | .gtr => some (.bool (!(Op.bytesLess a.toList b.toList || a.toList == b.toList)))
  | .geq => some (.bool (!(Op.bytesLess a.toList b.toList)))
  | _ => none

/-- Cells written over others, from a place on. -/
def splice (l : List PV) (off : Nat) (vs : List PV) : List PV := l.take off ++ vs ++ l.drop (off + vs.length)

/-- A byte of a string. -/
def bt (s : ByteArray) (i : Int) : Int := ((s.data.toList.getD i.toNat 0).toNat : Int)

/-- The elements that a slice has, if it is read. -/
def readSl (H : Heap) (sz : Nat) : PV → Option (List (List PV))
  | .nil => some []
  | .sl sz' es => if sz' = sz then some es else none
  | .own h sz' a len => match H[h]? with
    | some (.rows _ sz'' es) => if sz' = sz ∧ sz'' = sz ∧ a + len ≤ es.length then some ((es.drop a).take len) else none
    | _ => none
  | _ => none

/-- The parts of a struct laid over its zero value. -/
def buildP (fs : List (Nat × Nat × Bool)) (cells : List PV) : List (Nat × PV) → Option (List PV)
  | [] => some cells
  | (i, p) :: rest => match fs[i]? with
    | some (off, size, _) => if (cellsP p).length = size ∧ off + size ≤ cells.length ∧ (cellsP p).all cellB = true then buildP fs (splice cells off (cellsP p)) rest else none
    | none => none

/-- An operation's step, by what it leaves. -/
def StepOk (P : Program) (o : Oper) (a : Act) (w : World) (R : Value → World → Prop) : Prop :=
  ∀ next Q, (∀ v w', R v w' → next (a.put o.dst v) w') → o.wp P a w next Q

theorem StepOk.value {P : Program} {o : Oper} {a : Act} {w w' : World} {v : Value} {R : Value → World → Prop} (h : (execOp a.eval o).run P w = .ok (.value v) w') (hR : R v w') : StepOk P o a w R := by
  intro next Q hn
  unfold Oper.wp
  rw [h]
  exact hn v w' hR
theorem StepOk.skip {P : Program} {o : Oper} {a : Act} {w w' : World} {R : Value → World → Prop} (h : (execOp a.eval o).run P w = .ok .skip w') (hR : R undef w') : StepOk P o a w R := by
  intro next Q hn
  unfold Oper.wp
  rw [h]
  exact hn _ w' hR
theorem StepOk.enter {P : Program} {o : Oper} {a : Act} {w w' : World} {f : FuncId} {args : Array Value} {R : Value → World → Prop} (h : (execOp a.eval o).run P w = .ok (.enter f args) w')
    (hc : Calls P f args w' fun e w'' => ∃ v, e = .returned v ∧ R v w'') : StepOk P o a w R := by
  intro next Q hn
  unfold Oper.wp
  rw [h]
  refine Calls.mono hc ?_
  rintro e w'' ⟨v, rfl, hR⟩
  exact hn v w'' hR

/-- Operations that write nothing that is there. -/
def quietB : Op → Bool
  | .alloc _ | .box .. | .store .. | .makeSlice .. | .buildSlice .. | .makeMap .. | .mapEntry .. | .entryStore .. | .mapUpdate .. | .insert .. | .range .. | .next .. => false
  | .call cl => match cl.callee with
    | .value _ => true
    | .builtin .len => true
    | _ => false
  | _ => true

/-- What a quiet step leaves. -/
def Qt (σ : List (Nat × Nat)) (F : Fr) (w : World) (σ' : List (Nat × Nat)) (F' : Fr) (w' : World) : Prop :=
  σ' = σ ∧ ((F' = F ∧ w' = w) ∨ (Below w.heap.size w w' ∧ F' = fun t b => F t b ∨ (w.heap.size ≤ b ∧ b < w'.heap.size)))

/-- Operations that make a block of zero values, and nothing else. -/
def newB : Op → Bool
  | .alloc _ | .makeSlice .. => true
  | _ => false
def Nw (σ : List (Nat × Nat)) (F : Fr) (w : World) (σ' : List (Nat × Nat)) (F' : Fr) (w' : World) : Prop :=
  ∃ x, σ' = σ ++ [x] ∧ w.heap.size ≤ x.1 ∧ Below w.heap.size w w' ∧ F' = F
/-- Operations that make a block, and nothing else. -/
def nwB : Op → Bool
  | .alloc _ | .makeSlice .. | .buildSlice .. => true
  | _ => false
theorem nwB_of {op : Op} (h : newB op = true) : nwB op = true := by
  cases op <;> simp [newB] at h <;> rfl
/-- What else an operation of a kind leaves. -/
def Tl (op : Op) (σ : List (Nat × Nat)) (F : Fr) (w : World) (σ' : List (Nat × Nat)) (F' : Fr) (w' : World) : Prop :=
  (quietB op = true → Qt σ F w σ' F' w') ∧ (nwB op = true → Nw σ F w σ' F' w')
theorem Tl.none {op : Op} {σ : List (Nat × Nat)} {F : Fr} {w : World} {σ' : List (Nat × Nat)} {F' : Fr} {w' : World} (h1 : quietB op = false) (h2 : nwB op = false) : Tl op σ F w σ' F' w' :=
  ⟨(fun h => by rw [h1] at h; cases h), (fun h => by rw [h2] at h; cases h)⟩
theorem Tl.new {op : Op} {σ : List (Nat × Nat)} {F : Fr} {w w' : World} (h1 : quietB op = false) {x : Nat × Nat} (hx : w.heap.size ≤ x.1) (hb : Below w.heap.size w w') : Tl op σ F w (σ ++ [x]) F w' :=
  ⟨(fun h => by rw [h1] at h; cases h), fun _ => ⟨x, rfl, hx, hb, rfl⟩⟩

/-- What a step over pure values tells of the machine's. -/
def Sound (P : Program) (op : Op) (ps : List PV) (H : Heap) (p : PV) (H' : Heap) : Prop :=
  ∀ (B : Nat) (σ : List (Nat × Nat)) (F : Fr) (w : World) (a : Act) (o : Oper), o.op = op → Ow B σ F w H → ps.length = op.operands.size →
    (∀ i, i < ps.length → RelV σ F w (a.eval (op.operands.getD i default)) (ps.getD i .undef)) →
    StepOk P o a w fun v w' => ∃ σ' F', Ow B σ' F' w' H' ∧ Step B σ F w σ' F' w' ∧ RelV σ' F' w' v p ∧ Tl op σ F w σ' F' w'

theorem Sound.val {P : Program} {op : Op} {ps : List PV} {H : Heap} {p : PV}
    (h : ∀ (σ : List (Nat × Nat)) (F : Fr) (w : World) (a : Act) (o : Oper) B, o.op = op → Ow B σ F w H → ps.length = op.operands.size →
      (∀ i, i < ps.length → RelV σ F w (a.eval (op.operands.getD i default)) (ps.getD i .undef)) → ∃ v, (execOp a.eval o).run P w = .ok (.value v) w ∧ RelV σ F w v p) (hq : nwB op = false := by rfl) : Sound P op ps H p H := by
  intro B σ F w a o ho hI hn hr
  obtain ⟨v, hv, hp⟩ := h σ F w a o B ho hI hn hr
  exact .value hv ⟨σ, F, hI, Step.refl B σ F w, hp, fun _ => ⟨rfl, .inl ⟨rfl, rfl⟩⟩, fun h => by rw [hq] at h; cases h⟩

theorem concV_rel {σ : List (Nat × Nat)} {F : Fr} {w : World} {v u : Value} {p : PV} (h : RelV σ F w v p) (hc : concV p = some u) : v = u := by
  cases p <;> simp [concV] at hc
  · rw [h.int_inv]; exact hc
  · rw [h.bool_inv]; exact hc
  · rw [h.str_inv]; exact hc

theorem concL_rel {σ : List (Nat × Nat)} {F : Fr} {w : World} : ∀ {ps : List PV} {cs : List Value} {us : List Value}, cs.length = ps.length →
    (∀ i, i < ps.length → RelV σ F w (cs.getD i Go.undef) (ps.getD i .undef)) → concL ps = some us → cs = us
  | [], [], us, _, _, hc => by simpa [concL] using hc
  | [], _ :: _, us, hl, _, _ => by simp at hl
  | _ :: _, [], us, hl, _, _ => by simp at hl
  | p :: ps, c :: cs, us, hl, hr, hc => by
    unfold concL at hc
    split at hc
    · rename_i v vs hv hvs
      have h0 := concV_rel (by simpa using hr 0 (by simp)) hv
      have := concL_rel (cs := cs) (ps := ps) (by simpa using hl) (fun i hi => by simpa using hr (i + 1) (by simpa using hi)) hvs
      simp at hc
      rw [h0, this, ← hc]
    · simp at hc

section ops
variable {P : Program}

theorem sound_move (x : Operand) (H : Heap) (p : PV) : Sound P (.move x) [p] H p H :=
  Sound.val fun σ F w a o B ho _ _ hr => ⟨a.eval x, by simp [execOp, ho], by have := hr 0 (by simp); simpa [Op.operands] using this⟩
theorem sound_assign (x : Operand) (H : Heap) (p : PV) : Sound P (.assign x) [p] H p H :=
  Sound.val fun σ F w a o B ho _ _ hr => ⟨a.eval x, by simp [execOp, ho], by have := hr 0 (by simp); simpa [Op.operands] using this⟩

theorem run_newRow (w : World) (e : TypeId) (cs : Array Value) : (newRow e cs).run P w = .ok ⟨w.heap.size, 0, none⟩ (w.alloc (.cells cs e)) := by
  rfl

theorem sound_alloc {e : TypeId} {r : Ty} (h : mkTy P e = some r) (hz : r.zero.length = r.sz) (H : Heap) : Sound P (.alloc e) [] H (.ptr H.length r.sz 0 0) (H ++ [.rows e r.sz [r.zero]]) := by
  intro B σ F w a o ho hI _ _
  obtain ⟨z, hz1, hz2⟩ := run_zeroT h w
  have hl : z.cells.size = r.sz := by rw [← hz, ← hz2]; simp [zeroL_length]
  obtain ⟨h1, h2⟩ := hI.alloc e r.sz [r.zero] z.cells (by simp; omega) (by intro i hi; obtain rfl : i = 0 := (by simpa using hi); simpa using hz) (by
    intro i j hi hj
    obtain rfl : i = 0 := by simpa using hi
    refine .frz ?_
    have hj2 : j < z.cells.size := by omega
    obtain ⟨s, hs⟩ := zeroL_getD (shapeOf P 8 e) z.cells.toList j (by simpa using hj2)
    have e1 : ([r.zero].getD 0 []).getD j .undef = zeroPV s (z.cells.getD j Go.undef) := by
      rw [← hz2]
      simpa [List.getD, Array.getD, hj2] using hs
    rw [e1]
    simpa using zeroPV_rel s (z.cells.getD j Go.undef))
  refine .value (v := .pointer (some ⟨w.heap.size, 0, none⟩)) (w' := w.alloc (.cells z.cells e)) ?_ ⟨_, _, h1, h2, ?_, .new rfl (Nat.le_refl _) ((Below.refl _ _).alloc (Nat.le_refl _) _)⟩
  · simp [execOp, ho, Instr.alloc, hz1, newVar, run_newRow]
  · have := RelV.ptr (σ := σ ++ [(w.heap.size, z.cells.size)]) (F := F) (w := w.alloc (.cells z.cells e)) H.length r.sz 0 0 (w.heap.size, z.cells.size) (by rw [← hI.len]; simp)
    simpa using this

theorem sound_box {e : TypeId} {r : Ty} (x : Operand) (p : PV) (hl : (cellsP p).length = r.sz) (hc : (cellsP p).all cellB = true) (H : Heap) :
    Sound P (.box e x) [p] H (.ptr H.length r.sz 0 0) (H ++ [.rows e r.sz [cellsP p]]) := by
  intro B σ F w a o ho hI _ hr
  have hx : RelV σ F w (a.eval x) p := by have := hr 0 (by simp); simpa [Op.operands] using this
  obtain ⟨c1, c2⟩ := hx.cells hc
  obtain ⟨h1, h2⟩ := hI.alloc e r.sz [cellsP p] (a.eval x).cells (by simp; omega) (by intro i hi; obtain rfl : i = 0 := (by simpa using hi); simpa using hl) (by
    intro i j hi hj
    obtain rfl : i = 0 := by simpa using hi
    simpa using (c2 j (by omega)).1)
  refine .value (v := .pointer (some ⟨w.heap.size, 0, none⟩)) (w' := w.alloc (.cells (a.eval x).cells e)) ?_ ⟨_, _, h1, h2, ?_, .none rfl rfl⟩
  · simp [execOp, ho, Instr.box, newVar, run_newRow]
  · have := RelV.ptr (σ := σ ++ [(w.heap.size, (a.eval x).cells.size)]) (F := F) (w := w.alloc (.cells (a.eval x).cells e)) H.length r.sz 0 0 (w.heap.size, (a.eval x).cells.size) (by rw [← hI.len]; simp)
    simpa using this

end ops
end Go.Pv

namespace Go.Pv
open Go.RowKit (Below)
variable {P : Program}

theorem add_none (b off n : Nat) : (⟨b, off, none⟩ : Addr).add n = ⟨b, off + n, none⟩ := by
  unfold Addr.add; split <;> simp_all

/-- Reading cells that relate to pure ones. -/
theorem run_loadVarP {t : TypeId} {r : Ty} (h : mkTy P t = some r) (w : World) (b off : Nat) (f : Nat → Value) (n : Nat) (hn : r.sz ≤ n) (h1 : r.agg = false → r.sz = 1)
    (hc : ∀ j, j < n → w.cell? ⟨b, off + j, none⟩ = some (f j)) :
    ∃ v, (loadVar t ⟨b, off, none⟩).run P w = .ok v w ∧ ((r.agg = true ∧ v = .agg ((List.range r.sz).map f).toArray) ∨ (r.agg = false ∧ v = f 0)) := by
  cases ha : r.agg with
  | true =>
    refine ⟨.agg ((List.range r.sz).map f).toArray, ?_, .inl ⟨rfl, rfl⟩⟩
    have hl := run_loadCells (P := P) w ⟨b, off, none⟩ r.sz f (fun j hj => by rw [add_none]; exact hc j (by omega))
    simp [loadVar, run_isAggT h, ha, run_sizeOfT h, hl]
  | false =>
    refine ⟨f 0, ?_, .inr ⟨rfl, rfl⟩⟩
    have h0 := hc 0 (by have := h1 ha; omega)
    simp only [Nat.add_zero] at h0
    simp [loadVar, run_isAggT h, ha, run_load, h0]

theorem rel_loaded {σ : List (Nat × Nat)} {F : Fr} {w : World} {r : Ty} {v : Value} {cs : List PV} {f : Nat → Value} (hn : r.sz ≤ cs.length) (h1 : r.agg = false → r.sz = 1)
    (hr : ∀ j, j < cs.length → RelV σ F w (f j) (cs.getD j .undef))
    (hv : (r.agg = true ∧ v = .agg ((List.range r.sz).map f).toArray) ∨ (r.agg = false ∧ v = f 0)) : RelV σ F w v (valP r cs) := by
  unfold valP
  rcases hv with ⟨ha, rfl⟩ | ⟨ha, rfl⟩
  · rw [if_pos ha]
    refine .agg _ _ (by simp; omega) fun i hi => ?_
    simp at hi
    have hi' : i < r.sz := by omega
    have := hr i (by omega)
    have e1 : (((List.range r.sz).map f).toArray).getD i Go.undef = f i := by simp [Array.getD, hi']
    have e2 : (cs.take r.sz).getD i .undef = cs.getD i .undef := by simp [List.getD, hi']
    rw [e1, e2]; exact this
  · rw [if_neg (by simp [ha])]
    exact hr 0 (by have := h1 ha; omega)

theorem row_cell {B : Nat} {σ : List (Nat × Nat)} {F : Fr} {w : World} {H : Heap} (hI : Ow B σ F w H) {h0 T sz : Nat} {x : Nat × Nat} {es : List (List PV)} (hb : σ[h0]? = some x) (hk : H[h0]? = some (.rows T sz es))
    {i : Nat} (hi : i < es.length) (off : Nat) : ∃ f : Nat → Value, (es.getD i []).length = sz ∧ (∀ j, j < ((es.getD i []).drop off).length → w.cell? ⟨x.1, i * sz + off + j, none⟩ = some (f j)) ∧
      ∀ j, j < ((es.getD i []).drop off).length → RelV σ F w (f j) (((es.getD i []).drop off).getD j .undef) := by
  obtain ⟨arr, a1, a0, a2, a3, a4, a5⟩ := hI.ok h0 x _ hb hk
  have hl := a3 i hi
  refine ⟨fun j => arr.getD (i * sz + off + j) Go.undef, hl, fun j hj => ?_, fun j hj => ?_⟩
  · simp only [List.length_drop, hl] at hj
    have : (i + 1) * sz ≤ es.length * sz := Nat.mul_le_mul_right _ (by omega)
    have e : (i + 1) * sz = i * sz + sz := by rw [Nat.succ_mul]
    have hlt : i * sz + off + j < arr.size := by omega
    simp only [World.cell?, a1]
    simp [hlt]
  · simp only [List.length_drop, hl] at hj
    have := a4 i (off + j) hi (by omega)
    have e : ((es.getD i []).drop off).getD j .undef = (es.getD i []).getD (off + j) .undef := by simp [List.getD, List.getElem?_drop]
    have e5 : i * sz + off + j = i * sz + (off + j) := by omega
    simp only [e, e5]; exact this

theorem sound_load_ref {t : TypeId} {r : Ty} (h : mkTy P t = some r) (x : Operand) (cs : List PV) (hn : r.sz ≤ cs.length) (h1 : r.agg = false → r.sz = 1) (H : Heap) :
    Sound P (.load t x) [.ref cs] H (valP r cs) H :=
  Sound.val fun σ F w a o B ho hI _ hr => by
    have hx : RelV σ F w (a.eval x) (.ref cs) := by have := hr 0 (by simp); simpa [Op.operands] using this
    obtain ⟨b, off, _, he, f, hc, hf⟩ := hx.ref_inv
    obtain ⟨v, hv, hv'⟩ := run_loadVarP h w b off f cs.length hn h1 hc
    exact ⟨v, by simp [execOp, ho, he, Instr.loadAt, Instr.sureAddr, hv], rel_loaded hn h1 (fun j hj => .frz (hf j hj)) hv'⟩

theorem sound_load_ptr {t : TypeId} {r : Ty} (h : mkTy P t = some r) (x : Operand) (h0 sz i off T : Nat) (es : List (List PV)) (H : Heap) (hk : H[h0]? = some (.rows T sz es)) (hi : i < es.length) (hn : off + r.sz ≤ sz) (h1 : r.agg = false → r.sz = 1) :
    Sound P (.load t x) [.ptr h0 sz i off] H (valP r ((es.getD i []).drop off)) H :=
  Sound.val fun σ F w a o B ho hI _ hr => by
    have hx : RelV σ F w (a.eval x) (.ptr h0 sz i off) := by have := hr 0 (by simp); simpa [Op.operands] using this
    obtain ⟨X, hb, he⟩ := hx.ptr_inv
    obtain ⟨f, hl, hc, hf⟩ := row_cell hI hb hk hi off
    have hn' : r.sz ≤ ((es.getD i []).drop off).length := by simp only [List.length_drop, hl]; omega
    obtain ⟨v, hv, hv'⟩ := run_loadVarP h w X.1 (i * sz + off) f _ hn' h1 hc
    exact ⟨v, by simp [execOp, ho, he, Instr.loadAt, Instr.sureAddr, hv], rel_loaded hn' h1 hf hv'⟩

theorem getD_splice (l : List PV) (off : Nat) (vs : List PV) (hl : off + vs.length ≤ l.length) (j : Nat) :
    (splice l off vs).getD j .undef = if off ≤ j ∧ j < off + vs.length then vs.getD (j - off) .undef else l.getD j .undef := by
  unfold splice
  simp only [List.getD, List.getElem?_append, List.length_append, List.length_take, List.getElem?_take, List.getElem?_drop]
  have : min off l.length = off := by omega
  rw [this]
  by_cases h1 : j < off
  · rw [if_pos (by omega), if_pos h1, if_pos h1, if_neg (by omega)]
  · by_cases h2 : j < off + vs.length
    · rw [if_pos h2, if_neg h1, if_pos (by omega)]
    · rw [if_neg h2, if_neg (by omega)]
      congr 2; omega
theorem length_splice (l : List PV) (off : Nat) (vs : List PV) (hl : off + vs.length ≤ l.length) : (splice l off vs).length = l.length := by
  unfold splice; simp; omega

theorem sound_store {t : TypeId} {r : Ty} (h : mkTy P t = some r) (x y : Operand) (h0 sz i off T : Nat) (es : List (List PV)) (p : PV) (H : Heap) (hk : H[h0]? = some (.rows T sz es)) (hi : i < es.length) (hn : off + r.sz ≤ sz)
    (hl : (cellsP p).length = r.sz) (hc : (cellsP p).all cellB = true) :
    Sound P (.store t x y) [.ptr h0 sz i off, p] H .undef (H.set h0 (.rows T sz (es.set i (splice (es.getD i []) off (cellsP p))))) := by
  intro B σ F w a o ho hI _ hr
  have hx : RelV σ F w (a.eval x) (.ptr h0 sz i off) := by have := hr 0 (by simp); simpa [Op.operands] using this
  have hy : RelV σ F w (a.eval y) p := by have := hr 1 (by simp); simpa [Op.operands] using this
  obtain ⟨X, hb, he⟩ := hx.ptr_inv
  obtain ⟨c1, c2⟩ := hy.cells hc
  obtain ⟨arr, a1, a0, a2, a3, a4, a5⟩ := hI.ok h0 X _ hb hk
  have hrow := a3 i hi
  have hb1 : (i + 1) * sz ≤ es.length * sz := Nat.mul_le_mul_right _ (by omega)
  have e1 : (i + 1) * sz = i * sz + sz := by rw [Nat.succ_mul]
  have hst := run_storeCells_at P X.1 (i * sz + off) T (a.eval y).cells.toList 0 arr w a1 (by simp; omega) (by
    intro v hv
    obtain ⟨j, hj, rfl⟩ := List.getElem_of_mem hv
    have := (c2 j (by simpa [c1] using hj)).2
    have hj2 : j < (a.eval y).cells.size := by simpa using hj
    simpa [Array.getD, hj2] using this)
  have hblt : X.1 < w.heap.size := (hI.big h0 X _ hb hk (by simp)).2
  simp only [Nat.add_zero] at hst
  obtain ⟨W, hW⟩ : ∃ W, W = w.setRow X.1 (arr.toList.take (i * sz + off) ++ (a.eval y).cells.toList ++ arr.toList.drop (i * sz + off + (a.eval y).cells.toList.length)).toArray := ⟨_, rfl⟩
  rw [← hW] at hst
  refine .skip (w' := W) (by
    simp only [execOp, ho, Instr.storeAt, Instr.sureAddr, he]
    simp [storeVar, run_sizeOfT h, c1, hl, hst]) ?_
  have hcl : (a.eval y).cells.toList.length = (cellsP p).length := by simpa using c1
  obtain ⟨h1, h2⟩ := hI.put (w' := w.setRow X.1 (arr.toList.take (i * sz + off) ++ (a.eval y).cells.toList ++ arr.toList.drop (i * sz + off + (a.eval y).cells.toList.length)).toArray)
    (es' := es.set i (splice (es.getD i []) off (cellsP p))) hb hk
    (fun k hk => by simp only [World.setRow, Array.getElem?_modify]; rw [if_neg (by omega)])
    (setRow_heap w X.1 arr _ T (0, 0) a1) (by rw [← a0]; simp; omega) (by simp [World.setRow]) rfl rfl rfl
    (by simp only [List.length_set, List.size_toArray, List.length_append, List.length_take, List.length_drop, Array.length_toList]; omega)
    (fun j hj => by
      simp only [List.length_set] at hj
      by_cases hji : j = i
      · subst hji
        simp only [List.getD, List.getElem?_set_self hi, Option.getD_some]
        rw [length_splice _ _ _ (by simp only [List.getD] at hrow; omega)]
        exact hrow
      · simp only [List.getD, List.getElem?_set_ne (Ne.symm hji)]
        exact a3 j hj)
    (fun j q hj hq => by
      simp only [List.length_set] at hj
      have hjb : (j + 1) * sz ≤ es.length * sz := Nat.mul_le_mul_right _ (by omega)
      have e2 : (j + 1) * sz = j * sz + sz := by rw [Nat.succ_mul]
      have cellAt : ∀ u, u < arr.size → ((arr.toList.take (i * sz + off) ++ (a.eval y).cells.toList ++ arr.toList.drop (i * sz + off + (a.eval y).cells.toList.length)).toArray).getD u Go.undef
          = if i * sz + off ≤ u ∧ u < i * sz + off + r.sz then (a.eval y).cells.getD (u - (i * sz + off)) Go.undef else arr.getD u Go.undef := by
        intro u hu
        have hlen : (arr.toList.take (i * sz + off) ++ (a.eval y).cells.toList ++ arr.toList.drop (i * sz + off + (a.eval y).cells.toList.length)).length = arr.size := by simp; omega
        simp only [Array.getD_eq_getD_getElem?, List.getElem?_toArray, List.getElem?_append, List.length_append, List.length_take, List.getElem?_take, List.getElem?_drop, Array.length_toList]
        have hmin : min (i * sz + off) arr.size = i * sz + off := by omega
        rw [hmin]
        have hcs : (a.eval y).cells.size = r.sz := by omega
        rw [hcs]
        by_cases hu1 : u < i * sz + off
        · rw [if_pos (by omega), if_pos hu1, if_pos hu1, if_neg (by omega)]; simp
        · by_cases hu2 : u < i * sz + off + r.sz
          · rw [if_pos hu2, if_neg hu1, if_pos (by omega)]; simp
          · rw [if_neg hu2, if_neg (by omega)]
            simp only [Array.getElem?_toList]
            congr 2; omega
      rw [cellAt _ (by omega)]
      by_cases hji : j = i
      · subst hji
        simp only [List.getD, List.getElem?_set_self hi, Option.getD_some]
        have := getD_splice (es.getD j []) off (cellsP p) (by omega) q
        simp only [List.getD] at this
        rw [this]
        by_cases hin : off ≤ q ∧ q < off + (cellsP p).length
        · rw [if_pos hin, if_pos (by omega)]
          have := (c2 (q - off) (by omega)).1
          simp only [List.getD] at this
          have e3 : j * sz + q - (j * sz + off) = q - off := by omega
          rw [e3]; exact this
        · rw [if_neg hin, if_neg (by omega)]
          have := a4 j q hj hq
          simpa only [List.getD] using this
      · simp only [List.getD, List.getElem?_set_ne (Ne.symm hji)]
        have hne : ¬ (i * sz + off ≤ j * sz + q ∧ j * sz + q < i * sz + off + r.sz) := by
          intro hin
          rcases Nat.lt_or_gt_of_ne hji with hlt | hgt
          · have : (j + 1) * sz ≤ i * sz := Nat.mul_le_mul_right _ hlt
            omega
          · have : (i + 1) * sz ≤ j * sz := Nat.mul_le_mul_right _ hgt
            omega
        rw [if_neg hne]
        have := a4 j q hj hq
        simpa only [List.getD] using this)
  rw [hW]
  exact ⟨σ, F, h1, h2, .frz (.undef _), .none rfl rfl⟩

end Go.Pv

namespace Go.Pv
open Go.RowKit (Below)
variable {P : Program}

theorem opd0 {σ : List (Nat × Nat)} {F : Fr} {w : World} {a : Act} {op : Op} {ps : List PV} (hr : ∀ i, i < ps.length → RelV σ F w (a.eval (op.operands.getD i default)) (ps.getD i .undef)) (i : Nat) (hi : i < ps.length) (x : Operand) (hx : op.operands.getD i default = x) :
    RelV σ F w (a.eval x) (ps.getD i .undef) := by rw [← hx]; exact hr i hi

theorem sound_fieldAddr_ref {s : TypeId} {r : Ty} {fs : List (Nat × Nat × Bool)} (h : mkTy P s = some r) (hk : r.k = .struct fs) (x : Operand) (f o fsz : Nat) (ag : Bool) (hf : fs[f]? = some (o, fsz, ag)) (hz : fsz ≠ 0) (cs : List PV) (ho' : o ≤ cs.length) (H : Heap) :
    Sound P (.fieldAddr s x f) [.ref cs] H (.ref (cs.drop o)) H :=
  Sound.val fun σ F w a op B ho hI _ hr => by
    have hx : RelV σ F w (a.eval x) (.ref cs) := by simpa using opd0 hr 0 (by simp) x (by simp [Op.operands])
    obtain ⟨b, off, hF, he, g, hc, hg⟩ := hx.ref_inv
    obtain ⟨fa, hu, hfs⟩ := under_struct h hk
    rw [← hfs] at hf
    simp only [List.getElem?_map, Option.map_eq_some_iff] at hf
    obtain ⟨fl, hfl, hfe⟩ := hf
    simp only [Prod.mk.injEq] at hfe
    obtain ⟨rfl, hsz, _⟩ := hfe
    have hq : ∃ i, P.info? fl.type = some i ∧ i.size ≠ 0 := by
      obtain ⟨i, _, hi, hs, _⟩ := fszOf_inv hsz hz
      exact ⟨i, hi, by omega⟩
    obtain ⟨i, hi, hi0⟩ := hq
    refine ⟨.pointer (some ⟨b, off + fl.offset, none⟩), ?_, .frz (.ref b (off + fl.offset) _ (fun j => g (fl.offset + j)) hF (fun j hj => ?_) (fun j hj => ?_))⟩
    · have hfa : fa[f]? = some fl := by simpa using hfl
      simp [execOp, ho, he, Instr.fieldAt, run_underlying hu, hfa, Instr.sureAddr, fieldPlace, sizeOf, typeInfo, hi, hi0, add_none]
    · simp at hj
      have := hc (fl.offset + j) (by omega)
      rw [← Nat.add_assoc] at this; exact this
    · simp at hj
      have := hg (fl.offset + j) (by omega)
      have e : (cs.drop fl.offset).getD j .undef = cs.getD (fl.offset + j) .undef := by simp [List.getD, List.getElem?_drop]
      rw [e]; exact this

theorem sound_fieldAddr_ptr {s : TypeId} {r : Ty} {fs : List (Nat × Nat × Bool)} (h : mkTy P s = some r) (hk : r.k = .struct fs) (x : Operand) (f o fsz : Nat) (ag : Bool) (hf : fs[f]? = some (o, fsz, ag)) (hz : fsz ≠ 0) (h0 sz i off : Nat) (H : Heap) :
    Sound P (.fieldAddr s x f) [.ptr h0 sz i off] H (.ptr h0 sz i (off + o)) H :=
  Sound.val fun σ F w a op B ho hI _ hr => by
    have hx : RelV σ F w (a.eval x) (.ptr h0 sz i off) := by simpa using opd0 hr 0 (by simp) x (by simp [Op.operands])
    obtain ⟨X, hb, he⟩ := hx.ptr_inv
    obtain ⟨fa, hu, hfs⟩ := under_struct h hk
    rw [← hfs] at hf
    simp only [List.getElem?_map, Option.map_eq_some_iff] at hf
    obtain ⟨fl, hfl, hfe⟩ := hf
    simp only [Prod.mk.injEq] at hfe
    obtain ⟨rfl, hsz, _⟩ := hfe
    have hq : ∃ i, P.info? fl.type = some i ∧ i.size ≠ 0 := by
      obtain ⟨i, _, hi, hs, _⟩ := fszOf_inv hsz hz
      exact ⟨i, hi, by omega⟩
    obtain ⟨q, hi, hi0⟩ := hq
    refine ⟨.pointer (some ⟨X.1, i * sz + (off + fl.offset), none⟩), ?_, .ptr h0 sz i (off + fl.offset) X hb⟩
    have hfa : fa[f]? = some fl := by simpa using hfl
    simp [execOp, ho, he, Instr.fieldAt, run_underlying hu, hfa, Instr.sureAddr, fieldPlace, sizeOf, typeInfo, hi, hi0, add_none, Nat.add_assoc]

theorem sound_indexAddr_sl {t e : TypeId} {r q : Ty} (h : mkTy P t = some r) (hk : r.k = .slice e) (he : mkTy P e = some q) (x y : Operand) (es : List (List PV)) (k : IntKind) (i : Int) (hi0 : 0 ≤ i) (hi : i < (es.length : Int)) (H : Heap) :
    Sound P (.indexAddr t x y) [.sl q.sz es, .int k i] H (.ref (es.getD i.toNat q.zero)) H :=
  Sound.val fun σ F w a op B ho hI _ hr => by
    have hx : RelV σ F w (a.eval x) (.sl q.sz es) := by simpa using opd0 hr 0 (by simp) x (by simp [Op.operands])
    have hy : RelV σ F w (a.eval y) (.int k i) := by simpa using opd0 hr 1 (by simp) y (by simp [Op.operands])
    have hlt : i.toNat < es.length := by omega
    rcases hx.sl_inv with ⟨_, _, rfl, _⟩ | ⟨b, off, cap, hF, hc, hv, hz, f, hcell, hf⟩
    · simp at hlt
    · have hu := under_slice h hk
      have hg : es.getD i.toNat q.zero = es.getD i.toNat [] := by simp [List.getD, hlt]
      refine ⟨.pointer (some ⟨b, off + i.toNat * q.sz, none⟩), ?_, .frz (.ref b (off + i.toNat * q.sz) _ (f i.toNat) hF (fun j hj => ?_) (fun j hj => ?_))⟩
      · have hlen : i < (es.length : Int) := hi
        simp [execOp, ho, hv, hy.int_inv, Instr.indexAt, asIntOf, run_underlying hu, hi0, hlen, run_sizeOfT he, add_none]
      · rw [hg, hz _ hlt] at hj
        rw [Nat.add_assoc]; exact hcell _ j hlt hj
      · rw [hg, hz _ hlt] at hj
        rw [hg]; exact hf _ j hlt hj

theorem sound_indexAddr_own {t e : TypeId} {r q : Ty} (h : mkTy P t = some r) (hk : r.k = .slice e) (he : mkTy P e = some q) (x y : Operand) (h0 a0 len : Nat) (k : IntKind) (i : Int) (hi0 : 0 ≤ i) (hi : i < (len : Int)) (H : Heap) :
    Sound P (.indexAddr t x y) [.own h0 q.sz a0 len, .int k i] H (.ptr h0 q.sz (a0 + i.toNat) 0) H :=
  Sound.val fun σ F w a op B ho hI _ hr => by
    have hx : RelV σ F w (a.eval x) (.own h0 q.sz a0 len) := by simpa using opd0 hr 0 (by simp) x (by simp [Op.operands])
    have hy : RelV σ F w (a.eval y) (.int k i) := by simpa using opd0 hr 1 (by simp) y (by simp [Op.operands])
    obtain ⟨X, cap, hb, hc, hv, _⟩ := hx.own_inv
    have hu := under_slice h hk
    refine ⟨.pointer (some ⟨X.1, (a0 + i.toNat) * q.sz + 0, none⟩), ?_, .ptr h0 q.sz (a0 + i.toNat) 0 X hb⟩
    simp [execOp, ho, hv, hy.int_inv, Instr.indexAt, asIntOf, run_underlying hu, hi0, hi, run_sizeOfT he, add_none, Nat.add_mul]

theorem sound_unNot (t : TypeId) (x : Operand) (b : Bool) (H : Heap) : Sound P (.unOp .not t x) [.bool b] H (.bool (!b)) H :=
  Sound.val fun σ F w a op B ho hI _ hr => by
    have hx : RelV σ F w (a.eval x) (.bool b) := by simpa using opd0 hr 0 (by simp) x (by simp [Op.operands])
    exact ⟨.bool (!b), by simp [execOp, ho, hx.bool_inv, Op.unary], .frz (.bool _)⟩
theorem sound_unNeg (t : TypeId) (x : Operand) (k : IntKind) (n : Int) (H : Heap) : Sound P (.unOp .neg t x) [.int k n] H (.int k (k.wrap (0 - n))) H :=
  Sound.val fun σ F w a op B ho hI _ hr => by
    have hx : RelV σ F w (a.eval x) (.int k n) := by simpa using opd0 hr 0 (by simp) x (by simp [Op.operands])
    exact ⟨.int k (k.wrap (0 - n)), by simp [execOp, ho, hx.int_inv, Op.unary, Op.intArith], .frz (.int _ _)⟩

theorem sound_arith (op : BinOp) (t t' : TypeId) (x y : Operand) (k : IntKind) (n m : Int) (p : PV) (hp : arithP op k n m = some p) (hd : divB op = true → m ≠ 0) (H : Heap) : Sound P (.binOp op t x y t') [.int k n, .int k m] H p H :=
  Sound.val fun σ F w a o B ho hI _ hr => by
    have hx : RelV σ F w (a.eval x) (.int k n) := by simpa using opd0 hr 0 (by simp) x (by simp [Op.operands])
    have hy : RelV σ F w (a.eval y) (.int k m) := by simpa using opd0 hr 1 (by simp) y (by simp [Op.operands])
    have hg : (eqGuard op t x y (.int k n) (.int k m)).run P w = .ok () w := by
      unfold eqGuard; cases op <;> rfl
    cases op <;> simp only [arithP, reduceCtorEq, Option.some.injEq] at hp <;> subst hp <;>
      first
      | (refine ⟨_, ?_, .frz (.int _ _)⟩; simp [execOp, ho, hx.int_inv, hy.int_inv, hg, binOp, Op.intArith, Op.intCmp]; done)
      | (refine ⟨_, ?_, .frz (.bool _)⟩; simp [execOp, ho, hx.int_inv, hy.int_inv, hg, binOp, Op.intArith, Op.intCmp]; done)
      | (have hd' := hd rfl; refine ⟨_, ?_, .frz (.int _ _)⟩; simp [execOp, ho, hx.int_inv, hy.int_inv, hg, binOp, Op.intDiv, hd']; done)

theorem sound_strop (op : BinOp) (t t' : TypeId) (x y : Operand) (n m : ByteArray) (p : PV) (hp : strP op n m = some p) (H : Heap) : Sound P (.binOp op t x y t') [.str n, .str m] H p H :=
  Sound.val fun σ F w a o B ho hI _ hr => by
    have hx : RelV σ F w (a.eval x) (.str n) := by simpa using opd0 hr 0 (by simp) x (by simp [Op.operands])
    have hy : RelV σ F w (a.eval y) (.str m) := by simpa using opd0 hr 1 (by simp) y (by simp [Op.operands])
    have hg : (eqGuard op t x y (.string n) (.string m)).run P w = .ok () w := by
      unfold eqGuard; cases op <;> rfl
    cases op <;> simp only [strP, reduceCtorEq, Option.some.injEq] at hp <;> subst hp <;>
      (refine ⟨_, ?_, .frz (.bool _)⟩; simp [execOp, ho, hx.str_inv, hy.str_inv, hg, binOp, Op.stringOp]; done)

theorem run_equal_bool {t : TypeId} {r : Ty} (h : mkTy P t = some r) (hk : r.k = .bool) (n m : Bool) (w : World) : (Op.equal t (.bool n) (.bool m)).run P w = .ok (n == m) w := by
  have hu := under_bool h hk
  unfold Op.equal Op.maxDepth
  rw [show (10000 : Nat) = 9999 + 1 from rfl]
  unfold Op.equalIn
  simp only [Sem.run_bind, run_underlying hu, Result.andThen_ok]
  rfl

theorem sound_boolEq {t : TypeId} {r : Ty} (h : mkTy P t = some r) (hk : r.k = .bool) (t' : TypeId) (x y : Operand) (n m : Bool) (H : Heap) : Sound P (.binOp .eql t x y t') [.bool n, .bool m] H (.bool (n == m)) H :=
  Sound.val fun σ F w a o B ho hI _ hr => by
    have hx : RelV σ F w (a.eval x) (.bool n) := by simpa using opd0 hr 0 (by simp) x (by simp [Op.operands])
    have hy : RelV σ F w (a.eval y) (.bool m) := by simpa using opd0 hr 1 (by simp) y (by simp [Op.operands])
    have hg : (eqGuard .eql t x y (.bool n) (.bool m)).run P w = .ok () w := rfl
    exact ⟨.bool (n == m), by simp [execOp, ho, hx.bool_inv, hy.bool_inv, hg, binOp, run_equal_bool h hk], .frz (.bool _)⟩
theorem sound_boolNe {t : TypeId} {r : Ty} (h : mkTy P t = some r) (hk : r.k = .bool) (t' : TypeId) (x y : Operand) (n m : Bool) (H : Heap) : Sound P (.binOp .neq t x y t') [.bool n, .bool m] H (.bool (!(n == m))) H :=
  Sound.val fun σ F w a o B ho hI _ hr => by
    have hx : RelV σ F w (a.eval x) (.bool n) := by simpa using opd0 hr 0 (by simp) x (by simp [Op.operands])
    have hy : RelV σ F w (a.eval y) (.bool m) := by simpa using opd0 hr 1 (by simp) y (by simp [Op.operands])
    have hg : (eqGuard .neq t x y (.bool n) (.bool m)).run P w = .ok () w := rfl
    exact ⟨.bool (!(n == m)), by simp [execOp, ho, hx.bool_inv, hy.bool_inv, hg, binOp, run_equal_bool h hk], .frz (.bool _)⟩

theorem agg_exact {σ : List (Nat × Nat)} {F : Fr} {w : World} {v : Value} {ps : List PV} {us : List Value} (h : RelV σ F w v (.agg ps)) (hc : concL ps = some us) : v = .agg us.toArray := by
  obtain ⟨cs, rfl, hn, hr⟩ := h.agg_inv
  have := concL_rel (cs := cs.toList) (ps := ps) (us := us) (by simpa using hn) (fun i hi => by
    have := hr i hi
    have e : cs.toList.getD i Go.undef = cs.getD i Go.undef := by simp [List.getD, Array.getD_eq_getD_getElem?]
    rw [e]; exact this) hc
  rw [← this]

theorem sound_aggEq {t : TypeId} {xs ys : List PV} {r : Bool} (h : EqOk P t xs ys r) (t' : TypeId) (x y : Operand) (H : Heap) : Sound P (.binOp .eql t x y t') [.agg xs, .agg ys] H (.bool r) H :=
  Sound.val fun σ F w a o B ho hI _ hr => by
    have hx : RelV σ F w (a.eval x) (.agg xs) := by simpa using opd0 hr 0 (by simp) x (by simp [Op.operands])
    have hy : RelV σ F w (a.eval y) (.agg ys) := by simpa using opd0 hr 1 (by simp) y (by simp [Op.operands])
    obtain ⟨hgt, us, vs, hus, hvs, heq⟩ := h
    have ex := agg_exact hx hus
    have ey := agg_exact hy hvs
    have hg : (eqGuard .eql t x y (.agg us.toArray) (.agg vs.toArray)).run P w = .ok () w := by
      simp [eqGuard, hgt, show ∀ w, Sem.run P program w = .ok P w from fun _ => rfl]
    exact ⟨.bool r, by simp [execOp, ho, ex, ey, hg, binOp, heq], .frz (.bool _)⟩
theorem sound_aggNe {t : TypeId} {xs ys : List PV} {r : Bool} (h : EqOk P t xs ys r) (t' : TypeId) (x y : Operand) (H : Heap) : Sound P (.binOp .neq t x y t') [.agg xs, .agg ys] H (.bool (!r)) H :=
  Sound.val fun σ F w a o B ho hI _ hr => by
    have hx : RelV σ F w (a.eval x) (.agg xs) := by simpa using opd0 hr 0 (by simp) x (by simp [Op.operands])
    have hy : RelV σ F w (a.eval y) (.agg ys) := by simpa using opd0 hr 1 (by simp) y (by simp [Op.operands])
    obtain ⟨hgt, us, vs, hus, hvs, heq⟩ := h
    have ex := agg_exact hx hus
    have ey := agg_exact hy hvs
    have hg : (eqGuard .neq t x y (.agg us.toArray) (.agg vs.toArray)).run P w = .ok () w := by
      simp [eqGuard, hgt, show ∀ w, Sem.run P program w = .ok P w from fun _ => rfl]
    exact ⟨.bool (!r), by simp [execOp, ho, ex, ey, hg, binOp, heq], .frz (.bool _)⟩

theorem sound_makeFunc (f : FuncId) (caps : Array Operand) (ps : List PV) (H : Heap) : Sound P (.makeFunc (.func f) #[] caps) ps H (.clo f ps) H :=
  Sound.val fun σ F w a o B ho hI hn hr => by
    refine ⟨.func (.func f) #[] (caps.map a.eval), by simp [execOp, ho, Instr.makeFunc], .clo f _ _ (by simpa [Op.operands] using hn.symm) fun i hi => ?_⟩
    have := hr i hi
    have hs : ps.length = caps.size := by simpa [Op.operands] using hn
    have hi2 : i < caps.size := by omega
    simp [Op.operands, Array.getD, hi2] at this
    simpa [Array.getD, hi2] using this

theorem sound_extract (x : Operand) (n : Nat) (cs : List PV) (hn : n < cs.length) (H : Heap) : Sound P (.extract x n) [.tup cs] H (cs.getD n .undef) H :=
  Sound.val fun σ F w a o B ho hI _ hr => by
    have hx : RelV σ F w (a.eval x) (.tup cs) := by simpa using opd0 hr 0 (by simp) x (by simp [Op.operands])
    obtain ⟨vs, hv, hl, hrel⟩ := hx.tup_inv
    have hlt : n < vs.size := by omega
    refine ⟨vs.getD n Go.undef, ?_, hrel n hn⟩
    simp [execOp, ho, hv, Instr.extract, hlt, Array.getD]

theorem sound_index {t : TypeId} {r : Ty} (h : mkTy P t = some r) (hk : r.k = .str) (x y : Operand) (s : ByteArray) (k : IntKind) (i : Int) (hi0 : 0 ≤ i) (hi : i < (s.size : Int)) (H : Heap) : Sound P (.index t x y) [.str s, .int k i] H (.int .u8 (bt s i)) H :=
  Sound.val fun σ F w a o B ho hI _ hr => by
    have hx : RelV σ F w (a.eval x) (.str s) := by simpa using opd0 hr 0 (by simp) x (by simp [Op.operands])
    have hy : RelV σ F w (a.eval y) (.int k i) := by simpa using opd0 hr 1 (by simp) y (by simp [Op.operands])
    have hu := under_str h hk
    have hlt : i.toNat < s.size := by omega
    have hb : s[i.toNat]? = some (s[i.toNat]) := by simp [hlt]
    refine ⟨.int .u8 (bt s i), ?_, .frz (.int _ _)⟩
    have h2 : i.toNat < s.data.size := hlt
    simp [execOp, ho, hx.str_inv, hy.int_inv, Instr.index, asIntOf, run_underlying hu, hi0, hlt, bt, h2]
    rfl

theorem sound_len {t : TypeId} {r : Ty} (h : mkTy P t = some r) (cl : Call) (hc : cl.callee = .builtin .len) (ht : cl.argTypes[0]? = some t) (p : PV) (n : Int)
    (hp : (∃ s, p = .str s ∧ n = s.size ∧ r.k = .str) ∨ ((∃ e, r.k = .slice e) ∧ ((p = .nil ∧ n = 0) ∨ (∃ sz es, p = .sl sz es ∧ n = es.length) ∨ ∃ h0 sz a0 len, p = .own h0 sz a0 len ∧ n = (len : Int)))) (H : Heap) :
    Sound P (.call cl) [p] H (.int .i64 n) H :=
  Sound.val fun σ F w a o B ho hI hn hr => by
    have hsz : cl.args.size = 1 := by simp [Op.operands, Call.operands, hc] at hn; omega
    obtain ⟨x, hx⟩ : ∃ x, cl.args = #[x] := Array.size_eq_one_iff.1 hsz
    have hxr : RelV σ F w (a.eval x) p := by simpa using opd0 hr 0 (by simp) x (by simp [Op.operands, Call.operands, hc, hx])
    refine ⟨.int .i64 n, ?_, .frz (.int _ _)⟩
    rcases hp with ⟨s, rfl, rfl, hk⟩ | ⟨⟨e, hk⟩, hp⟩
    · simp [execOp, ho, resolve, hc, hx, invoke, builtin, Builtin.len_, ht, hxr.str_inv, run_underlying (under_str h hk), goInt]
    · have hu := under_slice h hk
      rcases hp with ⟨rfl, rfl⟩ | ⟨sz, es, rfl, rfl⟩ | ⟨h0, sz, a0, len, rfl, rfl⟩
      · simp [execOp, ho, resolve, hc, hx, invoke, builtin, Builtin.len_, ht, hxr.nil_inv, run_underlying hu, goInt]
      · rcases hxr.sl_inv with ⟨_, _, rfl, hv⟩ | ⟨b, off, cap, _, _, hv, _⟩
        · simp [execOp, ho, resolve, hc, hx, invoke, builtin, Builtin.len_, ht, hv, run_underlying hu, goInt]
        · simp [execOp, ho, resolve, hc, hx, invoke, builtin, Builtin.len_, ht, hv, run_underlying hu, goInt]
      · obtain ⟨X, cap, _, _, hv, _⟩ := hxr.own_inv
        simp [execOp, ho, resolve, hc, hx, invoke, builtin, Builtin.len_, ht, hv, run_underlying hu, goInt]

theorem expo_hf {F : Fr} {w : World} {c : Nat → List (List PV) → PV} {H : Heap} {v : Value} {p : PV} (hp : hf p = true) (n : Nat) (h : RelF F w v p) : RelF F w v (expo c H n p) := by
  induction h generalizing n with
  | int k m => cases n <;> first | exact .undef _ | exact .int _ _
  | bool b => cases n <;> first | exact .undef _ | exact .bool _
  | str s hs => cases n <;> first | exact .undef _ | exact .str _ hs
  | nil => cases n <;> first | exact .undef _ | exact .nil
  | sl0 a cap sz => cases n <;> first | exact .undef _ | exact .sl0 _ _ _
  | undef v => cases n <;> exact .undef _
  | sl b off n' cap sz es f hb hn hc hL hz hv hh _ => cases n <;> first | exact .undef _ | exact .sl b off n' cap sz es f hb hn hc hL hz hv hh
  | fs0 a cap sz => cases n <;> first | exact .undef _ | exact .fs0 _ _ _
  | fs b off n' cap sz es f hb hw ha hn hc hL hz hv hh _ => cases n <;> first | exact .undef _ | exact .fs b off n' cap sz es f hb hw ha hn hc hL hz hv hh
  | ref b off cs f hb hv hh _ => cases n <;> first | exact .undef _ | exact .ref b off cs f hb hv hh
  | agg cs ps hn _ ih =>
    cases n with
    | zero => exact .undef _
    | succ n =>
      refine .agg cs _ (by simpa using hn) fun i hi => ?_
      simp only [List.length_map] at hi
      rw [getD_map_lt _ _ _ .undef _ hi]
      exact ih i hi (hfL_getD (by simpa [hf] using hp) i hi) n
  | tup cs ps hn _ ih =>
    cases n with
    | zero => exact .undef _
    | succ n =>
      refine .tup cs _ (by simpa using hn) fun i hi => ?_
      simp only [List.length_map] at hi
      rw [getD_map_lt _ _ _ .undef _ hi]
      exact ih i hi (hfL_getD (by simpa [hf] using hp) i hi) n
  | clo f cs ps hn _ ih =>
    cases n with
    | zero => exact .undef _
    | succ n =>
      refine .clo f cs _ (by simpa using hn) fun i hi => ?_
      simp only [List.length_map] at hi
      rw [getD_map_lt _ _ _ .undef _ hi]
      exact ih i hi (hfL_getD (by simpa [hf] using hp) i hi) n

theorem sound_call (cl : Call) (fx : Operand) (hc : cl.callee = .value fx) (f : FuncId) (caps args : List PV) (r : PV) (H : Heap) (hp : PC P f ((args ++ caps).map (expo .sl H 8)) r) (hs : hfL (args ++ caps) = true ∨ scal r = true) :
    Sound P (.call cl) (.clo f caps :: args) H r H := by
  intro B σ F w a o ho hI hn hr
  obtain ⟨⟨fn, hfn, hname, hbody⟩, hcon⟩ := hp
  have hx : RelV σ F w (a.eval fx) (.clo f caps) := by simpa using opd0 hr 0 (by simp) fx (by simp [Op.operands, Call.operands, hc, Array.getElem?_append])
  obtain ⟨cs, hv, hl, hcaps⟩ := hx.clo_inv
  have hsz : cl.args.size = args.length := by simp [Op.operands, Call.operands, hc] at hn; omega
  have hargs : ∀ i, i < args.length → RelV σ F w (a.eval (cl.args.getD i default)) (args.getD i .undef) := by
    intro i hi
    have := hr (i + 1) (by simpa using hi)
    have e1 : (Op.call cl).operands.getD (i + 1) default = cl.args.getD i default := by
      simp [Op.operands, Call.operands, hc, Array.getD_eq_getD_getElem?, Array.getElem?_append]
    rw [e1] at this
    simpa using this
  have hlen : (cl.args.map a.eval ++ cs).size = (args ++ caps).length := by simp [hsz, hl]
  have hall : ∀ i, i < (args ++ caps).length → RelV σ F w ((cl.args.map a.eval ++ cs).getD i Go.undef) ((args ++ caps).getD i .undef) := by
    intro i hi
    by_cases hi1 : i < args.length
    · have h1 := hargs i hi1
      have hi2 : i < cl.args.size := by omega
      have e1 : (cl.args.map a.eval ++ cs).getD i Go.undef = a.eval (cl.args.getD i default) := by
        simp [Array.getD_eq_getD_getElem?, Array.getElem?_append, hi2]
      have e2 : (args ++ caps).getD i .undef = args.getD i .undef := by simp [List.getD, List.getElem?_append, hi1]
      rw [e1, e2]; exact h1
    · have hi3 : i - args.length < caps.length := by simp at hi; omega
      have h1 := hcaps (i - args.length) hi3
      have e1 : (cl.args.map a.eval ++ cs).getD i Go.undef = cs.getD (i - args.length) Go.undef := by
        simp only [Array.getD_eq_getD_getElem?, Array.getElem?_append, Array.size_map, hsz, if_neg hi1]
      have e2 : (args ++ caps).getD i .undef = caps.getD (i - args.length) .undef := by simp [List.getD, List.getElem?_append, hi1]
      rw [e1, e2]; exact h1
  have hname' : ¬ fn.name = "runtime.NumGoroutine" := by simpa using hname
  have hbody' : ¬ fn.body = none := fun e => by simp [e] at hbody
  have hrun : (execOp a.eval o).run P w = .ok (.enter f (cl.args.map a.eval ++ cs)) w := by
    simp [execOp, ho, resolve, hc, hv, Deferred.ofValue, invoke, callFunc, show ∀ w, Sem.run P program w = .ok P w from fun _ => rfl, hfn, hname', hbody']
  rcases hs with hs | hs
  · -- no handle is handed over
    have hcalls := hcon F w (cl.args.map a.eval ++ cs) hI.old (by simpa using hlen) (by
      intro i hi
      simp only [List.length_map] at hi
      rw [getD_map_lt _ _ _ .undef _ hi]
      have h1 := hall i hi
      have hh := hfL_getD hs i hi
      have h2 := h1.toF hh
      have h3 := expo_rel hI rowK_sl 8 h1
      -- a value without handles is told as it is
      exact expo_hf hh 8 h2)
    exact StepOk.enter hrun (hcalls.mono fun e w' ⟨v, he, hrel, hb⟩ => by
      obtain ⟨g1, g2⟩ := hI.grown hb
      exact ⟨v, he, σ, _, g1, g2, .frz hrel, fun _ => ⟨rfl, .inr ⟨hb, rfl⟩⟩, fun h => by simp [nwB] at h⟩)
  · have hcalls := hcon (Live σ F H) w (cl.args.map a.eval ++ cs) (by
      rintro b (hb | ⟨h, x, k, hb, rfl, hk, hd⟩)
      · exact hI.old b hb
      · exact (hI.big h x k hb hk hd).2) (by simpa using hlen) (by
      intro i hi
      simp only [List.length_map] at hi
      rw [getD_map_lt _ _ _ .undef _ hi]
      exact expo_rel hI rowK_sl 8 (hall i hi))
    exact StepOk.enter hrun (hcalls.mono fun e w' ⟨v, he, hrel, hb⟩ => by
      obtain ⟨g1, g2⟩ := hI.grown hb
      exact ⟨v, he, σ, _, g1, g2, .frz (hrel.scal hs), fun _ => ⟨rfl, .inr ⟨hb, rfl⟩⟩, fun h => by simp [nwB] at h⟩)

end Go.Pv

namespace Go.Pv
open Go.RowKit (Below)
variable {P : Program}

theorem getD_madeCells (z : Array Value) (n sz i j : Nat) (hz : z.size = sz) (hi : i < n) (hj : j < sz) : (madeCells z (n * sz)).getD (i * sz + j) Go.undef = z.getD j Go.undef := by
  have h1 : (i + 1) * sz ≤ n * sz := Nat.mul_le_mul_right _ (by omega)
  have h2 : (i + 1) * sz = i * sz + sz := by rw [Nat.succ_mul]
  have hlt : i * sz + j < n * sz := by omega
  have hm : (i * sz + j) % z.size = j := by rw [hz, Nat.mul_comm, Nat.mul_add_mod, Nat.mod_eq_of_lt hj]
  have hjz : j < z.size := by omega
  have e : z[j]! = z[j] := by simp [hjz]
  unfold madeCells
  simp only [Array.getD_eq_getD_getElem?, Array.getElem?_map, Array.getElem?_range, hlt, if_true, Option.map_some, Option.getD_some, hm, e]
  simp [hjz]

theorem zero_rel {F : Fr} {w : World} {ss : List Nat} {z : Array Value} {l : List PV} (h : zeroL ss z.toList = l) (j : Nat) (hj : j < z.size) : RelF F w (z.getD j Go.undef) (l.getD j .undef) := by
  obtain ⟨s, hs⟩ := zeroL_getD ss z.toList j (by simpa using hj)
  have e : l.getD j .undef = zeroPV s (z.getD j Go.undef) := by
    rw [← h]
    simpa [List.getD, Array.getD, hj] using hs
  rw [e]; exact zeroPV_rel _ _

theorem sound_makeSlice {t e : TypeId} {r q : Ty} (h : mkTy P t = some r) (hk : r.k = .slice e) (he : mkTy P e = some q) (x y : Operand) (n : Int) (h0 : 0 ≤ n) (hn : n ≤ 140737488355328) (hb : q.bytes * n ≤ 281474976710656) (hz : q.zero.length = q.sz) (H : Heap) :
    Sound P (.makeSlice t x y) [.int .i64 n, .int .i64 n] H (.own H.length q.sz 0 n.toNat) (H ++ [.rows e q.sz (List.replicate n.toNat q.zero)]) := by
  intro B σ F w a o ho hI _ hr
  have hx : RelV σ F w (a.eval x) (.int .i64 n) := by simpa using opd0 hr 0 (by simp) x (by simp [Op.operands])
  have hy : RelV σ F w (a.eval y) (.int .i64 n) := by simpa using opd0 hr 1 (by simp) y (by simp [Op.operands])
  obtain ⟨i, d, z, hi, hd, hzz, rfl⟩ := mkTy_inv he
  simp only at hb hz ⊢
  have hzs : z.cells.size = i.size := by simpa [zeroL_length] using hz
  have hrun := run_make (P := P) w t e i z (under_slice h hk) hi hzz .i64 .i64 n n h0 (Int.le_refl _) hb (by omega)
  obtain ⟨h1, h2⟩ := hI.alloc e i.size (List.replicate n.toNat (zeroL (shapeOf P 8 e) z.cells.toList)) (madeCells z.cells (n.toNat * i.size)) (by simp [size_madeCells]) (by
    intro k hk; simp only [List.length_replicate] at hk; simp [List.getD, hk, hzs, zeroL_length]) (by
    intro k j hk hj
    simp only [List.length_replicate] at hk
    rw [getD_madeCells z.cells n.toNat i.size k j hzs hk hj]
    have e1 : (List.replicate n.toNat (zeroL (shapeOf P 8 e) z.cells.toList)).getD k [] = zeroL (shapeOf P 8 e) z.cells.toList := by simp [List.getD, hk]
    rw [e1]
    exact .frz (zero_rel rfl j (by omega)))
  refine .value (v := .slice (some ⟨w.heap.size, 0, none⟩) n.toNat n.toNat) ?_ ⟨_, _, h1, h2, ?_, .new rfl (Nat.le_refl _) ((Below.refl _ _).alloc (Nat.le_refl _) _)⟩
  · simp [execOp, ho, hx.int_inv, hy.int_inv, hrun]
  · have := RelV.own (σ := σ ++ [(w.heap.size, (madeCells z.cells (n.toNat * i.size)).size)]) (F := F) (w := w.alloc (.cells (madeCells z.cells (n.toNat * i.size)) e)) H.length i.size 0 n.toNat n.toNat (w.heap.size, (madeCells z.cells (n.toNat * i.size)).size)
      (by rw [← hI.len]; simp) (Nat.le_refl _) (by simp [size_madeCells]) (by unfold lenMax; omega)
    simpa using this

/-- Values laid into a row, from a place on. -/
theorem foldSet (off : Nat) : ∀ (l : List Value) (st : Nat) (cells : Array Value), off + st + l.length ≤ cells.size →
    ((l.zipIdx st).foldl (fun cs x => cs.setIfInBounds (off + x.2) x.1) cells).size = cells.size ∧
    ∀ u, ((l.zipIdx st).foldl (fun cs x => cs.setIfInBounds (off + x.2) x.1) cells).getD u Go.undef = if off + st ≤ u ∧ u < off + st + l.length then l.getD (u - (off + st)) Go.undef else cells.getD u Go.undef
  | [], st, cells, _ => ⟨rfl, fun u => by simp; omega⟩
  | v :: l, st, cells, h => by
    simp only [List.length_cons] at h
    obtain ⟨h1, h2⟩ := foldSet off l (st + 1) (cells.setIfInBounds (off + st) v) (by simp; omega)
    refine ⟨by simpa using h1, fun u => ?_⟩
    have := h2 u
    simp only [List.zipIdx_cons, List.foldl_cons]
    rw [this]
    simp only [List.length_cons]
    by_cases e : u = off + st
    · subst e
      rw [if_neg (by omega), if_pos (by omega)]
      have : off + st < cells.size := by omega
      simp [Array.getD_eq_getD_getElem?, this]
    · by_cases h3 : off + (st + 1) ≤ u ∧ u < off + (st + 1) + l.length
      · rw [if_pos h3, if_pos (by omega)]
        have e2 : u - (off + st) = (u - (off + (st + 1))) + 1 := by omega
        rw [e2]; simp
      · rw [if_neg h3, if_neg (by omega)]
        simp [Array.getD_eq_getD_getElem?, Array.getElem?_setIfInBounds, Ne.symm e]

theorem foldSet_arr (off : Nat) (v cells : Array Value) (h : off + v.size ≤ cells.size) :
    (v.zipIdx.foldl (fun cs (x : Value × Nat) => cs.setIfInBounds (off + x.2) x.1) cells).size = cells.size ∧
    ∀ u, (v.zipIdx.foldl (fun cs (x : Value × Nat) => cs.setIfInBounds (off + x.2) x.1) cells).getD u Go.undef = if off ≤ u ∧ u < off + v.size then v.getD (u - off) Go.undef else cells.getD u Go.undef := by
  have := foldSet off v.toList 0 cells (by simpa using h)
  have e : v.zipIdx.foldl (fun cs (x : Value × Nat) => cs.setIfInBounds (off + x.2) x.1) cells = (v.toList.zipIdx 0).foldl (fun cs x => cs.setIfInBounds (off + x.2) x.1) cells := by
    rw [← Array.foldl_toList, Array.toList_zipIdx]
  rw [e]
  refine ⟨this.1, fun u => ?_⟩
  rw [this.2 u]
  simp [List.getD, Array.getD_eq_getD_getElem?]

/-- A slice literal's row. -/
theorem fill_rows (sz : Nat) : ∀ (vs : List Value) (k : Nat) (cells : Array Value), (∀ v ∈ vs, v.cells.size = sz) → (k + vs.length) * sz ≤ cells.size →
    ∃ out, Instr.fill (fun i => some (i * sz, sz)) cells ((List.range' k vs.length).zip vs) = some out ∧ out.size = cells.size ∧
      (∀ u, u < k * sz → out.getD u Go.undef = cells.getD u Go.undef) ∧ ∀ i j, i < vs.length → j < sz → out.getD ((k + i) * sz + j) Go.undef = (vs.getD i Go.undef).cells.getD j Go.undef
  | [], k, cells, _, _ => ⟨cells, rfl, rfl, fun _ _ => rfl, fun i j hi => by simp at hi⟩
  | v :: vs, k, cells, hv, hl => by
    have hv0 := hv v (by simp)
    have e1 : (k + (v :: vs).length) * sz = k * sz + sz + vs.length * sz := by
      rw [List.length_cons, show k + (vs.length + 1) = k + 1 + vs.length by omega, Nat.add_mul, Nat.succ_mul]
    have hfit : k * sz + v.cells.size ≤ cells.size := by rw [hv0]; rw [e1] at hl; omega
    obtain ⟨f1, f2⟩ := foldSet_arr (k * sz) v.cells cells hfit
    obtain ⟨out, o1, o2, o3, o4⟩ := fill_rows sz vs (k + 1) (v.cells.zipIdx.foldl (fun cs (x : Value × Nat) => cs.setIfInBounds (k * sz + x.2) x.1) cells) (fun u hu => hv u (by simp [hu]))
      (by rw [f1, Nat.add_mul, Nat.succ_mul]; rw [e1] at hl; omega)
    refine ⟨out, ?_, by rw [o2, f1], fun u hu => ?_, fun i j hi hj => ?_⟩
    · have hc : (decide (v.cells.size ≠ sz) || decide (k * sz + v.cells.size > cells.size)) = false := by simp [hv0]; rw [hv0] at hfit; omega
      simp only [List.length_cons, List.range'_succ, List.zip_cons_cons, Instr.fill]
      rw [if_neg (by simpa using hc)]
      exact o1
    · rw [o3 u (by rw [Nat.succ_mul]; omega), f2 u, if_neg (by omega)]
    · cases i with
      | zero =>
        simp only [Nat.add_zero]
        rw [o3 _ (by rw [Nat.succ_mul]; omega), f2, if_pos (by omega)]
        simp
      | succ i =>
        have := o4 i j (by simpa using hi) hj
        rw [show k + (i + 1) = k + 1 + i by omega, this]
        simp

theorem sound_buildSlice {t e : TypeId} {r q : Ty} (h : mkTy P t = some r) (hk : r.k = .slice e) (he : mkTy P e = some q) (len : Nat) (parts : Array (Nat × Operand)) (hl : len = parts.size) (hix : parts.toList.map (·.1) = List.range len) (ps : List PV)
    (hp : (ps.all fun p => (cellsP p).all cellB && ((cellsP p).length == q.sz)) = true) (_hz : q.zero.length = q.sz) (hsm : len * q.sz ≤ 16777216) (hlm : len ≤ 140737488355328) (H : Heap) :
    Sound P (.buildSlice t len parts) ps H (.own H.length q.sz 0 len) (H ++ [.rows e q.sz (ps.map cellsP)]) := by
  intro B σ F w a o ho hI hn hr
  have hpl : ps.length = len := by simp [Op.operands] at hn; omega
  have hval : ∀ i, i < len → RelV σ F w ((parts.toList.map fun x => a.eval x.2).getD i Go.undef) (ps.getD i .undef) := by
    intro i hi
    have := hr i (by omega)
    have hi2 : i < parts.size := by omega
    simp [Op.operands, Array.getD, hi2] at this
    simpa [List.getD, hi2] using this
  have hps : ∀ i, i < len → (cellsP (ps.getD i .undef)).all cellB = true ∧ (cellsP (ps.getD i .undef)).length = q.sz := by
    intro i hi
    simp only [List.all_eq_true, Bool.and_eq_true, beq_iff_eq] at hp
    have := hp (ps.getD i .undef) (by simp [List.getD, show i < ps.length by omega])
    exact ⟨by simpa using this.1, this.2⟩
  have hcl : ∀ v ∈ parts.toList.map (fun x => a.eval x.2), v.cells.size = q.sz := by
    intro v hv
    obtain ⟨i, hi, rfl⟩ := List.getElem_of_mem hv
    have hi' : i < len := by simpa [hl] using hi
    have h1 := hval i hi'
    have e1 : (parts.toList.map fun x => a.eval x.2).getD i Go.undef = (parts.toList.map fun x => a.eval x.2)[i] := by simp only [List.getD, List.getElem?_eq_getElem hi, Option.getD_some]
    rw [e1] at h1
    rw [(h1.cells (hps i hi').1).1, (hps i hi').2]
  have hlen : (parts.toList.map fun x => a.eval x.2).length = len := by simp [hl]
  obtain ⟨i0, d, z, hi, hd, hzz, hq⟩ := mkTy_inv he
  have hsz : i0.size = q.sz := by rw [hq]
  obtain ⟨zc, hzc⟩ : ∃ zc : Array Value, zc = (if len * q.sz = 0 then #[] else z.cells) := ⟨_, rfl⟩
  obtain ⟨out, o1, o2, _, o4⟩ := fill_rows q.sz (parts.toList.map fun x => a.eval x.2) 0 ((Array.range (len * q.sz)).map (zc[· % zc.size]!)) hcl (by simp [hlen, hl])
  simp only [Nat.zero_add] at o4
  rw [hlen] at o1 o4
  obtain ⟨h1, h2⟩ := hI.alloc e q.sz (ps.map cellsP) out (by rw [o2]; simp [hpl]) (by
    intro i hi
    simp only [List.length_map] at hi
    rw [getD_map_lt _ _ _ .undef _ hi]
    exact (hps i (by omega)).2) (by
    intro i j hi hj
    simp only [List.length_map] at hi
    rw [getD_map_lt _ _ _ .undef _ hi, o4 i j (by omega) hj]
    exact ((hval i (by omega)).cells (hps i (by omega)).1).2 j (by rw [(hps i (by omega)).2]; exact hj) |>.1)
  have hzip : (parts.map fun x => (x.1, a.eval x.2)).toList = (List.range' 0 len).zip (parts.toList.map fun x => a.eval x.2) := by
    rw [← List.range_eq_range', ← hix]
    simp [List.zip_map']
  refine .value (v := .slice (some ⟨w.heap.size, 0, none⟩) len len) (w' := w.alloc (.cells out e)) ?_ ⟨_, _, h1, h2, ?_, .new rfl (Nat.le_refl _) ((Below.refl _ _).alloc (Nat.le_refl _) _)⟩
  · have hsm' : ¬ (2 ^ 24 < len * q.sz) := by omega
    have hfin : Instr.fill (fun i => some (i * q.sz, q.sz)) ((Array.range (len * q.sz)).map (zc[· % zc.size]!)) (parts.map fun x => (x.1, a.eval x.2)).toList = some out := by rw [hzip]; exact o1
    simp only [execOp, ho, Instr.buildSlice, Sem.run_bind, run_underlying (under_slice h hk), Result.andThen_ok, run_sizeOfT he]
    by_cases h0 : len * q.sz = 0
    · rw [if_pos h0] at hzc
      subst hzc
      simp [h0] at hfin
      simp [h0, hfin, run_newRow]
    · rw [if_neg h0] at hzc
      subst hzc
      have hzr : (zeroValue e).run P w = .ok z w := by simp [zeroValue, typeInfo, hi, hzz]
      simp only [Array.toList_map] at hfin
      simp [hsm', h0, hzr, hfin, run_newRow]
  · have := RelV.own (σ := σ ++ [(w.heap.size, out.size)]) (F := F) (w := w.alloc (.cells out e)) H.length q.sz 0 len len (w.heap.size, out.size)
      (by rw [← hI.len]; simp) (Nat.le_refl _) (by rw [o2]; simp) hlm
    simpa using this

end Go.Pv

namespace Go.Pv
open Go.RowKit (Below)
variable {P : Program}

/-- The parts of a struct literal: the machine's fill against buildP. -/
theorem fill_build {σ : List (Nat × Nat)} {F : Fr} {w : World} (fs : List (Nat × Nat × Bool)) (pl : Array (Nat × Nat)) (hpl : ∀ i : Nat, pl[i]? = (fs[i]?).map fun x => (x.1, x.2.1)) :
    ∀ (ps : List (Nat × PV)) (vs : List (Nat × Value)) (cells : Array Value) (cs : List PV) (out : List PV), vs.length = ps.length → (∀ i, i < ps.length → (vs.getD i default).1 = (ps.getD i default).1 ∧ RelV σ F w (vs.getD i default).2 (ps.getD i default).2) →
    cells.size = cs.length → (∀ j, j < cs.length → RelV σ F w (cells.getD j Go.undef) (cs.getD j .undef)) → buildP fs cs ps = some out →
    ∃ o, Instr.fill (pl[·]?) cells vs = some o ∧ o.size = out.length ∧ ∀ j, j < out.length → RelV σ F w (o.getD j Go.undef) (out.getD j .undef)
  | [], [], cells, cs, out, _, _, h1, h2, hb => by
    simp only [buildP, Option.some.injEq] at hb
    subst hb
    exact ⟨cells, rfl, h1, h2⟩
  | [], _ :: _, _, _, _, hl, _, _, _, _ => by simp at hl
  | _ :: _, [], _, _, _, hl, _, _, _, _ => by simp at hl
  | (i, p) :: ps, (i', v) :: vs, cells, cs, out, hl, hr, h1, h2, hb => by
    have h0 := hr 0 (by simp)
    simp only [List.getD_cons_zero] at h0
    obtain ⟨rfl, hv⟩ := h0
    simp only [buildP] at hb
    split at hb
    · rename_i off size ag hf
      split at hb
      · rename_i hc
        obtain ⟨c1, c2, c3⟩ := hc
        obtain ⟨d1, d2⟩ := hv.cells c3
        have hfit : off + v.cells.size ≤ cells.size := by omega
        obtain ⟨f1, f2⟩ := foldSet_arr off v.cells cells hfit
        have ls := length_splice cs off (cellsP p) (by omega)
        obtain ⟨o, o1, o2, o3⟩ := fill_build fs pl hpl ps vs (v.cells.zipIdx.foldl (fun cs (x : Value × Nat) => cs.setIfInBounds (off + x.2) x.1) cells) (splice cs off (cellsP p)) out (by simpa using hl)
          (fun j hj => by simpa using hr (j + 1) (by simpa using hj)) (by rw [f1, ls, h1]) (by
            intro j hj
            rw [ls] at hj
            rw [f2 j, getD_splice cs off (cellsP p) (by omega) j]
            by_cases hin : off ≤ j ∧ j < off + (cellsP p).length
            · rw [if_pos hin, if_pos (by omega)]
              exact (d2 (j - off) (by omega)).1
            · rw [if_neg hin, if_neg (by omega)]
              exact h2 j hj) hb
        refine ⟨o, ?_, o2, o3⟩
        have hp0 : pl[i']? = some (off, size) := by rw [hpl, hf]; rfl
        have hcond : (decide (v.cells.size ≠ size) || decide (off + v.cells.size > cells.size)) = false := by simp; omega
        simp only [Instr.fill, hp0]
        rw [if_neg (by simpa using hcond)]
        exact o1
      · simp at hb
    · simp at hb

theorem run_places (w : World) : ∀ (l : List Field), (∀ f ∈ l, fszOf P f.type ≠ 0) →
    ((l.mapM fun f => do pure (f.offset, ← sizeOf f.type) : Sem (List (Nat × Nat)))).run P w = .ok (l.map fun f => (f.offset, fszOf P f.type)) w
  | [], _ => by simp
  | f :: l, h => by
    have ih := run_places w l (fun g hg => h g (by simp [hg]))
    obtain ⟨i, _, hi, hs, _⟩ := fszOf_inv (P := P) (t := f.type) rfl (h f (by simp))
    have e1 : (sizeOf f.type).run P w = .ok (fszOf P f.type) w := by simp [sizeOf, typeInfo, hi, hs]
    simp only [List.mapM_cons, Sem.run_bind, e1, Result.andThen_ok, Sem.run_pure, ih, List.map_cons]

theorem sound_build {t : TypeId} {r : Ty} {fs : List (Nat × Nat × Bool)} (h : mkTy P t = some r) (hk : r.k = .struct fs) (hfs : ∀ f ∈ fs, f.2.1 ≠ 0) (parts : Array (Nat × Operand)) (ps : List PV) (out : List PV)
    (hb : buildP fs r.zero ((parts.toList.map (·.1)).zip ps) = some out) (H : Heap) : Sound P (.build t parts) ps H (.agg out) H :=
  Sound.val fun σ F w a o B ho hI hn hr => by
    have hpl : ps.length = parts.size := by simp [Op.operands] at hn; omega
    obtain ⟨fa, hu, hfa⟩ := under_struct h hk
    obtain ⟨i0, d, z, hi, hd, hzz, hq⟩ := mkTy_inv h
    have hzero : r.zero = zeroL (shapeOf P 8 t) z.cells.toList := by rw [hq]
    have hzl : z.cells.size = r.zero.length := by rw [hzero]; simp [zeroL_length]
    have hplaces := run_places (P := P) w fa.toList (fun f hf => hfs (f.offset, fszOf P f.type, aggB P f.type) (by rw [← hfa]; exact List.mem_map.2 ⟨f, hf, rfl⟩))
    have hr2 : ∀ i, i < ps.length → RelV σ F w (a.eval (parts.getD i default).2) (ps.getD i .undef) := by
      intro i hi
      have := hr i hi
      have hi2 : i < parts.size := by omega
      simp [Op.operands, Array.getD, hi2] at this
      simpa [Array.getD, hi2] using this
    obtain ⟨oc, o1, o2, o3⟩ := fill_build (σ := σ) (F := F) (w := w) fs (fs.map fun x => (x.1, x.2.1)).toArray (by simp) ((parts.toList.map (·.1)).zip ps) (parts.toList.map fun x => (x.1, a.eval x.2)) z.cells r.zero out
      (by simp [hpl]) (by
        intro i hi
        simp [hpl] at hi
        have hps : i < ps.length := by omega
        have := hr2 i hps
        have e1 : (((parts.toList.map (·.1)).zip ps).getD i default) = ((parts.getD i default).1, ps.getD i .undef) := by
          simp [List.getD, Array.getD, hi, hps, List.getElem?_zip_eq_some, List.zip, List.getElem?_zipWith]
        have e2 : ((parts.toList.map fun x => (x.1, a.eval x.2)).getD i default) = ((parts.getD i default).1, a.eval (parts.getD i default).2) := by
          simp [List.getD, Array.getD, hi]
        rw [e1, e2]
        exact ⟨rfl, this⟩) hzl (by
        intro j hj
        exact .frz (zero_rel hzero.symm j (by omega))) hb
    refine ⟨.agg oc, ?_, .agg oc out o2 o3⟩
    have hzr : (zeroValue t).run P w = .ok z w := by simp [zeroValue, typeInfo, hi, hzz]
    have hmap : (fa.toList.map fun f => (f.offset, fszOf P f.type)) = fs.map fun x => (x.1, x.2.1) := by rw [← hfa]; simp
    have hfieldM : (fa.mapM fun f => do pure (f.offset, ← sizeOf f.type) : Sem (Array (Nat × Nat))).run P w = .ok (fs.map fun x => (x.1, x.2.1)).toArray w := by
      rw [Array.mapM_eq_mapM_toList]
      rw [← hmap]
      simp only [Sem.run_bind, Sem.run_map, hplaces]
      rfl
    simp only [execOp, ho, Instr.build, Sem.run_bind, hzr, Result.andThen_ok, run_underlying hu, hfieldM, Array.toList_map, o1, Sem.run_pure]

theorem sound_field {s : TypeId} {r : Ty} {fs : List (Nat × Nat × Bool)} (h : mkTy P s = some r) (hk : r.k = .struct fs) (x : Operand) (f o fsz : Nat) (ag : Bool) (hf : fs[f]? = some (o, fsz, ag)) (hfz : fsz ≠ 0) (cs : List PV) (hle : o + fsz ≤ cs.length) (h1 : ag = false → fsz = 1) (H : Heap) :
    Sound P (.field s x f) [.agg cs] H (if ag then .agg ((cs.drop o).take fsz) else cs.getD o .undef) H :=
  Sound.val fun σ F w a op B ho hI _ hr => by
    have hx : RelV σ F w (a.eval x) (.agg cs) := by simpa using opd0 hr 0 (by simp) x (by simp [Op.operands])
    obtain ⟨vs, he, hl, hrel⟩ := hx.agg_inv
    obtain ⟨fa, hu, hfs⟩ := under_struct h hk
    rw [← hfs] at hf
    simp only [List.getElem?_map, Option.map_eq_some_iff] at hf
    obtain ⟨fl, hfl, hfe⟩ := hf
    simp only [Prod.mk.injEq] at hfe
    obtain ⟨rfl, hsz, hag⟩ := hfe
    obtain ⟨i, d, hi, hi0, hd⟩ := fszOf_inv hsz hfz
    have hfa : fa[f]? = some fl := by simpa using hfl
    have hag2 : (isAgg fl.type).run P w = .ok ag w := by
      rw [← hag]
      simp only [isAgg, Sem.run_bind, run_underlying hd, Result.andThen_ok, aggB, hd]
      cases d <;> rfl
    cases ag with
    | true =>
      refine ⟨.agg (vs.extract fl.offset (fl.offset + fsz)), ?_, ?_⟩
      · simp [execOp, ho, he, Instr.field, run_underlying hu, hfa, asAgg, part, hag2, sizeOf, typeInfo, hi, hi0]
      · rw [if_pos rfl]
        refine .agg _ _ (by simp; omega) fun j hj => ?_
        simp at hj
        have := hrel (fl.offset + j) (by omega)
        have e1 : (vs.extract fl.offset (fl.offset + fsz)).getD j Go.undef = vs.getD (fl.offset + j) Go.undef := by
          simp only [Array.getD_eq_getD_getElem?, Array.getElem?_extract]
          rw [if_pos (by omega)]
        have e2 : ((cs.drop fl.offset).take fsz).getD j .undef = cs.getD (fl.offset + j) .undef := by
          simp only [List.getD, List.getElem?_take, List.getElem?_drop, if_pos (show j < fsz by omega)]
        rw [e1, e2]; exact this
    | false =>
      have hlt : fl.offset < vs.size := by have := h1 rfl; omega
      refine ⟨vs.getD fl.offset Go.undef, ?_, ?_⟩
      · simp [execOp, ho, he, Instr.field, run_underlying hu, hfa, asAgg, part, hag2, hlt, Array.getD]
      · rw [if_neg (by simp)]
        exact hrel fl.offset (by have := h1 rfl; omega)

end Go.Pv

namespace Go.Pv
open Go.RowKit (Below)
variable {P : Program}

theorem sound_slice_own {t e : TypeId} {r q : Ty} (h : mkTy P t = some r) (hk : r.k = .slice e) (he : mkTy P e = some q) (x y : Operand) (h0 a0 len : Nat) (k : IntKind) (l : Int) (hl0 : 0 ≤ l) (hl : l < (len : Int)) (H : Heap) :
    Sound P (.slice t x (some y) none none) [.own h0 q.sz a0 len, .int k l] H (.own h0 q.sz (a0 + l.toNat) (len - l.toNat)) H :=
  Sound.val fun σ F w a op B ho hI _ hr => by
    have hx : RelV σ F w (a.eval x) (.own h0 q.sz a0 len) := by simpa using opd0 hr 0 (by simp) x (by simp [Op.operands])
    have hy : RelV σ F w (a.eval y) (.int k l) := by simpa using opd0 hr 1 (by simp) y (by simp [Op.operands])
    obtain ⟨X, cap, hb, hc, hv, hn⟩ := hx.own_inv
    have hu := under_slice h hk
    have hne : ¬ cap = l.toNat := by omega
    refine ⟨.slice (some ⟨X.1, (a0 + l.toNat) * q.sz, none⟩) (len - l.toNat) (cap - l.toNat), ?_, .own h0 q.sz (a0 + l.toNat) (len - l.toNat) (cap - l.toNat) X hb (by omega) ?_ (by have := hx.own_len; omega)⟩
    · simp [execOp, ho, hv, hy.int_inv, Instr.sliceAt, Instr.slice, run_underlying hu, Instr.sliceBounds, Instr.sliceBound, asIntOf, hl0, show l ≤ (len : Int) by omega, run_sizeOfT he, hne, add_none, Nat.add_mul]
    · have : a0 + l.toNat + (cap - l.toNat) = a0 + cap := by omega
      rw [this]; exact hn

/-- The block of one handle goes over to a new one. -/
theorem Ow.pass {B : Nat} {σ : List (Nat × Nat)} {F : Fr} {w : World} {H : Heap} (hI : Ow B σ F w H) {h0 T sz : Nat} {x0 : Nat × Nat} {es : List (List PV)} (hb : σ[h0]? = some x0) (hk : H[h0]? = some (.rows T sz es)) :
    Ow B (σ ++ [x0]) F w (H.set h0 .dead ++ [.rows T sz es]) ∧ Step B σ F w (σ ++ [x0]) F w := by
  have hst : Step B σ F w (σ ++ [x0]) F w := fun m => ⟨Below.refl _ _, fun _ _ h => h, fun _ _ => rfl, fun h b _ hb => by
      rw [List.getElem?_append_left (List.getElem?_eq_some_iff.1 hb).1]; exact hb, fun _ _ h => .inl h⟩
  have hK := hI.kill h0
  have part : ∀ (h : Nat) (x : Nat × Nat) (k : Blk), (σ ++ [x0])[h]? = some x → (H.set h0 Blk.dead ++ [.rows T sz es])[h]? = some k →
      (h < σ.length ∧ σ[h]? = some x ∧ (H.set h0 Blk.dead)[h]? = some k) ∨ (h = σ.length ∧ x = x0 ∧ k = .rows T sz es) := by
    intro h x k hb hk
    by_cases hl : h < σ.length
    · rw [List.getElem?_append_left hl] at hb
      rw [List.getElem?_append_left (by rw [List.length_set, ← hI.len]; exact hl)] at hk
      exact .inl ⟨hl, hb, hk⟩
    · have hl' : h = σ.length := by
        have := (List.getElem?_eq_some_iff.1 hb).1
        simp at this; omega
      subst hl'
      simp at hb
      rw [hI.len] at hk
      have : (H.set h0 Blk.dead ++ [Blk.rows T sz es])[H.length]? = some (Blk.rows T sz es) := by
        rw [List.getElem?_append_right (by simp)]; simp
      rw [this] at hk
      exact .inr ⟨rfl, hb.symm, by simpa using hk.symm⟩
  have bk : BlkOk σ F w x0 (.rows T sz es) := hI.ok h0 x0 _ hb hk
  have bg := hI.big h0 x0 _ hb hk (by simp)
  have other : ∀ (h : Nat) (x : Nat × Nat) (k : Blk), σ[h]? = some x → (H.set h0 Blk.dead)[h]? = some k → k ≠ .dead → x.1 ≠ x0.1 := by
    intro h x k hb' hk' hd he
    rw [List.getElem?_set] at hk'
    split at hk'
    · split at hk'
      · exact hd (by simpa using hk'.symm)
      · simp at hk'
    · rename_i hne
      exact hne (hI.inj h h0 x x0 k _ hb' hb he hk' hk hd (by simp)).symm
  have up : ∀ (x : Nat × Nat) (k : Blk), BlkOk σ F w x k → BlkOk (σ ++ [x0]) F w x k := by
    intro x k hB
    exact hB.frame (fun i y hy => (hst (i + 1)).pre i y (by omega) hy) (fun _ _ h => h) (fun _ _ => rfl) (fun _ => rfl) (fun _ h => h)
  refine ⟨⟨by simp [hI.len], ?_, ?_, ?_, hI.old, hI.base⟩, hst⟩
  · intro h x k hb' hk'
    rcases part h x k hb' hk' with ⟨_, hb', hk'⟩ | ⟨_, rfl, rfl⟩
    · exact up x k (hK.ok h x k hb' hk')
    · exact up x _ bk
  · intro h x k hb' hk' hd
    rcases part h x k hb' hk' with ⟨_, hb', hk'⟩ | ⟨_, rfl, rfl⟩
    · exact hK.big h x k hb' hk' hd
    · exact bg
  · intro h h' x x' k k' hb1 hb2 hx hk1 hk2 hd hd'
    rcases part h x k hb1 hk1 with ⟨_, p1, p2⟩ | ⟨p1, p2, _⟩
    · rcases part h' x' k' hb2 hk2 with ⟨_, q1, q2⟩ | ⟨_, q2, _⟩
      · exact hK.inj h h' x x' k k' p1 q1 hx p2 q2 hd hd'
      · exact absurd (q2 ▸ hx) (other h x k p1 p2 hd)
    · rcases part h' x' k' hb2 hk2 with ⟨_, q1, q2⟩ | ⟨q1, _, _⟩
      · exact absurd (p2 ▸ hx.symm) (other h' x' k' q1 q2 hd')
      · rw [p1, q1]

/-- What is read off a slice: its cells, one after the other. -/
theorem run_read {B : Nat} {σ : List (Nat × Nat)} {F : Fr} {w : World} {H : Heap} (hI : Ow B σ F w H) {sz : Nat} {p : PV} {v : Value} {ns : List (List PV)} (hv : RelV σ F w v p) (hs : readSl H sz p = some ns) :
    (∀ n ∈ ns, n.length = sz) ∧ ∃ b cap, (v = .slice b ns.length cap) ∧ ∃ news : List Value, news.length = ns.length * sz ∧
      (∀ w', w'.heap = w.heap → (Builtin.firstCells sz ns.length v).run P w' = .ok news.toArray w') ∧
      ∀ i j, i < ns.length → j < sz → RelV σ F w (news.getD (i * sz + j) Go.undef) ((ns.getD i []).getD j .undef) := by
  have fin : ∀ (b off cap n : Nat) (f : Nat → Nat → Value), (∀ i j, i < n → j < sz → w.cell? ⟨b, off + (i * sz + j), none⟩ = some (f i j)) → v = .slice (some ⟨b, off, none⟩) n cap →
      ∃ news : List Value, news.length = n * sz ∧ (∀ w', w'.heap = w.heap → (Builtin.firstCells sz n v).run P w' = .ok news.toArray w') ∧ ∀ i j, i < n → j < sz → news.getD (i * sz + j) Go.undef = f i j := by
    intro b off cap n f hc hv
    have split_ : ∀ u, u < n * sz → u / sz < n ∧ u % sz < sz ∧ (u / sz) * sz + u % sz = u := by
      intro u hu
      have hsz : 0 < sz := by
        rcases Nat.eq_zero_or_pos sz with rfl | h
        · simp at hu
        · exact h
      exact ⟨(Nat.div_lt_iff_lt_mul hsz).2 hu, Nat.mod_lt _ hsz, by rw [Nat.mul_comm]; exact Nat.div_add_mod u sz⟩
    refine ⟨(List.range (n * sz)).map fun u => f (u / sz) (u % sz), by simp, ?_, ?_⟩
    · intro w' hw'
      rw [hv]
      refine run_firstCells_some w' sz n ⟨b, off, none⟩ n cap _ (by simp) ?_
      intro u y hy
      simp only [List.getElem?_map, Option.map_eq_some_iff] at hy
      obtain ⟨u', hu', rfl⟩ := hy
      have hlt : u < n * sz := by simpa using (List.getElem?_eq_some_iff.1 hu').1
      obtain rfl : u = u' := by simpa [List.getElem?_range, hlt] using hu'
      obtain ⟨s1, s2, s3⟩ := split_ u hlt
      have := hc _ _ s1 s2
      rw [s3] at this
      rw [add_none]
      simpa only [World.cell?, hw'] using this
    · intro i j hi hj
      have h1 : (i + 1) * sz ≤ n * sz := Nat.mul_le_mul_right _ (by omega)
      have h2 : (i + 1) * sz = i * sz + sz := by rw [Nat.succ_mul]
      have hlt : i * sz + j < n * sz := by omega
      have hsz : 0 < sz := by omega
      have d1 : (i * sz + j) / sz = i := by rw [Nat.mul_comm, Nat.mul_add_div hsz, Nat.div_eq_of_lt hj]; omega
      have d2 : (i * sz + j) % sz = j := by rw [Nat.mul_comm, Nat.mul_add_mod, Nat.mod_eq_of_lt hj]
      simp [List.getD, hlt, d1, d2]
  cases p with
  | nil =>
    simp only [readSl, Option.some.injEq] at hs
    subst hs
    rw [hv.nil_inv]
    exact ⟨by simp, none, 0, rfl, [], by simp, fun w' _ => by simp [Builtin.firstCells], fun i j hi => by simp at hi⟩
  | sl sz' es =>
    simp only [readSl] at hs
    split at hs
    · rename_i he
      subst he
      simp only [Option.some.injEq] at hs
      subst hs
      rcases hv.sl_inv with ⟨a0, cap, rfl, hv'⟩ | ⟨b, off, cap, hF, hc, hv', hz, f, hcell, hf⟩
      · refine ⟨by simp, a0, cap, hv', [], by simp, fun w' _ => ?_, fun i j hi => by simp at hi⟩
        rw [hv']
        cases a0 <;> simp [Builtin.firstCells, loadCells, loadCellsFrom]
      · obtain ⟨news, n1, n2, n3⟩ := fin b off cap es.length f hcell hv'
        refine ⟨?_, some ⟨b, off, none⟩, cap, hv', news, n1, n2, fun i j hi hj => by rw [n3 i j hi hj]; exact .frz (hf i j hi hj)⟩
        intro n hn
        obtain ⟨i, hi, rfl⟩ := List.getElem_of_mem hn
        have := hz i hi
        simpa [List.getD, hi] using this
    · simp at hs
  | own h0 sz' a0 len =>
    simp only [readSl] at hs
    split at hs
    · rename_i T sz'' es hk
      split at hs
      · rename_i he
        obtain ⟨rfl, rfl, hle⟩ := he
        simp only [Option.some.injEq] at hs
        obtain ⟨X, cap, hb, hc, hv', hn⟩ := hv.own_inv
        obtain ⟨arr, a1, a00, a2, a3, a4, a5⟩ := hI.ok h0 X _ hb hk
        have hlen : ns.length = len := by rw [← hs]; simp; omega
        have hel : ∀ i, i < len → ns.getD i [] = es.getD (a0 + i) [] := by
          intro i hi
          rw [← hs]
          simp only [List.getD, List.getElem?_take, List.getElem?_drop, if_pos hi]
        obtain ⟨news, n1, n2, n3⟩ := fin X.1 (a0 * sz'') cap len (fun i j => arr.getD ((a0 + i) * sz'' + j) Go.undef) (by
          intro i j hi hj
          have h1 : (a0 + i + 1) * sz'' ≤ es.length * sz'' := Nat.mul_le_mul_right _ (by omega)
          have h2 : (a0 + i + 1) * sz'' = (a0 + i) * sz'' + sz'' := by rw [Nat.succ_mul]
          have hlt : (a0 + i) * sz'' + j < arr.size := by omega
          have e : a0 * sz'' + (i * sz'' + j) = (a0 + i) * sz'' + j := by rw [Nat.add_mul]; omega
          simp [World.cell?, a1, e, hlt]) hv'
        refine ⟨?_, some ⟨X.1, a0 * sz'', none⟩, cap, by rw [hlen]; exact hv', news, by rw [hlen]; exact n1, by rw [hlen]; exact n2, fun i j hi hj => ?_⟩
        · intro n hn
          obtain ⟨i, hi, rfl⟩ := List.getElem_of_mem hn
          have h1 := hel i (by omega)
          have h2 := a3 (a0 + i) (by omega)
          rw [← h1] at h2
          simpa [List.getD, hi] using h2
        · rw [hlen] at hi
          rw [n3 i j hi hj, hel i hi]
          exact a4 (a0 + i) j (by omega) hj
      · simp at hs
    · simp at hs
  | _ => simp [readSl] at hs

end Go.Pv

namespace Go.Pv
open Go.RowKit (Below)
variable {P : Program}

theorem toArrayGetD (l : List Value) (u : Nat) : l.toArray.getD u Go.undef = l.getD u Go.undef := by
  simp [Array.getD_eq_getD_getElem?, List.getD]

theorem getD_append_rows (l1 l2 : List (List PV)) (i : Nat) : (l1 ++ l2).getD i [] = if i < l1.length then l1.getD i [] else l2.getD (i - l1.length) [] := by
  simp only [List.getD, List.getElem?_append]
  split <;> rfl

theorem sound_append {t t' e e' : TypeId} {r r' q : Ty} (h : mkTy P t = some r) (hk : r.k = .slice e) (h' : mkTy P t' = some r') (hk' : r'.k = .slice e') (he : mkTy P e = some q) (cl : Call) (hc : cl.callee = .builtin .append) (ht : cl.argTypes[0]? = some t) (ht' : cl.argTypes[1]? = some t')
    (h0 : Nat) (es ns : List (List PV)) (y : PV) (H : Heap) (hH : H[h0]? = some (.rows e q.sz es)) (hr0 : readSl H q.sz y = some ns) (hcell : (ns.all fun n => n.all cellB) = true) (hz : q.zero.length = q.sz)
    (hlen : es.length + ns.length ≤ 140737488355328) (hby : (es.length + ns.length) * q.bytes ≤ 70368744177664) :
    Sound P (.call cl) [.own h0 q.sz 0 es.length, y] H (.own H.length q.sz 0 (es.length + ns.length)) (H.set h0 .dead ++ [.rows e q.sz (es ++ ns)]) := by
  intro B σ F w a o ho hI hn hr
  have hsz2 : cl.args.size = 2 := by simp [Op.operands, Call.operands, hc] at hn; omega
  obtain ⟨xo, yo, hargs⟩ : ∃ xo yo, cl.args = #[xo, yo] := by
    have hl2 : cl.args.toList.length = 2 := by simpa using hsz2
    match hm : cl.args.toList, hl2 with
    | [u, v], _ => exact ⟨u, v, by rw [← hm]⟩
  have hx : RelV σ F w (a.eval xo) (.own h0 q.sz 0 es.length) := by simpa using opd0 hr 0 (by simp) xo (by simp [Op.operands, Call.operands, hc, hargs])
  have hy : RelV σ F w (a.eval yo) y := by simpa using opd0 hr 1 (by simp) yo (by simp [Op.operands, Call.operands, hc, hargs])
  obtain ⟨X, cap, hb, hcap, hv, hnX⟩ := hx.own_inv
  obtain ⟨arr, a1, a0, a2, a3, a4, a5⟩ := hI.ok h0 X _ hb hH
  obtain ⟨hns, b, capy, hvy, news, n1, n2, n3⟩ := run_read (P := P) hI hy hr0
  have hu := under_slice h hk
  have hu' := under_slice h' hk'
  obtain ⟨i0, d, z, hi, hd, hzz, hq⟩ := mkTy_inv he
  have hisz : i0.size = q.sz := by rw [hq]
  have hiby : i0.bytes = q.bytes := by rw [hq]
  have hzs : z.cells.size = q.sz := by rw [← hz, hq]; simp [zeroL_length]
  have htag : ∀ w', (underlying t').run P w' = .ok (.slice e') w' := fun w' => run_underlying hu' w'
  have hone : ∀ v ∈ news, v.oneCell' = true := by
    intro v hv
    obtain ⟨u, hu, rfl⟩ := List.getElem_of_mem hv
    have hu2 : u < ns.length * q.sz := by omega
    have hsz0 : 0 < q.sz := by
      rcases Nat.eq_zero_or_pos q.sz with e | e
      · rw [e] at hu2; simp at hu2
      · exact e
    have s1 : u / q.sz < ns.length := (Nat.div_lt_iff_lt_mul hsz0).2 hu2
    have s2 : u % q.sz < q.sz := Nat.mod_lt _ hsz0
    have s3 : u / q.sz * q.sz + u % q.sz = u := by rw [Nat.mul_comm]; exact Nat.div_add_mod u q.sz
    have := n3 _ _ s1 s2
    rw [s3] at this
    have e1 : news.getD u Go.undef = news[u] := by simp [List.getD, hu]
    rw [e1] at this
    refine this.one ?_
    simp only [List.all_eq_true] at hcell
    have hmem : ns.getD (u / q.sz) [] ∈ ns := by simp [List.getD, s1]
    have hl := hns _ hmem
    refine hcell _ hmem _ ?_
    simp only [List.getD] at hl ⊢
    simp [hl, s2]
  have rowsOk : ∀ (ar : Array Value), (∀ i j, i < es.length → j < q.sz → ar.getD (i * q.sz + j) Go.undef = arr.getD (i * q.sz + j) Go.undef) →
      (∀ i j, i < ns.length → j < q.sz → ar.getD ((es.length + i) * q.sz + j) Go.undef = news.getD (i * q.sz + j) Go.undef) →
      (∀ i, i < (es ++ ns).length → ((es ++ ns).getD i []).length = q.sz) ∧ ∀ i j, i < (es ++ ns).length → j < q.sz → RelV σ F w (ar.getD (i * q.sz + j) Go.undef) (((es ++ ns).getD i []).getD j .undef) := by
    intro ar r1 r2
    constructor
    · intro i hi
      rw [getD_append_rows]
      split
      · rename_i hlt; exact a3 i hlt
      · rename_i hge
        have : i - es.length < ns.length := by simp at hi; omega
        exact hns _ (by simp [List.getD, this])
    · intro i j hi hj
      rw [getD_append_rows]
      split
      · rename_i hlt; rw [r1 i j hlt hj]; exact a4 i j hlt hj
      · rename_i hge
        have h2 : i - es.length < ns.length := by simp at hi; omega
        have h3 := r2 (i - es.length) j h2 hj
        rw [show es.length + (i - es.length) = i by omega] at h3
        rw [h3]; exact n3 _ j h2 hj
  by_cases hroom : es.length + ns.length ≤ cap
  · -- in place
    have hfit : es.length * q.sz + news.length ≤ arr.size := by
      rw [n1, ← Nat.add_mul, a0]
      refine Nat.le_trans (Nat.mul_le_mul_right _ hroom) ?_
      simpa using hnX
    have hst := run_storeCells_at P X.1 (es.length * q.sz) e news 0 arr w a1 (by simpa using hfit) hone
    simp only [Nat.add_zero] at hst
    obtain ⟨W, hW⟩ : ∃ W, W = w.setRow X.1 (arr.toList.take (es.length * q.sz) ++ news ++ arr.toList.drop (es.length * q.sz + news.length)).toArray := ⟨_, rfl⟩
    rw [← hW] at hst
    have hcl : (arr.toList.take (es.length * q.sz) ++ news ++ arr.toList.drop (es.length * q.sz + news.length)).length = arr.size := by simp; omega
    have get1 : ∀ u, u < es.length * q.sz → (arr.toList.take (es.length * q.sz) ++ news ++ arr.toList.drop (es.length * q.sz + news.length)).getD u Go.undef = arr.getD u Go.undef := by
      intro u hu
      simp only [List.getD, List.getElem?_append, List.length_append, List.length_take, List.getElem?_take, Array.length_toList]
      have : min (es.length * q.sz) arr.size = es.length * q.sz := by omega
      rw [this, if_pos (by omega), if_pos hu, if_pos hu]
      simp [Array.getD_eq_getD_getElem?]
    have get2 : ∀ u, u < news.length → (arr.toList.take (es.length * q.sz) ++ news ++ arr.toList.drop (es.length * q.sz + news.length)).getD (es.length * q.sz + u) Go.undef = news.getD u Go.undef := by
      intro u hu
      simp only [List.getD, List.getElem?_append, List.length_append, List.length_take, Array.length_toList]
      have : min (es.length * q.sz) arr.size = es.length * q.sz := by omega
      rw [this, if_pos (by omega), if_neg (by omega), show es.length * q.sz + u - es.length * q.sz = u by omega]
    obtain ⟨r1, r2⟩ := rowsOk (arr.toList.take (es.length * q.sz) ++ news ++ arr.toList.drop (es.length * q.sz + news.length)).toArray (by
      intro i j hi hj
      have e1 : (i + 1) * q.sz ≤ es.length * q.sz := Nat.mul_le_mul_right _ (by omega)
      have e2 : (i + 1) * q.sz = i * q.sz + q.sz := by rw [Nat.succ_mul]
      rw [toArrayGetD, get1 _ (by omega)]) (by
      intro i j hi hj
      have e1 : (i + 1) * q.sz ≤ ns.length * q.sz := Nat.mul_le_mul_right _ (by omega)
      have e2 : (i + 1) * q.sz = i * q.sz + q.sz := by rw [Nat.succ_mul]
      rw [toArrayGetD, Nat.add_mul, Nat.add_assoc, get2 _ (by omega)])
    obtain ⟨g1, g2⟩ := hI.put (w' := W) (es' := es ++ ns) hb hH (fun k hk => by rw [hW]; exact setRow_other w X.1 k _ hk) (by rw [hW]; exact setRow_heap w X.1 arr _ e (0, 0) a1)
      (by rw [← a0]; simpa using hcl) (by rw [hW]; simp [World.setRow]) (by rw [hW]; rfl) (by rw [hW]; rfl) (by rw [hW]; rfl)
      (by simp only [List.length_append, List.size_toArray, hcl]; rw [Nat.add_mul, ← n1]; exact hfit) r1 r2
    have hset : (H.set h0 (Blk.rows e q.sz (es ++ ns)))[h0]? = some (Blk.rows e q.sz (es ++ ns)) := by
      rw [List.getElem?_set_self (List.getElem?_eq_some_iff.1 hH).1]
    obtain ⟨p1, p2⟩ := g1.pass hb hset
    rw [List.set_set] at p1
    refine .value (v := .slice (some ⟨X.1, 0, none⟩) (es.length + ns.length) cap) (w' := W) ?_ ⟨σ ++ [X], F, by simpa using p1, g2.trans p2, ?_, .none (by simp [quietB, hc]) rfl⟩
    · have hf := n2 w rfl
      have ha : a.eval xo = .slice (some ⟨X.1, 0, none⟩) es.length cap := by rw [hv]; simp
      simp only [hvy] at hf
      have hsz' : (sizeOf e).run P w = .ok q.sz w := run_sizeOfT he w
      simp [execOp, ho, resolve, hc, hargs, invoke, builtin, Builtin.append_, ht, ht', run_underlying hu, run_underlying hu', ha, hvy, hsz', Builtin.lenOf, hroom, hf, add_none, hst]
    · have := RelV.own (σ := σ ++ [X]) (F := F) (w := W) H.length q.sz 0 (es.length + ns.length) cap X (by rw [← hI.len]; simp) hroom hnX hlen
      simpa using this
  · -- into a new block
    have hcapW : (σ : List (Nat × Nat)).length = H.length := hI.len
    obtain ⟨nc, hnc⟩ : ∃ nc, nc = grownCap w (es.length + ns.length) cap e := ⟨_, rfl⟩
    have hncge : es.length + ns.length ≤ nc := by rw [hnc]; exact grownCap_ge w _ _ e
    obtain ⟨olds, ol1, ol2⟩ : ∃ olds : List Value, olds = arr.toList.take (es.length * q.sz) ∧ olds.length = es.length * q.sz := ⟨_, rfl, by simp; omega⟩
    have hfo : ∀ w', w'.heap = w.heap → (Builtin.firstCells q.sz es.length (.slice (some ⟨X.1, 0, none⟩) es.length cap)).run P w' = .ok olds.toArray w' := by
      intro w' hw'
      refine run_firstCells_some w' q.sz es.length ⟨X.1, 0, none⟩ es.length cap olds ol2 ?_
      intro u v hu
      rw [ol1, List.getElem?_take] at hu
      split at hu
      · rw [add_none]
        simp only [World.cell?, hw', a1]
        simpa using hu
      · simp at hu
    obtain ⟨A, hA⟩ : ∃ A, A = olds.toArray ++ (news.toArray ++ Builtin.zeroCells z.cells (nc - (es.length + ns.length))) := ⟨_, rfl⟩
    have hAl : A.toList = olds ++ (news ++ (Builtin.zeroCells z.cells (nc - (es.length + ns.length))).toList) := by rw [hA]; simp
    have hAsz : A.size = nc * q.sz := by
      rw [hA]
      simp only [Array.size_append, List.size_toArray, ol2, n1, size_zeroCells, hzs, ← Nat.add_mul]
      congr 1; omega
    have getA1 : ∀ u, u < es.length * q.sz → A.getD u Go.undef = arr.getD u Go.undef := by
      intro u hu
      have e1 : A.getD u Go.undef = A.toList.getD u Go.undef := by simp [List.getD, Array.getD_eq_getD_getElem?]
      rw [e1, hAl, List.getD, List.getElem?_append, if_pos (by omega), ol1, List.getElem?_take, if_pos hu]
      simp [Array.getD_eq_getD_getElem?]
    have getA2 : ∀ u, u < news.length → A.getD (es.length * q.sz + u) Go.undef = news.getD u Go.undef := by
      intro u hu
      have e1 : A.getD (es.length * q.sz + u) Go.undef = A.toList.getD (es.length * q.sz + u) Go.undef := by simp [List.getD, Array.getD_eq_getD_getElem?]
      rw [e1, hAl, List.getD, List.getElem?_append, if_neg (by omega), ol2, show es.length * q.sz + u - es.length * q.sz = u by omega, List.getElem?_append, if_pos hu]
      rfl
    obtain ⟨r1, r2⟩ := rowsOk A (by
      intro i j hi hj
      have e1 : (i + 1) * q.sz ≤ es.length * q.sz := Nat.mul_le_mul_right _ (by omega)
      have e2 : (i + 1) * q.sz = i * q.sz + q.sz := by rw [Nat.succ_mul]
      rw [getA1 _ (by omega)]) (by
      intro i j hi hj
      have e1 : (i + 1) * q.sz ≤ ns.length * q.sz := Nat.mul_le_mul_right _ (by omega)
      have e2 : (i + 1) * q.sz = i * q.sz + q.sz := by rw [Nat.succ_mul]
      rw [Nat.add_mul, Nat.add_assoc, getA2 _ (by omega)])
    obtain ⟨d1, d2⟩ := hI.drew (w' := w.drew) rfl rfl rfl rfl
    obtain ⟨g1, g2⟩ := d1.alloc e q.sz (es ++ ns) A (by rw [hAsz]; simp only [List.length_append]; exact Nat.mul_le_mul_right _ hncge) r1 (fun i j hi hj => d2.rel (r2 i j hi hj))
    have hK := g1.kill h0
    have hlt : h0 < H.length := (List.getElem?_eq_some_iff.1 hH).1
    rw [List.set_append_left _ _ hlt] at hK
    refine .value (v := .slice (some ⟨w.heap.size, 0, none⟩) (es.length + ns.length) nc) (w' := w.drew.alloc (.cells A e)) ?_ ⟨_, F, hK, d2.trans g2, ?_, .none (by simp [quietB, hc]) rfl⟩
    · have ha : a.eval xo = .slice (some ⟨X.1, 0, none⟩) es.length cap := by rw [hv]; simp
      have hf := n2 w.drew rfl
      simp only [hvy] at hf
      have hfo' := hfo w.drew rfl
      have hsz' : (sizeOf e).run P w = .ok q.sz w := run_sizeOfT he w
      have hzv : (zeroValue e).run P w.drew = .ok z w.drew := by simp [zeroValue, typeInfo, hi, hzz]
      have hti : ∀ w', (typeInfo e).run P w' = .ok i0 w' := fun w' => by simp [typeInfo, hi]
      have h63 : ¬ (9223372036854775807 < ((es.length : Int) + (ns.length : Int))) := by omega
      have h48 : ¬ (281474976710656 < Builtin.nextslicecap (es.length + ns.length) cap * i0.bytes) := by
        have := growslice_fits (need := es.length + ns.length) (old := cap) (bytes := i0.bytes) (by omega) (by rw [hiby]; omega)
        omega
      have hcut : (Question.appendCap (es.length + ns.length) cap e).cut (w.tape w.drawn (.appendCap (es.length + ns.length) cap e)) = nc := by rw [hnc]; rfl
      simp [execOp, ho, resolve, hc, hargs, invoke, builtin, Builtin.append_, ht, ht', run_underlying hu, run_underlying hu', ha, hvy, hsz', Builtin.lenOf, hroom, hti, h63, h48, Question.forced, hf, hfo', hzv, hcut, newRow, hA]
      try rfl
    · have := RelV.own (σ := σ ++ [(w.drew.heap.size, A.size)]) (F := F) (w := w.drew.alloc (.cells A e)) H.length q.sz 0 (es.length + ns.length) nc (w.drew.heap.size, A.size)
        (by rw [← hI.len]; simp) hncge (by simp only [hAsz, Nat.zero_add]; exact Nat.le_refl _) hlen
      simpa using this

end Go.Pv
