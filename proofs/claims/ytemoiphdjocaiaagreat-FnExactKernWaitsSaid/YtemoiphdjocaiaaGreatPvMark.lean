/-
  What the laws' functions that mark write, and that they leave the shape. Conditions: none.
-/
import Derived.Test.YtemoiphdjocaiaaGreatPvCode
import Derived.Test.YtemoiphdjocaiaaGreatPvTy
import Derived.Laws.BytesArg
import Derived.Test.YtemoiphdjocaiaaGreatPvTo
set_option linter.all false
set_option linter.unusedSimpArgs false
set_option linter.unusedVariables false
namespace Go.Pv
open Go.RowKit (Below)

/-- The shape of a cell: a scalar, or a row of elements. -/
inductive Sh where
  | sc
  | row (cs : List Sh)
instance : Inhabited Sh := ⟨.sc⟩
mutual
def Sh.eqb : Sh → Sh → Bool
  | .sc, .sc => true
  | .row a, .row b => Sh.eqbL a b
  | _, _ => false
def Sh.eqbL : List Sh → List Sh → Bool
  | [], [] => true
  | a :: r, b :: s => Sh.eqb a b && Sh.eqbL r s
  | _, _ => false
end
mutual
theorem Sh.eq_of : ∀ {a b : Sh}, Sh.eqb a b = true → a = b
  | .sc, .sc, _ => rfl
  | .row a, .row b, h => by
    simp only [Sh.eqb] at h
    rw [Sh.eqL_of h]
  | .sc, .row _, h => by simp [Sh.eqb] at h
  | .row _, .sc, h => by simp [Sh.eqb] at h
theorem Sh.eqL_of : ∀ {a b : List Sh}, Sh.eqbL a b = true → a = b
  | [], [], _ => rfl
  | a :: r, b :: s, h => by
    simp only [Sh.eqbL, Bool.and_eq_true] at h
    rw [Sh.eq_of h.1, Sh.eqL_of h.2]
  | [], _ :: _, h => by simp [Sh.eqbL] at h
  | _ :: _, [], h => by simp [Sh.eqbL] at h
end

def isSc : Value → Bool
  | .int _ _ => true | .bool _ => true | .string _ => true
  | _ => false
theorem isSc_one {v : Value} (h : isSc v = true) : v.oneCell' = true := by cases v <;> first | rfl | simp [isSc] at h

/-- A world, and the blocks in it that are marked. -/
structure Mx where
  ws : World
  lo : Nat
  hi : Nat

/-- A value has a shape; what it leads to is told by the world at the beginning. -/
inductive Sd (M : Mx) : Value → Sh → Prop where
  | sc (v) (h : isSc v = true) : Sd M v .sc
  | row0 (a cap cs) : Sd M (.slice a 0 cap) (.row cs)
  | row (b off n cap) (cs : List Sh) (x : Nat → Nat → Value) (h1 : M.lo ≤ b) (h2 : b < M.hi) (hc : n ≤ cap) (hn : n ≤ 1048576) (ha : ∃ arr T, M.ws.heap[b]? = some (.cells arr T (0, 0)))
      (hv : ∀ i j, i < n → j < cs.length → M.ws.cell? ⟨b, off + (i * cs.length + j), none⟩ = some (x i j))
      (h : ∀ i j, i < n → j < cs.length → Sd M (x i j) (cs.getD j .sc)) : Sd M (.slice (some ⟨b, off, none⟩) n cap) (.row cs)

theorem Sd.kept {M : Mx} {x y : Value} {s : Sh} (h : Sd M x s) (h1 : isSc x = true → isSc y = true) (h2 : isSc x = false → y = x) : Sd M y s := by
  cases h with
  | sc _ h => exact .sc _ (h1 h)
  | row0 a cap cs => rw [h2 rfl]; exact .row0 a cap cs
  | row b off n cap cs x a1 a2 hc hn ha hv h => rw [h2 rfl]; exact .row b off n cap cs x a1 a2 hc hn ha hv h

/-- The marked blocks keep their shape: scalars stay scalars, all else stays. -/
structure Kept (M : Mx) (w : World) : Prop where
  size : M.hi ≤ w.heap.size
  cells : ∀ b arr T, M.lo ≤ b → b < M.hi → M.ws.heap[b]? = some (.cells arr T (0, 0)) → ∃ arr' : Array Value, w.heap[b]? = some (.cells arr' T (0, 0)) ∧
    ∀ (j : Nat) (x : Value), arr[j]? = some x → ∃ y, arr'[j]? = some y ∧ (isSc x = true → isSc y = true) ∧ (isSc x = false → y = x)
theorem Kept.start {M : Mx} (h : M.hi ≤ M.ws.heap.size) : Kept M M.ws :=
  ⟨h, fun _ arr _ _ _ ha => ⟨arr, ha, fun _ x hx => ⟨x, hx, id, fun _ => rfl⟩⟩⟩

/-- What else was there is as it was. -/
structure Fx (M : Mx) (w w' : World) : Prop where
  os : w'.os = w.os
  tape : w'.tape = w.tape
  output : w'.output = w.output
  size : w.heap.size ≤ w'.heap.size
  block : ∀ b, b < w.heap.size → ¬ (M.lo ≤ b ∧ b < M.hi) → w'.heap[b]? = w.heap[b]?
theorem Fx.refl (M : Mx) (w : World) : Fx M w w := ⟨rfl, rfl, rfl, Nat.le_refl _, fun _ _ _ => rfl⟩
theorem Fx.trans {M : Mx} {a b c : World} (h : Fx M a b) (k : Fx M b c) : Fx M a c :=
  ⟨k.os.trans h.os, k.tape.trans h.tape, k.output.trans h.output, Nat.le_trans h.size k.size, fun i hi hn => (k.block i (Nat.lt_of_lt_of_le hi h.size) hn).trans (h.block i hi hn)⟩
theorem Fx.of_below {M : Mx} {w w' : World} (h : Below w.heap.size w w') : Fx M w w' := ⟨h.os, h.tape, h.output, h.size, fun b hb _ => h.block b hb⟩
theorem Kept.below {M : Mx} {w w' : World} (K : Kept M w) (h : Below w.heap.size w w') : Kept M w' :=
  ⟨Nat.le_trans K.size h.size, fun b arr T h1 h2 ha => by
    have := K.size
    rw [h.block b (by omega)]; exact K.cells b arr T h1 h2 ha⟩

theorem Kept.cell {M : Mx} {w : World} (K : Kept M w) {b : Nat} (h1 : M.lo ≤ b) (h2 : b < M.hi) (ha : ∃ arr T, M.ws.heap[b]? = some (.cells arr T (0, 0))) {off : Nat} {x : Value} {s : Sh}
    (hc : M.ws.cell? ⟨b, off, none⟩ = some x) (hs : Sd M x s) : ∃ y, w.cell? ⟨b, off, none⟩ = some y ∧ Sd M y s := by
  obtain ⟨arr, T, ha⟩ := ha
  obtain ⟨arr', e, k⟩ := K.cells b arr T h1 h2 ha
  have hx : arr[off]? = some x := by simpa [World.cell?, ha] using hc
  obtain ⟨y, hy, k1, k2⟩ := k off x hx
  exact ⟨y, by simpa [World.cell?, e] using hy, hs.kept k1 k2⟩

theorem wrap_add2 (a b : Int) : IntKind.i64.wrap (IntKind.i64.wrap a + b) = IntKind.i64.wrap (a + b) := by
  have h : ∃ q : Int, IntKind.i64.wrap a = a + 18446744073709551616 * q := by
    simp only [IntKind.wrap, IntKind.bits, IntKind.signed, Bool.true_and, decide_eq_true_eq]
    split
    · exact ⟨-(a / 18446744073709551616) - 1, by omega⟩
    · exact ⟨-(a / 18446744073709551616), by omega⟩
  obtain ⟨q, hq⟩ := h
  have e : (a + 18446744073709551616 * q + b) % (2 ^ IntKind.i64.bits : Int) = (a + b) % (2 ^ IntKind.i64.bits : Int) := by
    have : a + 18446744073709551616 * q + b = (a + b) + 18446744073709551616 * q := by omega
    rw [this]
    exact Int.add_mul_emod_self_left (a + b) 18446744073709551616 q
  rw [hq]
  unfold IntKind.wrap
  rw [e]
theorem wrap_id2 (a : Int) : IntKind.i64.wrap (IntKind.i64.wrap a) = IntKind.i64.wrap a := by
  have := wrap_add2 a 0
  simpa using this

/-- What is told of a slot. -/
inductive AV where
  | k (c : Nat) | num | arg | ix | ix1 | c0 | ln | cmp
  | sd (s : Sh) | ag (cs : List Sh) | ptr (x : Bool) (cs : List Sh) | any
structure Gh where
  K0 : Int
  v0 : Value
  i0 : Nat
  n0 : Nat
def R (M : Mx) (G : Gh) (w : World) (v : Value) : AV → Prop
  | .k c => ∃ c' : Nat, c' ≤ c ∧ v = .int .i64 (IntKind.i64.wrap (G.K0 + c'))
  | .num => ∃ n, v = .int .i64 n
  | .arg => v = G.v0
  | .ix => v = .int .i64 (G.i0 : Int)
  | .ix1 => v = .int .i64 ((G.i0 : Int) + 1)
  | .c0 => v = .int .i64 0
  | .ln => v = .int .i64 (G.n0 : Int)
  | .cmp => v = .bool (decide (G.i0 < G.n0))
  | .sd s => Sd M v s
  | .ag cs => ∃ arr : Array Value, v = .agg arr ∧ arr.size = cs.length ∧ ∀ j, j < cs.length → Sd M (arr.getD j Go.undef) (cs.getD j .sc)
  | .ptr x cs => ∃ b off, v = .pointer (some ⟨b, off, none⟩) ∧ (bif x then M.lo ≤ b ∧ b < M.hi ∧ ∃ arr T, M.ws.heap[b]? = some (.cells arr T (0, 0)) else M.hi ≤ b ∧ b < w.heap.size) ∧
      ∃ f : Nat → Value, ∀ j, j < cs.length → (bif x then M.ws else w).cell? ⟨b, off + j, none⟩ = some (f j) ∧ Sd M (f j) (cs.getD j .sc)
  | .any => True

theorem R.fx {M : Mx} {G : Gh} {w w' : World} (h : Fx M w w') {v : Value} {av : AV} (r : R M G w v av) : R M G w' v av := by
  cases av with
  | ptr x cs =>
    cases x with
    | true => exact r
    | false =>
      obtain ⟨b, off, e, ⟨h1, h2⟩, f, hf⟩ := r
      refine ⟨b, off, e, ⟨h1, Nat.lt_of_lt_of_le h2 h.size⟩, f, fun j hj => ⟨?_, (hf j hj).2⟩⟩
      have := (hf j hj).1
      simp only [cond_false] at this ⊢
      rw [cell?_of_heap (h.block b h2 (by omega))]; exact this
  | _ => exact r

abbrev MEnv := List (Nat × AV)
def lk : MEnv → Nat → AV
  | [], _ => .any
  | (u, v) :: r, t => bif t == u then v else lk r t
def avO (E : MEnv) : Operand → AV
  | .tmp t => lk E t
  | .const (.int .i64 n) => bif n == 0 then .c0 else .any
  | _ => .any
def scB : AV → Bool
  | .k _ | .num | .ix | .ix1 | .c0 | .ln | .cmp | .sd .sc => true
  | _ => false
theorem scB_sc {M : Mx} {G : Gh} {w : World} {v : Value} {av : AV} (h : scB av = true) (r : R M G w v av) : isSc v = true := by
  cases av with
  | k c => obtain ⟨_, _, rfl⟩ := r; rfl
  | num => obtain ⟨_, rfl⟩ := r; rfl
  | ix => cases r; rfl
  | ix1 => cases r; rfl
  | c0 => cases r; rfl
  | ln => cases r; rfl
  | cmp => cases r; rfl
  | sd s =>
    cases s with
    | sc => cases r with | sc _ h => exact h
    | row => simp [scB] at h
  | _ => simp [scB] at h
theorem avO_rel {M : Mx} {G : Gh} {w : World} {E : MEnv} {a : Act} (hE : ∀ t, R M G w (a.tmps.getD t Go.undef) (lk E t)) (x : Operand) : R M G w (a.eval x) (avO E x) := by
  cases x with
  | tmp t => exact hE t
  | const v =>
    unfold avO
    split
    · rename_i t h; cases h
    · rename_i n h
      cases h
      cases hn : (n == 0) with
      | true => have := eq_of_beq hn; subst this; exact rfl
      | false => trivial
    · trivial
  | _ => trivial

/-- What a callee does: marks what it is handed, or makes a text. -/
inductive Sg where
  | mk (a : AV) (N : Nat)
  | text
def G0 : Gh := ⟨0, Go.undef, 0, 0⟩
def MK (P : Program) (f : FuncId) (a : AV) (N : Nat) : Prop :=
  Enter P f ∧ ∀ (M : Mx) (w : World) (v : Value) (K0 : Int), Kept M w → IntKind.i64.wrap K0 = K0 → R M G0 w v a →
    Calls P f #[v, .int .i64 K0] w fun e w' => ∃ c' : Nat, c' ≤ N ∧ e = .returned (.int .i64 (IntKind.i64.wrap (K0 + c'))) ∧ Kept M w' ∧ Fx M w w'
def MT (P : Program) (f : FuncId) : Prop :=
  Enter P f ∧ ∀ (w : World) (K0 : Int), IntKind.i64.wrap K0 = K0 → Calls P f #[.int .i64 K0] w fun e w' => ∃ s, e = .returned (.string s) ∧ Below w.heap.size w w'
def SgOk (P : Program) (f : FuncId) : Sg → Prop
  | .mk a N => MK P f a N
  | .text => MT P f
def avEq : AV → AV → Bool
  | .sd s, .sd t => s.eqb t
  | .ag s, .ag t => Sh.eqbL s t
  | _, _ => false
theorem avEq_rel {M : Mx} {G : Gh} {w : World} {v : Value} {x y : AV} (h : avEq x y = true) (r : R M G w v x) : R M G0 w v y := by
  unfold avEq at h
  split at h
  · rw [← Sh.eq_of h]; exact r
  · rw [← Sh.eqL_of h]; exact r
  · cases h

section chk
variable (Ts : TypeId → Option Ty) (Φ : FuncId → Option Sg) (cs0 : List Sh) (inr : Bool)
def cBox (t : TypeId) (x : AV) : Option AV := match x, Ts t with
  | .ag cs, some _ => some (.ptr false cs)
  | _, _ => none
def cField (s : TypeId) (x : AV) (f : Nat) : Option AV := match x, Ts s with
  | .ptr b cs, some r => match r.k with
    | .struct fs => match fs[f]? with
      | some (o, z, _) => bif z != 0 && decide (o ≤ cs.length) then some (.ptr b (cs.drop o)) else none
      | none => none
    | _ => none
  | _, _ => none
def cLoad (t : TypeId) (x : AV) : Option AV := match x, Ts t with
  | .ptr _ cs, some r => bif decide (r.sz ≤ cs.length) && (r.agg || decide (r.sz = 1)) then some (bif r.agg then .ag (cs.take r.sz) else .sd (cs.getD 0 .sc)) else none
  | _, _ => none
def cIndex (t : TypeId) (x y : AV) : Option AV := match x, y, Ts t with
  | .arg, .ix, some r => match r.k with
    | .slice e => match Ts e with
      | some q => bif inr && decide (q.sz = cs0.length) then some (.ptr true cs0) else none
      | none => none
    | _ => none
  | _, _, _ => none
def cStore (t : TypeId) (x y : AV) : Option AV := match x, Ts t with
  | .ptr true (.sc :: _), some r => bif decide (r.sz = 1) && scB y then some .any else none
  | _, _ => none
def cBin (op : BinOp) (x y : AV) (c : Option Int) : Option AV := match op, x, y, c with
  | .add, .k n, _, some 1 => some (.k (n + 1))
  | .add, .ix, _, some 1 => some .ix1
  | .rem, .k _, _, some 3 => some .num
  | .eql, .num, .c0, _ => some (.sd .sc)
  | .lss, .ix, .ln, _ => some .cmp
  | _, _, _, _ => none
def cstO : Operand → Option Int
  | .const (.int .i64 n) => some n
  | _ => none
def cCall (cl : Call) (E : MEnv) : Option AV := match cl.callee, cl.args.toList with
  | .builtin .len, [x] => match avO E x, cl.argTypes[0]? with
    | .arg, some t => match Ts t with
      | some r => match r.k with
        | .slice _ => some .ln
        | _ => none
      | none => none
    | _, _ => none
  | .value (.func f), [x, y] => match Φ f, avO E y with
    | some (.mk a N), .k c => bif avEq (avO E x) a then some (.k (c + N)) else none
    | _, _ => none
  | .value (.func f), [y] => match Φ f, avO E y with
    | some .text, .k _ => some (.sd .sc)
    | _, _ => none
  | _, _ => none
def chkOp (E : MEnv) : Op → Option AV
  | .move x => some (avO E x)
  | .assign x => some (avO E x)
  | .box t x => cBox Ts t (avO E x)
  | .fieldAddr s x f => cField Ts s (avO E x) f
  | .load t x => cLoad Ts t (avO E x)
  | .indexAddr t x y => cIndex Ts cs0 inr t (avO E x) (avO E y)
  | .store t x y => cStore Ts t (avO E x) (avO E y)
  | .binOp op _ x y _ => cBin op (avO E x) (avO E y) (cstO y)
  | .call cl => cCall Ts Φ cl E
  | _ => none
def putM (E : MEnv) : Option Tmp → AV → MEnv
  | some d, av => (d, av) :: E
  | none, _ => E
def dstB (n : Nat) : Option Tmp → Bool
  | some d => decide (d < n)
  | none => true
def chkOps (n : Nat) : List Oper → MEnv → Option MEnv
  | [], E => some E
  | o :: r, E => match o.guard, dstB n o.dst, chkOp Ts Φ cs0 inr E o.op with
    | none, true, some av => chkOps n r (putM E o.dst av)
    | _, _, _ => none
def chkC (n : Nat) : Code → MEnv → Option MEnv
  | .skip, E => some E
  | .region _ ops false, E => chkOps Ts Φ cs0 inr n ops.toList E
  | .seq x y, E => match chkC n x E with
    | some E' => chkC n y E'
    | none => none
  | .block _ c, E => chkC n c E
  | _, _ => none
end chk
end Go.Pv

namespace Go.Pv
open Go.RowKit (Below)

def lenV : Value → Nat
  | .slice _ n _ => n
  | _ => 0

theorem Sd.isSc {M : Mx} {v : Value} (h : Sd M v .sc) : isSc v = true := by cases h with | sc _ h => exact h
section ops
variable {P : Program} {Ts : TypeId → Option Ty} (hTs : ∀ t r, Ts t = some r → mkTy P t = some r) {M : Mx} {G : Gh} {w : World} {a : Act} {o : Oper}

/-- What an operation leaves. -/
def Lv (M : Mx) (G : Gh) (w : World) (av : AV) (v : Value) (w' : World) : Prop := R M G w' v av ∧ Kept M w' ∧ Fx M w w'
theorem Lv.same {av : AV} {v : Value} (K : Kept M w) (h : R M G w v av) : Lv M G w av v w := ⟨h, K, Fx.refl M w⟩

include hTs in
theorem cBox_sound {t : TypeId} {x : Operand} {av xv : AV} (h : cBox Ts t xv = some av) (ho : o.op = .box t x) (hx : R M G w (a.eval x) xv) (K : Kept M w) : StepOk P o a w (Lv M G w av) := by
  unfold cBox at h
  split at h
  · rename_i cs r hr
    cases h
    obtain ⟨arr, e, hn, hs⟩ := hx
    have hB := (Below.refl w.heap.size w).alloc (Nat.le_refl _) (.cells (a.eval x).cells t)
    refine .value (v := .pointer (some ⟨w.heap.size, 0, none⟩)) (w' := w.alloc (.cells (a.eval x).cells t)) (by simp [execOp, ho, Instr.box, newVar, run_newRow]) ⟨⟨_, _, rfl, ⟨K.size, ?_⟩, fun j => arr.getD j Go.undef, fun j hj => ⟨?_, hs j hj⟩⟩, K.below hB, .of_below hB⟩
    · simp
    · have e2 : (a.eval x).cells = arr := by rw [e]; rfl
      have hlt : j < arr.size := by omega
      simp only [cond_false, World.cell?, e2]
      have : (w.alloc (.cells arr t)).heap[w.heap.size]? = some (.cells arr t) := by show (w.heap.push _)[w.heap.size]? = _; simp
      rw [this]
      simp [hlt, Array.getD]
  · cases h

include hTs in
theorem cField_sound {s : TypeId} {x : Operand} {f : Nat} {av xv : AV} (h : cField Ts s xv f = some av) (ho : o.op = .fieldAddr s x f) (hx : R M G w (a.eval x) xv) (K : Kept M w) : StepOk P o a w (Lv M G w av) := by
  unfold cField at h
  split at h
  · rename_i b cs r hr
    split at h
    · rename_i fs hk
      split at h
      · rename_i o' z ag hf
        cases hb : (z != 0 && decide (o' ≤ cs.length)) with
        | false => rw [hb] at h; cases h
        | true =>
          rw [hb] at h
          cases h
          simp only [Bool.and_eq_true, bne_iff_ne, ne_eq, decide_eq_true_eq] at hb
          obtain ⟨hz, hle⟩ := hb
          obtain ⟨blk, off, he, hside, g, hg⟩ := hx
          obtain ⟨fa, hu, hfs⟩ := under_struct (hTs _ _ hr) hk
          rw [← hfs] at hf
          simp only [List.getElem?_map, Option.map_eq_some_iff] at hf
          obtain ⟨fl, hfl, hfe⟩ := hf
          simp only [Prod.mk.injEq] at hfe
          obtain ⟨rfl, hsz, _⟩ := hfe
          obtain ⟨i, _, hi, hi0, _⟩ := fszOf_inv hsz hz
          have hi0 : i.size ≠ 0 := by omega
          refine .value (v := .pointer (some ⟨blk, off + fl.offset, none⟩)) (w' := w) ?_ (.same K ⟨blk, off + fl.offset, rfl, hside, fun j => g (fl.offset + j), fun j hj => ?_⟩)
          · have hfa : fa[f]? = some fl := by simpa using hfl
            simp [execOp, ho, he, Instr.fieldAt, run_underlying hu, hfa, Instr.sureAddr, fieldPlace, sizeOf, typeInfo, hi, hi0, add_none]
          · simp only [List.length_drop] at hj
            have := hg (fl.offset + j) (by omega)
            have e : (cs.drop fl.offset).getD j .sc = cs.getD (fl.offset + j) .sc := by simp [List.getD, List.getElem?_drop]
            rw [e, Nat.add_assoc]; exact this
      · cases h
    · cases h
  · cases h

theorem ptr_cells {b : Bool} {cs : List Sh} {v : Value} (K : Kept M w) (h : R M G w v (.ptr b cs)) : ∃ blk off, v = .pointer (some ⟨blk, off, none⟩) ∧ ∃ f : Nat → Value, ∀ j, j < cs.length → w.cell? ⟨blk, off + j, none⟩ = some (f j) ∧ Sd M (f j) (cs.getD j .sc) := by
  obtain ⟨blk, off, e, hs, f, hf⟩ := h
  cases b with
  | false => exact ⟨blk, off, e, f, hf⟩
  | true =>
    refine ⟨blk, off, e, fun j => (w.cell? ⟨blk, off + j, none⟩).getD Go.undef, fun j hj => ?_⟩
    obtain ⟨y, hy, hs'⟩ := K.cell hs.1 hs.2.1 hs.2.2 (hf j hj).1 (hf j hj).2
    show w.cell? ⟨blk, off + j, none⟩ = some ((w.cell? ⟨blk, off + j, none⟩).getD Go.undef) ∧ Sd M ((w.cell? ⟨blk, off + j, none⟩).getD Go.undef) _
    rw [hy]
    exact ⟨rfl, hs'⟩

include hTs in
theorem cLoad_sound {t : TypeId} {x : Operand} {av xv : AV} (h : cLoad Ts t xv = some av) (ho : o.op = .load t x) (hx : R M G w (a.eval x) xv) (K : Kept M w) : StepOk P o a w (Lv M G w av) := by
  unfold cLoad at h
  split at h
  · rename_i b cs r hr
    cases hb : (decide (r.sz ≤ cs.length) && (r.agg || decide (r.sz = 1))) with
    | false => rw [hb] at h; cases h
    | true =>
      rw [hb] at h
      cases h
      simp only [Bool.and_eq_true, Bool.or_eq_true, decide_eq_true_eq] at hb
      obtain ⟨hle, h1⟩ := hb
      obtain ⟨blk, off, he, f, hf⟩ := ptr_cells K hx
      obtain ⟨v, hv, hv'⟩ := run_loadVarP (hTs _ _ hr) w blk off f cs.length hle (fun hag => by rcases h1 with h1 | h1; rw [hag] at h1; cases h1; exact h1) (fun j hj => (hf j hj).1)
      refine .value (v := v) (w' := w) (by simp [execOp, ho, he, Instr.loadAt, Instr.sureAddr, hv]) (.same K ?_)
      rcases hv' with ⟨ha, rfl⟩ | ⟨ha, rfl⟩
      · rw [ha]
        refine ⟨_, rfl, by simp; omega, fun j hj => ?_⟩
        simp only [List.length_take] at hj
        have hj' : j < r.sz := by omega
        have e1 : (((List.range r.sz).map f).toArray).getD j Go.undef = f j := by simp [Array.getD, hj']
        have e2 : (cs.take r.sz).getD j .sc = cs.getD j .sc := by simp [List.getD, hj']
        rw [e1, e2]
        exact (hf j (by omega)).2
      · rw [ha] at h1 ⊢
        have : r.sz = 1 := by rcases h1 with h1 | h1; cases h1; exact h1
        exact (hf 0 (by omega)).2
  · cases h

include hTs in
theorem cIndex_sound {cs0 : List Sh} {inr : Bool} (hv : Sd M G.v0 (.row cs0)) (hn : lenV G.v0 = G.n0) (hin : inr = true → G.i0 < G.n0) {t : TypeId} {x y : Operand} {av xv yv : AV} (h : cIndex Ts cs0 inr t xv yv = some av) (ho : o.op = .indexAddr t x y)
    (hx : R M G w (a.eval x) xv) (hy : R M G w (a.eval y) yv) (K : Kept M w) : StepOk P o a w (Lv M G w av) := by
  unfold cIndex at h
  split at h
  · rename_i r hr
    split at h
    · rename_i e hk
      split at h
      · rename_i q hq
        cases hb : (inr && decide (q.sz = cs0.length)) with
        | false => rw [hb] at h; cases h
        | true =>
          rw [hb] at h
          cases h
          simp only [Bool.and_eq_true, decide_eq_true_eq] at hb
          have hlt := hin hb.1
          have hx : a.eval x = G.v0 := hx
          have hy : a.eval y = .int .i64 (G.i0 : Int) := hy
          have hu := under_slice (hTs _ _ hr) hk
          generalize hgv : G.v0 = v0 at hv hn hx
          cases hv with
          | row0 a' cap => simp only [lenV] at hn; omega
          | row b off n cap _ f h1 h2 hc hnn ha hv hs =>
            simp only [lenV] at hn
            have hi : (G.i0 : Int) < (n : Int) := by omega
            refine .value (v := .pointer (some ⟨b, off + G.i0 * q.sz, none⟩)) (w' := w) ?_ (.same K ⟨b, off + G.i0 * q.sz, rfl, ⟨h1, h2, ha⟩, fun j => f G.i0 j, fun j hj => ⟨?_, hs _ _ (by omega) hj⟩⟩)
            · simp [execOp, ho, hx, hy, Instr.indexAt, asIntOf, run_underlying hu, run_sizeOfT (hTs _ _ hq), add_none]
              intro hle; omega
            · rw [hb.2, Nat.add_assoc]; exact hv _ _ (by omega) hj
      · cases h
    · cases h
  · cases h

include hTs in
theorem cStore_sound {t : TypeId} {x y : Operand} {av xv yv : AV} (h : cStore Ts t xv yv = some av) (ho : o.op = .store t x y) (hx : R M G w (a.eval x) xv) (hy : R M G w (a.eval y) yv) (K : Kept M w) : StepOk P o a w (Lv M G w av) := by
  unfold cStore at h
  split at h
  · rename_i cs r hr
    cases hb : (decide (r.sz = 1) && scB yv) with
    | false => rw [hb] at h; cases h
    | true =>
      rw [hb] at h
      cases h
      simp only [Bool.and_eq_true, decide_eq_true_eq] at hb
      have hsc := scB_sc hb.2 hy
      obtain ⟨b, off, he, ⟨h1, h2, arr, T, ha⟩, f, hf⟩ := hx
      obtain ⟨hc0, hs0⟩ := hf 0 (by simp)
      simp only [cond_true, Nat.add_zero] at hc0
      have hx0 : arr[off]? = some (f 0) := by simpa [World.cell?, ha] using hc0
      have hf0 : isSc (f 0) = true := by
        exact Sd.isSc (by simpa using hs0)
      obtain ⟨arr', e1, k1⟩ := K.cells b arr T h1 h2 ha
      obtain ⟨y0, hy0, _⟩ := k1 off _ hx0
      have hoff : off < arr'.size := (Array.getElem?_eq_some_iff.1 hy0).1
      have hcells : (a.eval y).cells = #[a.eval y] := cells_of_one (isSc_one hsc)
      have hst := run_storeCells_at P b off T [a.eval y] 0 arr' w e1 (by simp; omega) (by intro v hv; simp at hv; subst hv; exact isSc_one hsc)
      simp only [Nat.add_zero] at hst
      obtain ⟨arr2, h2e⟩ : ∃ A, A = (arr'.toList.take off ++ [a.eval y] ++ arr'.toList.drop (off + [a.eval y].length)).toArray := ⟨_, rfl⟩
      rw [← h2e] at hst
      have hat : ∀ j, arr2[j]? = if j = off then some (a.eval y) else arr'[j]? := by
        intro j
        rw [h2e]
        simp only [List.getElem?_toArray, List.getElem?_append, List.length_append, List.length_take, List.getElem?_take, List.getElem?_drop, Array.length_toList, List.length_cons, List.length_nil]
        have hmin : min off arr'.size = off := by omega
        rw [hmin]
        by_cases hu1 : j < off
        · rw [if_pos (by omega), if_pos hu1, if_pos hu1, if_neg (by omega)]; simp
        · by_cases hu2 : j = off
          · subst hu2; simp
          · rw [if_neg (by omega), if_neg hu2]
            simp only [Array.getElem?_toList]
            congr 1; omega
      have hrow := setRow_heap w b arr' arr2 T (0, 0) e1
      refine .skip (w' := w.setRow b arr2) (by
        simp only [execOp, ho, Instr.storeAt, Instr.sureAddr, he]
        simp [storeVar, run_sizeOfT (hTs _ _ hr), hcells, hb.1, hst]) ⟨trivial, ⟨by simpa [World.setRow] using K.size, fun b' arr0 T' g1 g2 g3 => ?_⟩, ⟨rfl, rfl, rfl, by simp [World.setRow], fun b' hb' hn => ?_⟩⟩
      · by_cases hbb : b' = b
        · subst hbb
          rw [ha] at g3
          simp only [Option.some.injEq, Obj.cells.injEq] at g3
          obtain ⟨rfl, rfl, _⟩ := g3
          refine ⟨arr2, hrow, fun j x hx => ?_⟩
          rw [hat]
          by_cases hj : j = off
          · subst hj
            rw [hx0] at hx
            cases hx
            exact ⟨_, if_pos rfl, fun _ => hsc, fun h => by rw [hf0] at h; cases h⟩
          · rw [if_neg hj]; exact k1 j x hx
        · obtain ⟨arr3, e3, k3⟩ := K.cells b' arr0 T' g1 g2 g3
          exact ⟨arr3, by simp only [World.setRow, Array.getElem?_modify]; rw [if_neg (by omega)]; exact e3, k3⟩
      · simp only [World.setRow, Array.getElem?_modify]
        rw [if_neg (fun e => hn ⟨by omega, by omega⟩)]
  · cases h

end ops
end Go.Pv

namespace Go.Pv
open Go.RowKit (Below)

theorem cst_eval {a : Act} {y : Operand} {n : Int} (h : cstO y = some n) : a.eval y = .int .i64 n := by
  unfold cstO at h
  split at h
  · cases h; rfl
  · cases h

section ops
variable {P : Program} {Ts : TypeId → Option Ty} (hTs : ∀ t r, Ts t = some r → mkTy P t = some r) {Φ : FuncId → Option Sg} (hΦ : ∀ f s, Φ f = some s → SgOk P f s) {M : Mx} {G : Gh} {w : World} {a : Act} {o : Oper}

theorem cBin_sound {op : BinOp} {t t' : TypeId} {x y : Operand} {av xv yv : AV} (hi : G.i0 ≤ 1048576) (h : cBin op xv yv (cstO y) = some av) (ho : o.op = .binOp op t x y t') (hx : R M G w (a.eval x) xv) (hy : R M G w (a.eval y) yv) (K : Kept M w) : StepOk P o a w (Lv M G w av) := by
  have hg : ∀ op : BinOp, ∀ n m : Int, (eqGuard op t x y (.int .i64 n) (.int .i64 m)).run P w = .ok () w := fun op n m => by unfold eqGuard; cases op <;> rfl
  generalize hc : cstO y = c at h
  unfold cBin at h
  split at h
  · cases h
    obtain ⟨c', hc', e⟩ := hx
    have ey := cst_eval (a := a) hc
    refine .value (v := .int .i64 (IntKind.i64.wrap (IntKind.i64.wrap (G.K0 + c') + 1))) (w' := w) (by simp [execOp, ho, e, ey, hg, binOp, Op.intArith, Op.intCmp]) (.same K ⟨c' + 1, by omega, ?_⟩)
    rw [wrap_add2, Int.add_assoc]; rfl
  · cases h
    have hx : a.eval x = .int .i64 (G.i0 : Int) := hx
    have ey := cst_eval (a := a) hc
    have hw : IntKind.i64.wrap ((G.i0 : Int) + 1) = (G.i0 : Int) + 1 := by
      rw [IntKind.wrap_i64]; omega
    refine .value (v := .int .i64 ((G.i0 : Int) + 1)) (w' := w) ?_ (.same K rfl)
    simp [execOp, ho, hx, ey, hg, binOp, Op.intArith, Op.intCmp, hw]
  · cases h
    obtain ⟨c', hc', e⟩ := hx
    have ey := cst_eval (a := a) hc
    refine .value (w' := w) (by simp [execOp, ho, e, ey, hg, binOp, Op.intDiv]; rfl) (.same K ⟨_, rfl⟩)
  · cases h
    obtain ⟨n, e⟩ := hx
    have ey : a.eval y = .int .i64 0 := hy
    have hgg : (eqGuard .eql t x y (.int .i64 n) (.int .i64 0)).run P w = .ok () w := by unfold eqGuard; rfl
    refine .value (v := .bool (n == 0)) (w' := w) ?_ (.same K (.sc _ rfl))
    simp [execOp, ho, e, ey, hg, binOp, Op.intArith, Op.intCmp]
  · cases h
    have hx : a.eval x = .int .i64 (G.i0 : Int) := hx
    have ey : a.eval y = .int .i64 (G.n0 : Int) := hy
    refine .value (v := .bool (decide (G.i0 < G.n0))) (w' := w) ?_ (.same K rfl)
    simp [execOp, ho, hx, ey, hg, binOp, Op.intArith, Op.intCmp]
  · cases h

theorem run_callee {cl : Call} {f : FuncId} (hc : cl.callee = .value (.func f)) (hE : Enter P f) (ho : o.op = .call cl) : (execOp a.eval o).run P w = .ok (.enter f (cl.args.map a.eval)) w := by
  obtain ⟨fn, hfn, hname, hbody⟩ := hE
  have hname' : ¬ fn.name = "runtime.NumGoroutine" := by simpa using hname
  have hbody' : ¬ fn.body = none := fun e => by simp [e] at hbody
  simp [execOp, ho, resolve, hc, Act.eval, Deferred.ofValue, invoke, callFunc, show ∀ w, Sem.run P program w = .ok P w from fun _ => rfl, hfn, hname', hbody']

include hTs hΦ in
theorem cCall_sound {cs0 : List Sh} (hv : Sd M G.v0 (.row cs0)) (hn : lenV G.v0 = G.n0) {cl : Call} {E : MEnv} {av : AV} (h : cCall Ts Φ cl E = some av) (ho : o.op = .call cl)
    (hE : ∀ t, R M G w (a.tmps.getD t Go.undef) (lk E t)) (K : Kept M w) : StepOk P o a w (Lv M G w av) := by
  unfold cCall at h
  split at h
  · rename_i x hc hargs
    have hx := avO_rel hE x
    generalize avO E x = xv at h hx
    split at h
    · rename_i t ht
      split at h
      · rename_i r hr
        split at h
        · rename_i e hk
          cases h
          have hx : a.eval x = G.v0 := hx
          have hu := under_slice (hTs _ _ hr) hk
          have hargs' : cl.args = #[x] := by rw [← Array.toArray_toList (xs := cl.args), hargs]
          generalize hgv : G.v0 = v0 at hv hn hx
          refine .value (v := .int .i64 (G.n0 : Int)) (w' := w) ?_ (.same K rfl)
          cases hv with
          | row0 a' cap => simp only [lenV] at hn; simp [execOp, ho, resolve, hc, hargs', invoke, builtin, Builtin.len_, ht, hx, run_underlying hu, goInt, ← hn]
          | row b off n cap _ f h1 h2 hc' hnn ha hv hs => simp only [lenV] at hn; simp [execOp, ho, resolve, hc, hargs', invoke, builtin, Builtin.len_, ht, hx, run_underlying hu, goInt, ← hn]
        · cases h
      · cases h
    · cases h
  · rename_i f x y hc hargs
    have hx := avO_rel hE x
    have hy := avO_rel hE y
    generalize avO E x = xv at h hx
    generalize avO E y = yv at h hy
    split at h
    · rename_i av' N c hf
      cases hb : avEq xv av' with
      | false => rw [hb] at h; cases h
      | true =>
        rw [hb] at h
        cases h
        obtain ⟨hEn, hcon⟩ := hΦ _ _ hf
        have hargs' : cl.args = #[x, y] := by rw [← Array.toArray_toList (xs := cl.args), hargs]
        obtain ⟨c', hc', e⟩ := hy
        have hcalls := hcon M w (a.eval x) (IntKind.i64.wrap (G.K0 + c')) K (wrap_id2 _) (avEq_rel hb hx)
        refine .enter (run_callee hc hEn ho) ?_
        rw [hargs']
        simp only [List.map_toArray, List.map_cons, List.map_nil, e]
        refine hcalls.mono ?_
        rintro e' w' ⟨d, hd, rfl, hK, hF⟩
        refine ⟨_, rfl, ⟨c' + d, by omega, ?_⟩, hK, hF⟩
        rw [wrap_add2, Int.add_assoc]
        simp
    · cases h
  · rename_i f y hc hargs
    have hy := avO_rel hE y
    generalize avO E y = yv at h hy
    split at h
    · rename_i c hf
      cases h
      obtain ⟨hEn, hcon⟩ := hΦ _ _ hf
      have hargs' : cl.args = #[y] := by rw [← Array.toArray_toList (xs := cl.args), hargs]
      obtain ⟨c', hc', e⟩ := hy
      refine .enter (run_callee hc hEn ho) ?_
      rw [hargs']
      simp only [List.map_toArray, List.map_cons, List.map_nil, e]
      refine (hcon w (IntKind.i64.wrap (G.K0 + c')) (wrap_id2 _)).mono ?_
      rintro e' w' ⟨s, rfl, hB⟩
      exact ⟨_, rfl, .sc _ rfl, K.below hB, .of_below hB⟩
    · cases h
  · cases h

include hTs hΦ in
theorem chkOp_sound {cs0 : List Sh} {inr : Bool} (hv : Sd M G.v0 (.row cs0)) (hn : lenV G.v0 = G.n0) (hi : G.i0 ≤ 1048576) (hin : inr = true → G.i0 < G.n0) {E : MEnv} {av : AV} (h : chkOp Ts Φ cs0 inr E o.op = some av)
    (hE : ∀ t, R M G w (a.tmps.getD t Go.undef) (lk E t)) (K : Kept M w) : StepOk P o a w (Lv M G w av) := by
  generalize ho : o.op = op at h
  cases op <;> simp only [chkOp, reduceCtorEq, Option.some.injEq] at h
  case move x => subst h; exact .value (v := a.eval x) (w' := w) (by simp [execOp, ho]) (.same K (avO_rel hE x))
  case assign x => subst h; exact .value (v := a.eval x) (w' := w) (by simp [execOp, ho]) (.same K (avO_rel hE x))
  case box t x => exact cBox_sound hTs h ho (avO_rel hE x) K
  case fieldAddr s x f => exact cField_sound hTs h ho (avO_rel hE x) K
  case load t x => exact cLoad_sound hTs h ho (avO_rel hE x) K
  case indexAddr t x y => exact cIndex_sound hTs hv hn hin h ho (avO_rel hE x) (avO_rel hE y) K
  case store t x y => exact cStore_sound hTs h ho (avO_rel hE x) (avO_rel hE y) K
  case binOp op t x y t' => exact cBin_sound hi h ho (avO_rel hE x) (avO_rel hE y) K
  case call cl => exact cCall_sound hTs hΦ hv hn h ho hE K

/-- How a machine's state stands to what is told of it. -/
structure St (M : Mx) (G : Gh) (n : Nat) (w0 : World) (E : MEnv) (a : Act) (w : World) : Prop where
  size : a.tmps.size = n
  defers : a.defers = []
  env : ∀ t, R M G w (a.tmps.getD t Go.undef) (lk E t)
  kept : Kept M w
  fx : Fx M w0 w

theorem St.put {n : Nat} {w0 w' : World} {E : MEnv} (s : St M G n w0 E a w) {d : Option Tmp} (hd : dstB n d = true) {av : AV} {v : Value} (h : Lv M G w av v w') : St M G n w0 (putM E d av) (a.put d v) w' := by
  obtain ⟨h1, h2, h3⟩ := h
  refine ⟨by cases d <;> simp [Act.put, s.size], by cases d <;> simp [Act.put, s.defers], fun t => ?_, h2, s.fx.trans h3⟩
  cases d with
  | none => exact (s.env t).fx h3
  | some d =>
    have hlt : d < a.tmps.size := by rw [s.size]; simpa [dstB] using hd
    simp only [putM, lk]
    by_cases ht : t = d
    · subst ht
      rw [getD_put_eq hlt]
      simpa using h1
    · have : (t == d) = false := by simpa using ht
      rw [this, getD_put_ne (by simp [Ne.symm ht])]
      exact (s.env t).fx h3

include hTs hΦ in
theorem chkOps_sound {cs0 : List Sh} {inr : Bool} (hv : Sd M G.v0 (.row cs0)) (hn : lenV G.v0 = G.n0) (hi : G.i0 ≤ 1048576) (hin : inr = true → G.i0 < G.n0) {n : Nat} {w0 : World} (ops : Array Oper) (Q : Exit → Act → World → Prop) {E' : MEnv}
    (hq : ∀ a w, St M G n w0 E' a w → Q .normal a w) :
    ∀ (m k : Nat) (E : MEnv) (a : Act) (w : World), k + m = ops.size → chkOps Ts Φ cs0 inr n (ops.toList.drop k) E = some E' → St M G n w0 E a w → wpOps P ops Q (List.range' k m) a w
  | 0, k, E, a, w, hk, h, s => by
    have : ops.toList.drop k = [] := by simp; omega
    rw [this] at h
    cases h
    exact hq a w s
  | m + 1, k, E, a, w, hk, h, s => by
    have hlt : k < ops.size := by omega
    have ho : ops[k]? = some ops[k] := by simp [hlt]
    rw [List.drop_eq_getElem_cons (by simpa using hlt)] at h
    simp only [Array.getElem_toList, chkOps] at h
    split at h
    · rename_i av hg hd hc
      have hw : Region.wanted ops[k] (yielded ops a.tmps) = true := by unfold Region.wanted; rw [hg]
      rw [List.range'_succ]
      simp only [wpOps, ho, hw, if_true]
      refine .inl (chkOp_sound hTs hΦ hv hn hi hin hc s.env s.kept _ _ ?_)
      intro v w' hl
      exact chkOps_sound hv hn hi hin ops Q hq m (k + 1) _ _ _ (by omega) h (s.put hd hl)
    · cases h

include hTs hΦ in
theorem chkC_sound {cs0 : List Sh} {inr : Bool} (hv : Sd M G.v0 (.row cs0)) (hn : lenV G.v0 = G.n0) (hi : G.i0 ≤ 1048576) (hin : inr = true → G.i0 < G.n0) {n : Nat} {w0 : World} : ∀ (c : Code) (E E' : MEnv) (a : Act) (w : World) (Q : Exit → Act → World → Prop),
    chkC Ts Φ cs0 inr n c E = some E' → St M G n w0 E a w → (∀ a w, St M G n w0 E' a w → Q .normal a w) → c.wp P Q a w := by
  intro c
  induction c with
  | skip => intro E E' a w Q h s hq; simp only [chkC, Option.some.injEq] at h; subst h; exact wp_skip (hq a w s)
  | region id ops d =>
    intro E E' a w Q h s hq
    cases d with
    | false =>
      refine wp_region ?_
      rw [List.range_eq_range']
      exact chkOps_sound hTs hΦ hv hn hi hin ops Q hq ops.size 0 E a w (by omega) (by simpa [chkC] using h) s
    | true => simp [chkC] at h
  | seq x y ihx ihy =>
    intro E E' a w Q h s hq
    simp only [chkC] at h
    split at h
    · rename_i E1 h1
      exact wp_seq (ihx E E1 a w _ h1 s fun a w s => ihy E1 E' a w Q h s hq)
    · cases h
  | block id c ih =>
    intro E E' a w Q h s hq
    exact wp_block (ih E E' a w _ (by simpa [chkC] using h) s fun a w s => hq a w s)
  | _ => intro E E' a w Q h s hq; simp [chkC] at h
end ops
end Go.Pv

namespace Go.Pv
open Go.RowKit (Below)

section
variable (Ts : TypeId → Option Ty) (Φ : FuncId → Option Sg)
def kOf : AV → Option Nat
  | .k c => some c
  | _ => none
def isArg : AV → Bool | .arg => true | _ => false
def isC0 : AV → Bool | .c0 => true | _ => false
def isIx1 : AV → Bool | .ix1 => true | _ => false
def isCmp : AV → Bool | .cmp => true | _ => false
def headE : MEnv := [(0, .arg), (1, .k 0), (5, .ix)]
/-- One round of the loop: how much it counts. -/
def chkRound (n : Nat) (cs0 : List Sh) (c2 : Code) (tc : Tmp) (body c3 : Code) : Option Nat :=
  match chkC Ts Φ cs0 false n c2 headE with
  | some E2 => match chkC Ts Φ cs0 true n body E2 with
    | some E3 => match chkC Ts Φ cs0 true n c3 E3 with
      | some E4 => bif isCmp (lk E2 tc) && decide (kOf (lk E2 1) = some 0) && isArg (lk E4 0) && isIx1 (lk E4 5) then kOf (lk E4 1) else none
      | none => none
    | none => none
  | none => none
def chkLoopF (n : Nat) (cs0 : List Sh) : Code → Option Nat
  | .seq c0 (.seq (.seq c1 (.block 0 (.loop (.seq (.seq c2 (.cond (.tmp tc) .skip (.exit 0))) (.seq body c3))))) (.seq c6 .ret)) =>
    match chkC Ts Φ cs0 false n (.seq c0 c1) [(0, .arg), (1, .k 0)], chkRound Ts Φ n cs0 c2 tc body c3 with
    | some Eb, some m => match chkC Ts Φ cs0 false n c6 [(1, .k (1048576 * m))] with
      | some E6 => bif decide (kOf (lk Eb 1) = some 0) && isArg (lk Eb 0) && isC0 (lk Eb 5) then kOf (lk E6 4) else none
      | none => none
    | _, _ => none
  | _ => none
def chkS (n : Nat) : Code → MEnv → Option MEnv
  | .seq x y, E => match chkC Ts Φ [] false n x E with
    | some E' => chkS n y E'
    | none => none
  | .ret, E => some E
  | _, _ => none
end

theorem kOf_eq {av : AV} {c : Nat} (h : kOf av = some c) : av = .k c := by cases av <;> simp [kOf] at h; rw [h]
theorem isArg_eq {av : AV} (h : isArg av = true) : av = .arg := by cases av <;> simp [isArg] at h; rfl
theorem isC0_eq {av : AV} (h : isC0 av = true) : av = .c0 := by cases av <;> simp [isC0] at h; rfl
theorem isIx1_eq {av : AV} (h : isIx1 av = true) : av = .ix1 := by cases av <;> simp [isIx1] at h; rfl
theorem isCmp_eq {av : AV} (h : isCmp av = true) : av = .cmp := by cases av <;> simp [isCmp] at h; rfl

variable {P : Program} {Ts : TypeId → Option Ty} (hTs : ∀ t r, Ts t = some r → mkTy P t = some r) {Φ : FuncId → Option Sg} (hΦ : ∀ f s, Φ f = some s → SgOk P f s)

theorem env_of {M : Mx} {G : Gh} {w : World} {a : Act} {l : MEnv} (h : ∀ x, x ∈ l → R M G w (a.tmps.getD x.1 Go.undef) x.2) : ∀ t, R M G w (a.tmps.getD t Go.undef) (lk l t) := by
  intro t
  induction l with
  | nil => trivial
  | cons x r ih =>
    simp only [lk]
    by_cases ht : t = x.1
    · subst ht
      simpa using h x (by simp)
    · have : (t == x.1) = false := by simpa using ht
      rw [this]
      exact ih fun y hy => h y (by simp [hy])

theorem Sd.len {M : Mx} {v : Value} {cs : List Sh} (h : Sd M v (.row cs)) : lenV v ≤ 1048576 := by
  cases h with
  | row0 => simp [lenV]
  | row _ _ _ _ _ _ _ _ _ hn => simpa [lenV] using hn

theorem run_res4 {fn : Func} {w : World} {tmps : Array Value} (h : fn.results = #[.tmp 4]) : (results fn tmps).run P w = .ok (tmps.getD 4 Go.undef) w := by
  have := run_results (P := P) (fn := fn) (tmps := tmps) (w := w) (vs := [tmps.getD 4 Go.undef]) (by rw [h]; simp [resSem])
  simpa using this

include hTs hΦ in
/-- A function that marks a row, element by element. -/
theorem MK.of_loop {f : FuncId} {fn : Func} {code : Code} (hf : P.funcs[f]? = some fn) (hname : (fn.name == "runtime.NumGoroutine") = false) (hb : fn.body = some code) (hr : fn.results = #[.tmp 4]) {n N : Nat} (hnt : fn.ntmps = n) (hn2 : decide (6 ≤ n) = true) {cs0 : List Sh}
    (hc : chkLoopF Ts Φ n cs0 code = some N) : MK P f (.sd (.row cs0)) N := by
  refine ⟨⟨fn, hf, hname, by rw [hb]; rfl⟩, fun M w v K0 K hK0 hv => ?_⟩
  have hv : Sd M v (.row cs0) := hv
  have hn2 : 6 ≤ n := of_decide_eq_true hn2
  refine calls_of_wp hf hb ?_
  unfold chkLoopF at hc
  split at hc
  · rename_i c0 c1 c2 tc body c3 c6
    split at hc
    · rename_i Eb m hEb hm
      split at hc
      · rename_i E6 hE6
        cases hbb : (decide (kOf (lk Eb 1) = some 0) && isArg (lk Eb 0) && isC0 (lk Eb 5)) with
        | false => rw [hbb] at hc; cases hc
        | true =>
          rw [hbb] at hc
          simp only [cond_true] at hc
          simp only [Bool.and_eq_true, decide_eq_true_eq] at hbb
          obtain ⟨⟨b1, b2⟩, b3⟩ := hbb
          have b1 := kOf_eq b1
          have b2 := isArg_eq b2
          have b3 := isC0_eq b3
          have hc := kOf_eq hc
          have hsz : (#[v, Value.int .i64 K0] ++ Array.replicate (fn.ntmps - #[v, Value.int .i64 K0].size) Go.undef).size = n := by simp; omega
          have g0 : (#[v, Value.int .i64 K0] ++ Array.replicate (fn.ntmps - #[v, Value.int .i64 K0].size) Go.undef).getD 0 Go.undef = v := by simp [Array.getD_eq_getD_getElem?, Array.getElem?_append]
          have g1 : (#[v, Value.int .i64 K0] ++ Array.replicate (fn.ntmps - #[v, Value.int .i64 K0].size) Go.undef).getD 1 Go.undef = .int .i64 K0 := by simp [Array.getD_eq_getD_getElem?, Array.getElem?_append]
          have s0 : St M ⟨K0, v, 0, lenV v⟩ n w [(0, .arg), (1, .k 0)] { tmps := #[v, .int .i64 K0] ++ Array.replicate (fn.ntmps - #[v, Value.int .i64 K0].size) Go.undef, defers := [] } w := by
            refine ⟨hsz, rfl, env_of ?_, K, Fx.refl M w⟩
            intro x hx
            simp only [List.mem_cons, List.not_mem_nil, or_false] at hx
            rcases hx with rfl | rfl
            · exact g0
            · exact ⟨0, Nat.le_refl _, by rw [g1]; simp [hK0]⟩
          -- the end
          have fin : ∀ (a : Act) (w' : World), a.tmps.size = n → a.defers = [] → (∃ c' : Nat, c' ≤ 1048576 * m ∧ a.tmps.getD 1 Go.undef = .int .i64 (IntKind.i64.wrap (K0 + c'))) → Kept M w' → Fx M w w' →
              (Code.seq c6 .ret).wp P (bodyPost P fn fun e w' => ∃ c' : Nat, c' ≤ N ∧ e = .returned (.int .i64 (IntKind.i64.wrap (K0 + c'))) ∧ Kept M w' ∧ Fx M w w') a w' := by
            intro a w' h1 h2 h3 h4 h5
            refine wp_seq (chkC_sound hTs hΦ (G := ⟨K0, v, 0, lenV v⟩) (w0 := w) hv rfl (by simp) (fun h => by cases h) c6 _ _ a w' _ hE6 ⟨h1, h2, env_of ?_, h4, h5⟩ ?_)
            · intro x hx
              simp only [List.mem_cons, List.not_mem_nil, or_false] at hx
              subst hx
              exact h3
            · intro a w' s
              refine wp_ret ?_
              have h4 := s.env 4
              rw [hc] at h4
              obtain ⟨c', hc', e⟩ := h4
              refine ⟨s.defers, _, run_res4 hr, c', hc', by rw [e], s.kept, s.fx⟩
          refine wp_seq ?_
          -- c0, then the loop, then the end
          simp only [chkC] at hEb
          split at hEb
          · rename_i E1 hE1
            refine chkC_sound hTs hΦ (G := ⟨K0, v, 0, lenV v⟩) (w0 := w) hv rfl (by simp) (fun h => by cases h) c0 _ _ _ w _ hE1 s0 fun a w1 s1 => ?_
            refine wp_seq (wp_seq (chkC_sound hTs hΦ (G := ⟨K0, v, 0, lenV v⟩) (w0 := w) hv rfl (by simp) (fun h => by cases h) c1 _ _ a w1 _ hEb s1 fun a w1 s2 => ?_))
            refine wp_block ?_
            have e0 := s2.env 0
            have e1 := s2.env 1
            have e5 := s2.env 5
            rw [b2] at e0
            rw [b1] at e1
            rw [b3] at e5
            refine wp_loop_num (fun k a w' => ∃ i : Nat, i ≤ lenV v ∧ k = lenV v - i ∧ a.tmps.size = n ∧ a.defers = [] ∧ a.tmps.getD 0 Go.undef = v ∧ (∃ c' : Nat, c' ≤ i * m ∧ a.tmps.getD 1 Go.undef = .int .i64 (IntKind.i64.wrap (K0 + c'))) ∧
              a.tmps.getD 5 Go.undef = .int .i64 (i : Int) ∧ Kept M w' ∧ Fx M w w') ?_ (n := lenV v) ⟨0, Nat.zero_le _, rfl, s2.size, s2.defers, e0, ?_, e5, s2.kept, s2.fx⟩
            · rintro k a w2 ⟨i, hi, rfl, h1, h2, h3, ⟨c', hc', h4⟩, h5, h6, h7⟩
              have hlen := hv.len
              unfold chkRound at hm
              split at hm
              · rename_i E2 hE2
                split at hm
                · rename_i E3 hE3
                  split at hm
                  · rename_i E4 hE4
                    cases hbb : (isCmp (lk E2 tc) && decide (kOf (lk E2 1) = some 0) && isArg (lk E4 0) && isIx1 (lk E4 5)) with
                    | false => rw [hbb] at hm; cases hm
                    | true =>
                      rw [hbb] at hm
                      simp only [cond_true] at hm
                      simp only [Bool.and_eq_true, decide_eq_true_eq] at hbb
                      obtain ⟨⟨⟨d1, d2⟩, d3⟩, d4⟩ := hbb
                      have d1 := isCmp_eq d1
                      have d2 := kOf_eq d2
                      have d3 := isArg_eq d3
                      have d4 := isIx1_eq d4
                      have hm := kOf_eq hm
                      have sh : St M ⟨IntKind.i64.wrap (K0 + c'), v, i, lenV v⟩ n w headE a w2 := by
                        refine ⟨h1, h2, env_of ?_, h6, h7⟩
                        intro x hx
                        simp only [headE, List.mem_cons, List.not_mem_nil, or_false] at hx
                        rcases hx with rfl | rfl | rfl
                        · exact h3
                        · exact ⟨0, Nat.le_refl _, by rw [h4]; simp [wrap_id2]⟩
                        · exact h5
                      refine wp_seq (wp_seq (chkC_sound hTs hΦ (G := ⟨IntKind.i64.wrap (K0 + c'), v, i, lenV v⟩) (w0 := w) hv rfl (by simp only; omega) (fun h => by cases h) c2 _ _ a w2 _ hE2 sh fun a w2 s3 => ?_))
                      have ec := s3.env tc
                      rw [d1] at ec
                      have ec : a.eval (.tmp tc) = .bool (decide (i < lenV v)) := ec
                      have f1 := s3.env 1
                      rw [d2] at f1
                      obtain ⟨z, hz, f1⟩ := f1
                      obtain rfl : z = 0 := by omega
                      refine wp_cond_split ec (fun ht => ?_) (fun ht => ?_)
                      · have hlt : i < lenV v := of_decide_eq_true ht
                        refine wp_skip ?_
                        show (Code.seq body c3).wp P _ a w2
                        refine wp_seq (chkC_sound hTs hΦ (G := ⟨IntKind.i64.wrap (K0 + c'), v, i, lenV v⟩) (w0 := w) hv rfl (by simp only; omega) (fun _ => hlt) body _ _ a w2 _ hE3 s3 fun a w2 s4 => ?_)
                        refine chkC_sound hTs hΦ (G := ⟨IntKind.i64.wrap (K0 + c'), v, i, lenV v⟩) (w0 := w) hv rfl (by simp only; omega) (fun _ => hlt) c3 _ _ a w2 _ hE4 s4 fun a w2 s5 => ?_
                        have q0 := s5.env 0
                        have q1 := s5.env 1
                        have q5 := s5.env 5
                        rw [d3] at q0
                        rw [hm] at q1
                        rw [d4] at q5
                        obtain ⟨c2', hc2, q1⟩ := q1
                        refine ⟨lenV v - (i + 1), by omega, i + 1, hlt, rfl, s5.size, s5.defers, q0, ⟨c' + c2', by rw [Nat.succ_mul]; omega, ?_⟩, ?_, s5.kept, s5.fx⟩
                        · rw [q1, wrap_add2, Int.add_assoc]
                          simp
                        · rw [q5]; simp
                      · refine wp_exit ?_
                        simp only [Exit.then, Exit.inBlock, if_true]
                        refine fin a w2 s3.size s3.defers ⟨c', ?_, ?_⟩ s3.kept s3.fx
                        · exact Nat.le_trans hc' (Nat.mul_le_mul_right _ (by omega))
                        · rw [f1]; simp [wrap_id2]
                  · cases hm
                · cases hm
              · cases hm
            · obtain ⟨z, hz, e1⟩ := e1
              exact ⟨z, by omega, e1⟩
          · cases hEb
      · cases hc
    · cases hc
  · cases hc

include hTs hΦ in
theorem chkS_sound {M : Mx} {n : Nat} {w0 : World} {G : Gh} (hv : Sd M G.v0 (.row [])) (hn : lenV G.v0 = G.n0) (hi : G.i0 ≤ 1048576) : ∀ (c : Code) (E E' : MEnv) (a : Act) (w : World) (Q : Exit → Act → World → Prop),
    chkS Ts Φ n c E = some E' → St M G n w0 E a w → (∀ a w, St M G n w0 E' a w → Q .ret a w) → c.wp P Q a w := by
  intro c
  induction c with
  | seq x y ihx ihy =>
    intro E E' a w Q h s hq
    simp only [chkS] at h
    split at h
    · rename_i E1 h1
      exact wp_seq (chkC_sound hTs hΦ hv hn hi (fun h => by cases h) x E E1 a w _ h1 s fun a w s => ihy E1 E' a w Q h s hq)
    · cases h
  | ret => intro E E' a w Q h s hq; simp only [chkS, Option.some.injEq] at h; subst h; exact wp_ret (hq a w s)
  | _ => intro E E' a w Q h s hq; simp [chkS] at h

include hTs hΦ in
/-- A function that marks a struct's rows, one after the other. -/
theorem MK.of_struct {f : FuncId} {fn : Func} {code : Code} (hf : P.funcs[f]? = some fn) (hname : (fn.name == "runtime.NumGoroutine") = false) (hb : fn.body = some code) (hr : fn.results = #[.tmp 4]) {n N : Nat} (hnt : fn.ntmps = n) (hn2 : decide (6 ≤ n) = true) {cs : List Sh}
    (hc : (chkS Ts Φ n code [(0, .ag cs), (1, .k 0)]).bind (fun E => kOf (lk E 4)) = some N) : MK P f (.ag cs) N := by
  refine ⟨⟨fn, hf, hname, by rw [hb]; rfl⟩, fun M w v K0 K hK0 hv => ?_⟩
  have hn2 : 6 ≤ n := of_decide_eq_true hn2
  refine calls_of_wp hf hb ?_
  obtain ⟨E', hE', h4⟩ := Option.bind_eq_some_iff.1 hc
  have h4 := kOf_eq h4
  have hsz : (#[v, Value.int .i64 K0] ++ Array.replicate (fn.ntmps - #[v, Value.int .i64 K0].size) Go.undef).size = n := by simp; omega
  have g0 : (#[v, Value.int .i64 K0] ++ Array.replicate (fn.ntmps - #[v, Value.int .i64 K0].size) Go.undef).getD 0 Go.undef = v := by simp [Array.getD_eq_getD_getElem?, Array.getElem?_append]
  have g1 : (#[v, Value.int .i64 K0] ++ Array.replicate (fn.ntmps - #[v, Value.int .i64 K0].size) Go.undef).getD 1 Go.undef = .int .i64 K0 := by simp [Array.getD_eq_getD_getElem?, Array.getElem?_append]
  refine chkS_sound hTs hΦ (G := ⟨K0, .slice none 0 0, 0, 0⟩) (w0 := w) (.row0 _ _ _) rfl (by simp) code _ E' _ w _ hE' ⟨hsz, rfl, env_of ?_, K, Fx.refl M w⟩ ?_
  · intro x hx
    simp only [List.mem_cons, List.not_mem_nil, or_false] at hx
    rcases hx with rfl | rfl
    · show R M _ w _ _
      rw [g0]; exact hv
    · exact ⟨0, Nat.le_refl _, by rw [g1]; simp [hK0]⟩
  · intro a w' s
    have h := s.env 4
    rw [h4] at h
    obtain ⟨c', hc', e⟩ := h
    exact ⟨s.defers, _, run_res4 hr, c', hc', by rw [e], s.kept, s.fx⟩
end Go.Pv

namespace Go.Pv
open Go.RowKit (Below)

def lkV : List (Nat × Value) → Nat → Option Value
  | [], _ => none
  | (u, v) :: r, t => bif t == u then some v else lkV r t
def evV (E : List (Nat × Value)) : Operand → Option Value
  | .tmp t => lkV E t
  | .const v => some v
  | .func f => some (.func (.func f) #[] #[])
  | _ => none
def evL (E : List (Nat × Value)) : List Operand → Option (List Value)
  | [] => some []
  | x :: r => match evV E x, evL E r with
    | some v, some vs => some (v :: vs)
    | _, _ => none
structure SV (n : Nat) (E : List (Nat × Value)) (a : Act) : Prop where
  size : a.tmps.size = n
  defers : a.defers = []
  env : ∀ t v, lkV E t = some v → a.tmps.getD t Go.undef = v
variable {P : Program} {n : Nat} {E : List (Nat × Value)} {a : Act} {w w' : World} {ops : Array Oper} {Q : Exit → Act → World → Prop} {i : Nat} {K : Act → World → Prop}

theorem SV.ev (s : SV n E a) {x : Operand} {v : Value} (h : evV E x = some v) : a.eval x = v := by
  cases x with
  | tmp t => exact s.env t v h
  | const u => simp only [evV, Option.some.injEq] at h; exact h
  | func f => simp only [evV, Option.some.injEq] at h; exact h
  | _ => cases h
/-- The operation is done: it has no guard, or its guard's slot says so. -/
def gdB (ops : Array Oper) (E : List (Nat × Value)) (o : Oper) : Bool := match o.guard with
  | none => true
  | some (j, b) => match (ops[j]?).bind (·.dst) with
    | some t => match lkV E t with
      | some (.bool c) => c == b
      | _ => false
    | none => false
theorem SV.wanted (s : SV n E a) {o : Oper} (hg : gdB ops E o = true) : Region.wanted o (yielded ops a.tmps) = true := by
  unfold gdB at hg
  unfold Region.wanted
  cases hgd : o.guard with
  | none => rfl
  | some g =>
    obtain ⟨j, b⟩ := g
    rw [hgd] at hg
    simp only at hg ⊢
    cases ht : (ops[j]?).bind (·.dst) with
    | none => rw [ht] at hg; cases hg
    | some t =>
      rw [ht] at hg
      simp only at hg
      split at hg
      · rename_i c hl
        have e := s.env t _ hl
        rw [Array.getD_eq_getD_getElem?] at e
        simp only [yielded, ht, Option.bind_some]
        cases hq : a.tmps[t]? with
        | none => rw [hq] at e; simp [Go.undef] at e
        | some v =>
          rw [hq] at e
          simp only [Option.getD_some] at e
          subst e
          have := eq_of_beq hg
          subst this
          cases c <;> rfl
      · cases hg
theorem SV.evs (s : SV n E a) : ∀ {xs : List Operand} {vs : List Value}, evL E xs = some vs → xs.map a.eval = vs
  | [], vs, h => by cases h; rfl
  | x :: r, vs, h => by
    simp only [evL] at h
    split at h
    · rename_i v vs' h1 h2
      cases h
      rw [List.map_cons, s.ev h1, s.evs h2]
    · cases h
theorem SV.put (s : SV n E a) {d : Tmp} (hd : d < n) (v : Value) : SV n ((d, v) :: E) (a.put (some d) v) := by
  refine ⟨by simp [Act.put, s.size], by simp [Act.put, s.defers], fun t u h => ?_⟩
  simp only [lkV] at h
  by_cases ht : t = d
  · subst ht
    simp only [beq_self_eq_true, cond_true, Option.some.injEq] at h
    rw [getD_put_eq (by rw [s.size]; exact hd), h]
  · have e : (t == d) = false := by simpa using ht
    rw [e] at h
    rw [getD_put_ne (by simp [Ne.symm ht])]
    exact s.env t u h
theorem SV.sub (s : SV n E a) {E' : List (Nat × Value)} (h : ∀ x, x ∈ E' → lkV E x.1 = some x.2) : SV n E' a := by
  refine ⟨s.size, s.defers, fun t v ht => ?_⟩
  induction E' with
  | nil => cases ht
  | cons x r ih =>
    simp only [lkV] at ht
    cases hb : (t == x.1) with
    | true =>
      rw [hb] at ht
      simp only [cond_true, Option.some.injEq] at ht
      have := eq_of_beq hb
      subst this ht
      exact s.env _ _ (h x (by simp))
    | false => rw [hb] at ht; exact ih (fun y hy => h y (by simp [hy])) ht

/-- Operations one after the other. -/
def chainK (P : Program) (ops : Array Oper) (Q : Exit → Act → World → Prop) : List Nat → Act → World → Prop
  | [] => Q .normal
  | i :: r => wpOp P ops Q i (chainK P ops Q r)
theorem chainK_eq : ∀ (l : List Nat) (a : Act) (w : World), chainK P ops Q l a w → wpOps P ops Q l a w
  | [], _, _, h => h
  | i :: r, a, w, h => by
    rw [wpOps_cons]
    exact wpOp_mono (fun a w h => chainK_eq r a w h) h
theorem sv_nil (s : SV n E a) (h : ∀ a, SV n E a → Q .normal a w) : chainK P ops Q [] a w := h a s
/-- One operation that yields a value. -/
theorem sv_step {o : Oper} {d : Tmp} {v : Value} (ho : ops[i]? = some o) (hg : gdB ops E o = true) (hd : o.dst = some d) (hn : decide (d < n) = true) (s : SV n E a) (hrun : (execOp a.eval o).run P w = .ok (.value v) w')
    (h : ∀ a', SV n ((d, v) :: E) a' → K a' w') : wpOp P ops Q i K a w := by
  have hw := s.wanted hg
  simp only [wpOp, ho, hw, if_true]
  refine .inl ?_
  refine StepOk.value (R := fun v' w'' => v' = v ∧ w'' = w') hrun ⟨rfl, rfl⟩ _ _ ?_
  rintro v' w'' ⟨rfl, rfl⟩
  rw [hd]
  exact h _ (s.put (of_decide_eq_true hn) _)
theorem sv_move {o : Oper} {d : Tmp} {x : Operand} {v : Value} (s : SV n E a) (ho : ops[i]? = some o) (hop : o.op = .move x) (hg : gdB ops E o = true) (hd : o.dst = some d) (hn : decide (d < n) = true) (hx : evV E x = some v)
    (h : ∀ a', SV n ((d, v) :: E) a' → K a' w) : wpOp P ops Q i K a w :=
  sv_step ho hg hd hn s (by simp [execOp, hop, s.ev hx]) h
theorem sv_assign {o : Oper} {d : Tmp} {x : Operand} {v : Value} (s : SV n E a) (ho : ops[i]? = some o) (hop : o.op = .assign x) (hg : gdB ops E o = true) (hd : o.dst = some d) (hn : decide (d < n) = true) (hx : evV E x = some v)
    (h : ∀ a', SV n ((d, v) :: E) a' → K a' w) : wpOp P ops Q i K a w :=
  sv_step ho hg hd hn s (by simp [execOp, hop, s.ev hx]) h
/-- Arithmetic on numbers: '+', '%', '/' by a number that is not 0, and comparisons. -/
def arV (op : BinOp) (k : IntKind) (x y : Int) : Option Value := match op with
  | .add => some (.int k (k.wrap (x + y)))
  | .rem => bif y == 0 then none else some (.int k (x.tmod y))
  | .quo => bif y == 0 then none else some (.int k (k.wrap (x.tdiv y)))
  | .lss => some (.bool (decide (x < y)))
  | .leq => some (.bool (decide (x ≤ y)))
  | .gtr => some (.bool (decide (x > y)))
  | .eql => some (.bool (x == y))
  | .neq => some (.bool (x != y))
  | _ => none
theorem run_arV {o : Oper} {op : BinOp} {t t' : TypeId} {x y : Operand} {k : IntKind} {m l : Int} {v : Value} (hop : o.op = .binOp op t x y t') (hx : a.eval x = .int k m) (hy : a.eval y = .int k l) (hv : arV op k m l = some v) : (execOp a.eval o).run P w = .ok (.value v) w := by
  have hg : (eqGuard op t x y (.int k m) (.int k l)).run P w = .ok () w := by unfold eqGuard; cases op <;> rfl
  cases op <;> simp only [arV, reduceCtorEq, Option.some.injEq] at hv
  case add => subst hv; simp [execOp, hop, hx, hy, hg, binOp, Op.intArith, Op.intCmp]
  case rem =>
    cases h0 : (l == 0) with
    | true => rw [h0] at hv; cases hv
    | false =>
      rw [h0] at hv
      simp only [cond_false, Option.some.injEq] at hv
      subst hv
      have : l ≠ 0 := by simpa using h0
      simp [execOp, hop, hx, hy, hg, binOp, Op.intDiv, this]
  case quo =>
    cases h0 : (l == 0) with
    | true => rw [h0] at hv; cases hv
    | false =>
      rw [h0] at hv
      simp only [cond_false, Option.some.injEq] at hv
      subst hv
      have : l ≠ 0 := by simpa using h0
      simp [execOp, hop, hx, hy, hg, binOp, Op.intDiv, this]
  all_goals (subst hv; simp [execOp, hop, hx, hy, hg, binOp, Op.intArith, Op.intCmp])
theorem sv_ar {o : Oper} {d : Tmp} {op : BinOp} {t t' : TypeId} {x y : Operand} {k : IntKind} {m l : Int} {v : Value} (s : SV n E a) (ho : ops[i]? = some o) (hop : o.op = .binOp op t x y t') (hg : gdB ops E o = true) (hd : o.dst = some d) (hn : decide (d < n) = true)
    (hx : evV E x = some (.int k m)) (hy : evV E y = some (.int k l)) (hv : arV op k m l = some v) (h : ∀ a', SV n ((d, v) :: E) a' → K a' w) : wpOp P ops Q i K a w :=
  sv_step ho hg hd hn s (run_arV hop (s.ev hx) (s.ev hy) hv) h
theorem sv_not {o : Oper} {d : Tmp} {t : TypeId} {x : Operand} {b : Bool} (s : SV n E a) (ho : ops[i]? = some o) (hop : o.op = .unOp .not t x) (hg : gdB ops E o = true) (hd : o.dst = some d) (hn : decide (d < n) = true)
    (hx : evV E x = some (.bool b)) (h : ∀ a', SV n ((d, .bool (!b)) :: E) a' → K a' w) : wpOp P ops Q i K a w :=
  sv_step ho hg hd hn s (by simp [execOp, hop, s.ev hx, Op.unary]) h
theorem sv_extract {o : Oper} {d : Tmp} {x : Operand} {j : Nat} {vs : Array Value} {v : Value} (s : SV n E a) (ho : ops[i]? = some o) (hop : o.op = .extract x j) (hg : gdB ops E o = true) (hd : o.dst = some d) (hn : decide (d < n) = true)
    (hx : evV E x = some (.tuple vs)) (hj : vs[j]? = some v) (h : ∀ a', SV n ((d, v) :: E) a' → K a' w) : wpOp P ops Q i K a w := by
  obtain ⟨hlt, rfl⟩ := Array.getElem?_eq_some_iff.1 hj
  exact sv_step ho hg hd hn s (by simp [execOp, hop, s.ev hx, Instr.extract, hlt]) h
/-- A call by its contract. -/
theorem sv_call {o : Oper} {d : Tmp} {cl : Call} {f : FuncId} {vs : List Value} {R : Ending → World → Prop} (s : SV n E a) (ho : ops[i]? = some o) (hop : o.op = .call cl) (hg : gdB ops E o = true) (hd : o.dst = some d) (hn : decide (d < n) = true)
    (hc : cl.callee = .value (.func f)) (hE : Enter P f) (hx : evL E cl.args.toList = some vs) (hcalls : Calls P f vs.toArray w R)
    (h : ∀ e w', R e w' → ∃ v, e = .returned v ∧ ∀ a', SV n ((d, v) :: E) a' → K a' w') : wpOp P ops Q i K a w := by
  have hw := s.wanted hg
  simp only [wpOp, ho, hw, if_true]
  refine .inl ?_
  obtain ⟨fn, hfn, hname, hbody⟩ := hE
  have hname' : ¬ fn.name = "runtime.NumGoroutine" := by simpa using hname
  have hbody' : ¬ fn.body = none := fun e => by simp [e] at hbody
  have hargs : cl.args.map a.eval = vs.toArray := by
    rw [← s.evs hx, ← List.map_toArray, Array.toArray_toList]
  have hrun : (execOp a.eval o).run P w = .ok (.enter f vs.toArray) w := by
    rw [← hargs]
    simp [execOp, hop, resolve, hc, Act.eval, Deferred.ofValue, invoke, callFunc, show ∀ w, Sem.run P program w = .ok P w from fun _ => rfl, hfn, hname', hbody']
  refine StepOk.enter (R := fun v w' => R (.returned v) w') hrun (Calls.mono hcalls fun e w' hR => ?_) _ _ ?_
  · obtain ⟨v, rfl, _⟩ := h e w' hR
    exact ⟨v, rfl, hR⟩
  · intro v w' hR
    obtain ⟨v', e, hk⟩ := h _ w' hR
    cases e
    rw [hd]
    exact hk _ (s.put (of_decide_eq_true hn) _)
theorem sv_ok {o : Oper} {d : Tmp} {R : Value → World → Prop} (ho : ops[i]? = some o) (hg : gdB ops E o = true) (hd : o.dst = some d) (hn : decide (d < n) = true) (s : SV n E a) (hst : StepOk P o a w R)
    (h : ∀ v w', R v w' → ∀ a', SV n ((d, v) :: E) a' → K a' w') : wpOp P ops Q i K a w := by
  have hw := s.wanted hg
  simp only [wpOp, ho, hw, if_true]
  refine .inl (hst _ _ ?_)
  intro v w' hR
  rw [hd]
  exact h v w' hR _ (s.put (of_decide_eq_true hn) _)
theorem sv_skip {o : Oper} (ho : ops[i]? = some o) (hg : gdB ops E o = true) (hd : o.dst = none) (s : SV n E a) (hrun : (execOp a.eval o).run P w = .ok .skip w')
    (h : ∀ a', SV n E a' → K a' w') : wpOp P ops Q i K a w := by
  have hw := s.wanted hg
  simp only [wpOp, ho, hw, if_true]
  refine .inl ?_
  refine StepOk.skip (R := fun _ w'' => w'' = w') hrun rfl _ _ ?_
  rintro v' w'' rfl
  rw [hd]
  exact h _ s
theorem sv_len {o : Oper} {d : Tmp} {cl : Call} {x : Operand} {t : TypeId} {r : Ty} {e : TypeId} {b : Option Addr} {m cap : Nat} (hr : mkTy P t = some r) (hk : r.k = .slice e) (s : SV n E a) (ho : ops[i]? = some o) (hop : o.op = .call cl) (hg : gdB ops E o = true) (hd : o.dst = some d)
    (hn : decide (d < n) = true) (hc : cl.callee = .builtin .len) (hargs : cl.args = #[x]) (ht : cl.argTypes[0]? = some t) (hx : evV E x = some (.slice b m cap)) (h : ∀ a', SV n ((d, .int .i64 (m : Int)) :: E) a' → K a' w) : wpOp P ops Q i K a w :=
  sv_step ho hg hd hn s (by simp [execOp, hop, resolve, hc, hargs, invoke, builtin, Builtin.len_, ht, s.ev hx, run_underlying (under_slice hr hk), goInt]) h
theorem sv_index {o : Oper} {d : Tmp} {t e : TypeId} {r q : Ty} {x y : Operand} {b off m cap : Nat} {k : IntKind} {j : Nat} (hr : mkTy P t = some r) (hk : r.k = .slice e) (hq : mkTy P e = some q) (s : SV n E a) (ho : ops[i]? = some o) (hop : o.op = .indexAddr t x y) (hg : gdB ops E o = true) (hd : o.dst = some d)
    (hn : decide (d < n) = true) (hx : evV E x = some (.slice (some ⟨b, off, none⟩) m cap)) (hy : evV E y = some (.int k (j : Int))) (hj : j < m) (h : ∀ a', SV n ((d, .pointer (some ⟨b, off + j * q.sz, none⟩)) :: E) a' → K a' w) : wpOp P ops Q i K a w := by
  refine sv_step ho hg hd hn s ?_ h
  simp [execOp, hop, s.ev hx, s.ev hy, Instr.indexAt, asIntOf, run_underlying (under_slice hr hk), run_sizeOfT hq, add_none]
  intro hle; omega
/-- Cells stored from a place on. -/
theorem run_storeA {o : Oper} {t : TypeId} {r : Ty} {x y : Operand} {b off T : Nat} {arr : Array Value} {v : Value} (hr : mkTy P t = some r) (hop : o.op = .store t x y) (hx : a.eval x = .pointer (some ⟨b, off, none⟩)) (hy : a.eval y = v) (ha : w.heap[b]? = some (.cells arr T (0, 0)))
    (hl : v.cells.size = r.sz) (hsz : off + r.sz ≤ arr.size) (h1 : ∀ u ∈ v.cells.toList, u.oneCell' = true) :
    ∃ arr2, (execOp a.eval o).run P w = .ok .skip (w.setRow b arr2) ∧ (w.setRow b arr2).heap[b]? = some (.cells arr2 T (0, 0)) ∧ arr2.size = arr.size ∧ ∀ j, arr2[j]? = if off ≤ j ∧ j < off + r.sz then v.cells[j - off]? else arr[j]? := by
  have hst := run_storeCells_at P b off T v.cells.toList 0 arr w ha (by rw [Array.length_toList]; omega) h1
  simp only [Nat.add_zero] at hst
  obtain ⟨arr2, e2⟩ : ∃ A, A = (arr.toList.take off ++ v.cells.toList ++ arr.toList.drop (off + v.cells.toList.length)).toArray := ⟨_, rfl⟩
  rw [← e2] at hst
  refine ⟨arr2, ?_, setRow_heap w b arr arr2 T (0, 0) ha, by rw [e2]; simp; omega, fun j => ?_⟩
  · simp only [execOp, hop, Instr.storeAt, Instr.sureAddr, hx, hy]
    simp [storeVar, run_sizeOfT hr, hl, hst]
  · rw [e2]
    simp only [List.getElem?_toArray, List.getElem?_append, List.length_append, List.length_take, List.getElem?_take, List.getElem?_drop, Array.length_toList, hl]
    have hmin : min off arr.size = off := by omega
    rw [hmin]
    by_cases hu1 : j < off
    · rw [if_pos (by omega), if_pos hu1, if_pos hu1, if_neg (by omega)]; simp
    · by_cases hu2 : j < off + r.sz
      · rw [if_pos hu2, if_neg hu1, if_pos (by omega)]; simp
      · rw [if_neg hu2, if_neg (by omega)]
        simp only [Array.getElem?_toList]
        congr 1; omega
theorem sv_store {o : Oper} {t : TypeId} {r : Ty} {x y : Operand} {b off T : Nat} {arr : Array Value} {v : Value} (hr : mkTy P t = some r) (s : SV n E a) (ho : ops[i]? = some o) (hop : o.op = .store t x y) (hg : gdB ops E o = true) (hd : o.dst = none)
    (hx : evV E x = some (.pointer (some ⟨b, off, none⟩))) (hy : evV E y = some v) (ha : w.heap[b]? = some (.cells arr T (0, 0))) (hl : v.cells.size = r.sz) (hsz : off + r.sz ≤ arr.size) (h1 : ∀ u ∈ v.cells.toList, u.oneCell' = true)
    (h : ∀ arr2 a', (w.setRow b arr2).heap[b]? = some (.cells arr2 T (0, 0)) → arr2.size = arr.size → (∀ j, arr2[j]? = if off ≤ j ∧ j < off + r.sz then v.cells[j - off]? else arr[j]?) → SV n E a' → K a' (w.setRow b arr2)) : wpOp P ops Q i K a w := by
  obtain ⟨arr2, hrun, k1, k2, k3⟩ := run_storeA (P := P) (w := w) (a := a) hr hop (s.ev hx) (s.ev hy) ha hl hsz h1
  exact sv_skip ho hg hd s hrun fun a' s' => h arr2 a' k1 k2 k3 s'
theorem setRow_ne {b c : Nat} {arr : Array Value} (h : c ≠ b) : (w.setRow b arr).heap[c]? = w.heap[c]? := by
  simp only [World.setRow, Array.getElem?_modify]
  rw [if_neg (by omega)]
theorem setRow_size {b : Nat} {arr : Array Value} : (w.setRow b arr).heap.size = w.heap.size := by simp [World.setRow]
theorem sv_pick {o : Oper} {d : Tmp} {x y z : Operand} {b : Bool} {u v : Value} (s : SV n E a) (ho : ops[i]? = some o) (hop : o.op = .pick x y z) (hg : gdB ops E o = true) (hd : o.dst = some d) (hn : decide (d < n) = true)
    (hx : evV E x = some (.bool b)) (hy : evV E y = some u) (hz : evV E z = some v) (h : ∀ a', SV n ((d, bif b then u else v) :: E) a' → K a' w) : wpOp P ops Q i K a w :=
  sv_step ho hg hd hn s (by cases b <;> simp [execOp, hop, s.ev hx, s.ev hy, s.ev hz, asBool]) h
theorem sv_bne {o : Oper} {d : Tmp} {t t' : TypeId} {r : Ty} {x y : Operand} {b c : Bool} (hr : mkTy P t = some r) (hk : r.k = .bool) (s : SV n E a) (ho : ops[i]? = some o) (hop : o.op = .binOp .neq t x y t') (hg : gdB ops E o = true) (hd : o.dst = some d) (hn : decide (d < n) = true)
    (hx : evV E x = some (.bool b)) (hy : evV E y = some (.bool c)) (h : ∀ a', SV n ((d, .bool (!(b == c))) :: E) a' → K a' w) : wpOp P ops Q i K a w := by
  have hgu : (eqGuard .neq t x y (.bool b) (.bool c)).run P w = .ok () w := rfl
  exact sv_step ho hg hd hn s (by simp [execOp, hop, s.ev hx, s.ev hy, hgu, binOp, run_equal_bool hr hk]) h
theorem sv_bsame {o : Oper} {d : Tmp} {t t' : TypeId} {r : Ty} {x y : Operand} {b : Bool} (hr : mkTy P t = some r) (hk : r.k = .bool) (s : SV n E a) (ho : ops[i]? = some o) (hop : o.op = .binOp .neq t x y t') (hg : gdB ops E o = true) (hd : o.dst = some d) (hn : decide (d < n) = true)
    (hx : evV E x = some (.bool b)) (hy : evV E y = some (.bool b)) (h : ∀ a', SV n ((d, .bool false) :: E) a' → K a' w) : wpOp P ops Q i K a w :=
  sv_bne hr hk s ho hop hg hd hn hx hy fun a' s' => h a' (by simpa using s')
theorem sv_box {o : Oper} {d : Tmp} {t : TypeId} {x : Operand} {v : Value} (s : SV n E a) (ho : ops[i]? = some o) (hop : o.op = .box t x) (hg : gdB ops E o = true) (hd : o.dst = some d) (hn : decide (d < n) = true)
    (hx : evV E x = some v) (h : ∀ a', SV n ((d, .pointer (some ⟨w.heap.size, 0, none⟩)) :: E) a' → K a' (w.alloc (.cells v.cells t))) : wpOp P ops Q i K a w :=
  sv_step ho hg hd hn s (by simp [execOp, hop, s.ev hx, Instr.box, newVar, run_newRow]) h
theorem sv_alloc {o : Oper} {d : Tmp} {t : TypeId} {r : Ty} (hr : mkTy P t = some r) (hz : r.zero.length = r.sz) (s : SV n E a) (ho : ops[i]? = some o) (hop : o.op = .alloc t) (hg : gdB ops E o = true) (hd : o.dst = some d) (hn : decide (d < n) = true)
    (h : ∀ (arr : Array Value) a', arr.size = r.sz → SV n ((d, .pointer (some ⟨w.heap.size, 0, none⟩)) :: E) a' → K a' (w.alloc (.cells arr t))) : wpOp P ops Q i K a w := by
  obtain ⟨z, hz1, hz2⟩ := run_zeroT hr w
  have hl : z.cells.size = r.sz := by rw [← hz, ← hz2]; simp [zeroL_length]
  exact sv_step ho hg hd hn s (by simp [execOp, hop, Instr.alloc, hz1, newVar, run_newRow]) fun a' s' => h z.cells a' hl s'
/-- A struct is read out of its block. -/
theorem sv_load {o : Oper} {d : Tmp} {t : TypeId} {r : Ty} {x : Operand} {b T : Nat} {cs : Array Value} (hr : mkTy P t = some r) (hag : r.agg = true) (s : SV n E a) (ho : ops[i]? = some o) (hop : o.op = .load t x) (hg : gdB ops E o = true) (hd : o.dst = some d) (hn : decide (d < n) = true)
    (hx : evV E x = some (.pointer (some ⟨b, 0, none⟩))) (hb : w.heap[b]? = some (.cells cs T (0, 0))) (hcs : cs.size = r.sz) (h : ∀ a', SV n ((d, .agg cs) :: E) a' → K a' w) : wpOp P ops Q i K a w := by
  obtain ⟨v, hv, hv'⟩ := run_loadVarP hr w b 0 (fun j => cs.getD j Go.undef) r.sz (Nat.le_refl _) (fun e => by rw [hag] at e; cases e) (fun j hj => by
    have hlt : j < cs.size := by omega
    simp only [World.cell?, hb, Nat.zero_add]
    simp [hlt, Array.getD])
  have e : v = .agg cs := by
    rcases hv' with ⟨_, rfl⟩ | ⟨ha, _⟩
    · congr 1
      apply Array.ext
      · simp [hcs]
      · intro j h1 h2
        simp [Array.getD, h2]
    · rw [hag] at ha; cases ha
  subst e
  exact sv_step ho hg hd hn s (by simp [execOp, hop, s.ev hx, Instr.loadAt, Instr.sureAddr, hv]) h
theorem sv_then {next : Act → World → Prop} (h : next a w) : Exit.then next Q .normal a w := h
theorem sv_start {v : Value} {k : Nat} (h : 1 ≤ k) : SV k [(0, v)] { tmps := #[v] ++ Array.replicate (k - 1) Go.undef, defers := [] } := by
  refine ⟨by simp; omega, rfl, fun t u ht => ?_⟩
  simp only [lkV] at ht
  cases hb : (t == 0) with
  | true =>
    rw [hb] at ht
    have := eq_of_beq hb
    subst this
    simp only [cond_true, Option.some.injEq] at ht
    subst ht
    simp [Array.getD_eq_getD_getElem?, Array.getElem?_append]
  | false => rw [hb] at ht; cases ht
theorem sv_start2 {v u : Value} {k : Nat} (h : 2 ≤ k) : SV k [(0, v), (1, u)] { tmps := #[v, u] ++ Array.replicate (k - 2) Go.undef, defers := [] } := by
  refine ⟨by simp; omega, rfl, fun t x ht => ?_⟩
  simp only [lkV] at ht
  cases hb : (t == 0) with
  | true =>
    rw [hb] at ht
    have := eq_of_beq hb
    subst this
    simp only [cond_true, Option.some.injEq] at ht
    subst ht
    simp [Array.getD_eq_getD_getElem?, Array.getElem?_append]
  | false =>
    rw [hb] at ht
    simp only [cond_false] at ht
    cases hb1 : (t == 1) with
    | true =>
      rw [hb1] at ht
      have := eq_of_beq hb1
      subst this
      simp only [cond_true, Option.some.injEq] at ht
      subst ht
      simp [Array.getD_eq_getD_getElem?, Array.getElem?_append]
    | false => rw [hb1] at ht; cases ht
theorem sv_res {fn : Func} {t : Nat} {v : Value} (h : fn.results = #[.tmp t]) (s : SV n E a) (hv : lkV E t = some v) : (results fn a.tmps).run P w = .ok v w := by
  have := run_results (P := P) (fn := fn) (tmps := a.tmps) (w := w) (vs := [a.tmps.getD t Go.undef]) (by rw [h]; simp [resSem])
  rw [s.env t v hv] at this
  simpa using this
theorem sv_region {id : Nat} (h : chainK P ops Q (List.range ops.size) a w) : (Code.region id ops false).wp P Q a w := wp_region (chainK_eq _ _ _ h)
end Go.Pv

namespace Go.Proofs.YtemoiphdjocaiaaGreat
open Go.Pv
open Go.RowKit (Below)
set_option maxRecDepth 100000
theorem und3 : Tryz.prog.underlying 3 = some (.int .i64) := by kernel_rfl
theorem und5 : Tryz.prog.underlying 5 = some (.int .u8) := by kernel_rfl
theorem und9 : Tryz.prog.underlying 9 = some .string := by kernel_rfl
theorem und216 : Tryz.prog.underlying 216 = some (.slice 5) := by kernel_rfl

theorem run_cat {o : Oper} {a : Act} {w : World} {t t' : TypeId} {x y : Operand} {s r : ByteArray} (hop : o.op = .binOp .add t x y t') (hx : a.eval x = .string s) (hy : a.eval y = .string r) (h : s.size + r.size ≤ 1000) :
    (execOp a.eval o).run Tryz.prog w = .ok (.value (.string (s ++ r))) w := by
  have hg : (eqGuard .add t x y (.string s) (.string r)).run Tryz.prog w = .ok () w := rfl
  have hm : ¬ ((s.size + r.size : Nat) : Int) > IntKind.i64.max := by
    have : IntKind.i64.max = 9223372036854775807 := rfl
    omega
  have hm' : ¬ IntKind.i64.max < (s.size : Int) + (r.size : Int) := by
    have : IntKind.i64.max = 9223372036854775807 := rfl
    omega
  simp [execOp, hop, hx, hy, hg, binOp, Op.stringOp]
  omega

/-- A slice literal of one byte. -/
theorem ok_one {o : Oper} {a : Act} {w : World} {x : Operand} {m : Int} (hop : o.op = .buildSlice 216 1 #[(0, x)]) (hx : a.eval x = .int .u8 m) :
    StepOk Tryz.prog o a w fun v w' => Below w.heap.size w w' ∧ ∃ b cap, v = .slice (some ⟨b, 0, none⟩) 1 cap ∧ w'.cell? ⟨b, 0, none⟩ = some (.int .u8 m) := by
  have h := sound_buildSlice (P := Tryz.prog) ty216 rfl ty5 1 #[(0, x)] rfl (by simp) (ps := [.int .u8 m]) rfl rfl (by decide) (by decide) []
  have := h w.heap.size [] (fun _ _ => False) w a o hop ⟨rfl, fun _ _ _ h => by simp at h, fun _ _ _ h => by simp at h, fun _ _ _ _ _ _ h => by simp at h, fun _ h => h.elim, Nat.le_refl _⟩ rfl (fun i hi => by
    obtain rfl : i = 0 := by simpa using hi
    simp only [Op.operands]
    show RelV _ _ _ (a.eval x) _
    rw [hx]
    exact .frz (.int _ _))
  intro next Q hn
  refine this next Q fun v w' ⟨σ', F', h1, h2, h3, h4⟩ => hn v w' ⟨?_, ?_⟩
  · obtain ⟨_, _, _, hb, _⟩ := h4.2 rfl
    exact hb
  · obtain ⟨y, cap, hb, hc, rfl, hsz⟩ := h3.own_inv
    obtain ⟨arr, a1, a0, a2, a3, a4, a5⟩ := h1.ok _ y _ hb rfl
    refine ⟨y.1, cap, by simp, ?_⟩
    have h0 := a4 0 0 (by simp) (by decide)
    have h0 : RelV σ' F' w' (arr.getD 0 Go.undef) (.int .u8 m) := by simpa [cellsP] using h0
    have hlt : 0 < arr.size := by simp at a2; omega
    have e := h0.int_inv
    simp only [World.cell?, a1]
    simp only [Array.getD, hlt, dite_true] at e
    simp [hlt]
    simpa using e

theorem sz_cat (s r : ByteArray) : (s ++ r).size = s.size + r.size := by simp

theorem mt89 : MT Tryz.prog 89 := by
  refine ⟨⟨_, Tryz.func89, by kernel_rfl, rfl⟩, fun w K0 hK => ?_⟩
  refine calls_of_wp Tryz.func89 (rfl : Tryz.f89.body = some _) ?_
  have s0 : SV 20 [(0, Value.int .i64 K0)] { tmps := #[Value.int .i64 K0] ++ Array.replicate (Tryz.f89.ntmps - #[Value.int .i64 K0].size) Go.undef, defers := [] } := by
    have := sv_start (v := Value.int .i64 K0) (k := 20) (by decide)
    exact this
  generalize ({ tmps := #[Value.int .i64 K0] ++ Array.replicate (Tryz.f89.ntmps - #[Value.int .i64 K0].size) Go.undef, defers := [] } : Act) = a at s0
  have hK1 : -9223372036854775808 ≤ K0 ∧ K0 ≤ 9223372036854775807 := by
    have := IntKind.wrap_i64 K0
    omega
  refine wp_seq (sv_region (sv_assign s0 rfl rfl rfl rfl rfl rfl fun a s => sv_nil s fun a s => ?_))
  refine wp_seq (wp_seq (sv_region (sv_move s rfl rfl rfl rfl rfl rfl fun a s => sv_ar s rfl rfl rfl rfl rfl rfl rfl rfl fun a s => sv_nil s fun a s => ?_)))
  refine wp_cond_split (t := decide (K0 ≤ 0)) (s.ev rfl) (fun ht => ?_) (fun ht => ?_)
  · refine wp_seq (sv_region (sv_assign s rfl rfl rfl rfl rfl rfl fun a s => sv_nil s fun a s => ?_))
    exact wp_ret ⟨s.defers, _, sv_res rfl s rfl, _, rfl, Below.refl _ _⟩
  · have hpos : ¬ K0 ≤ 0 := of_decide_eq_false ht
    refine wp_skip ?_
    refine wp_seq (sv_region (sv_assign s rfl rfl rfl rfl rfl rfl fun a s => sv_nil s fun a s => ?_))
    refine wp_seq (wp_block ?_)
    have s := s.sub (E' := [(0, .int .i64 K0), (3, .string ⟨#[]⟩)]) (by intro x hx; simp at hx; rcases hx with rfl | rfl <;> rfl)
    refine wp_loop_num (fun j a w' => ∃ (k : Nat) (r : ByteArray), k = j ∧ SV 20 [(0, .int .i64 (k : Int)), (3, .string r)] a ∧ r.size ≤ 19 ∧ k < 10 ^ (19 - r.size) ∧ Below w.heap.size w w') ?_ (n := K0.toNat) ⟨K0.toNat, ⟨#[]⟩, rfl, by rw [show ((K0.toNat : Nat) : Int) = K0 by omega]; exact s, by decide, by
      show K0.toNat < 10 ^ 19
      omega, Below.refl _ _⟩
    rintro j a w1 ⟨k, r, rfl, s, h1, h2, hB⟩
    refine wp_seq (wp_seq (sv_region (sv_move s rfl rfl rfl rfl rfl rfl fun a s => sv_ar s rfl rfl rfl rfl rfl rfl rfl rfl fun a s => sv_nil s fun a s => ?_)))
    refine wp_cond_split (t := decide ((k : Int) > 0)) (s.ev rfl) (fun ht => ?_) (fun ht => ?_)
    · have hk : 0 < k := by have := of_decide_eq_true ht; omega
      have hr : r.size < 19 := by
        rcases Nat.lt_or_ge r.size 19 with h | h
        · exact h
        · rw [show 19 - r.size = 0 by omega] at h2
          omega
      refine wp_skip ?_
      refine sv_then (wp_block (wp_seq (sv_region ?_)))
      refine sv_move s rfl rfl rfl rfl rfl rfl fun a s => ?_
      refine sv_ar s rfl rfl rfl rfl rfl rfl rfl rfl fun a s => ?_
      refine sv_ar s rfl rfl rfl rfl rfl rfl rfl rfl fun a s => ?_
      refine sv_step (v := .int .u8 (IntKind.u8.wrap (IntKind.i64.wrap (48 + (k : Int).tmod 10)))) (w' := w1) rfl rfl rfl rfl s (by
        have e := s.ev (x := .tmp 10) rfl
        simp [execOp, e, convert, run_underlying und3, run_underlying und5, Conv.intToInt]) fun a s => ?_
      refine sv_ok rfl rfl rfl rfl s (ok_one rfl (s.ev rfl)) ?_
      rintro v w2 ⟨hB2, b, cap, rfl, hcell⟩ a s
      have hconv : (convert 216 9 (.slice (some ⟨b, 0, none⟩) 1 cap)).run Tryz.prog w2 = _ := run_convert_bytes_arg w2 216 5 und216 und5 b 0 1 cap [IntKind.u8.wrap (IntKind.i64.wrap (48 + (k : Int).tmod 10))] rfl (fun i hi => by
        obtain rfl : i = 0 := by omega
        exact hcell) 9 und9
      have hlen : (strOfNums [IntKind.u8.wrap (IntKind.i64.wrap (48 + (k : Int).tmod 10))]).size = 1 := rfl
      generalize strOfNums [IntKind.u8.wrap (IntKind.i64.wrap (48 + (k : Int).tmod 10))] = dg at hconv hlen
      refine sv_step (v := .string dg) (w' := w2) rfl rfl rfl rfl s (by
        have e := s.ev (x := .tmp 12) rfl
        simp [execOp, e, hconv]) fun a s => ?_
      refine sv_move s rfl rfl rfl rfl rfl rfl fun a s => ?_
      refine sv_step (v := .string (dg ++ r)) (w' := w2) rfl rfl rfl rfl s (run_cat rfl (s.ev rfl) (s.ev rfl) (by omega)) fun a s => ?_
      refine sv_assign s rfl rfl rfl rfl rfl rfl fun a s => sv_nil s fun a s => ?_
      refine sv_region ?_
      refine sv_move s rfl rfl rfl rfl rfl rfl fun a s => ?_
      refine sv_ar s rfl rfl rfl rfl rfl rfl rfl rfl fun a s => ?_
      refine sv_assign s rfl rfl rfl rfl rfl rfl fun a s => sv_nil s fun a s => ?_
      have e : IntKind.i64.wrap ((k : Int).tdiv 10) = ((k / 10 : Nat) : Int) := by
        rw [show (k : Int).tdiv 10 = ((k / 10 : Nat) : Int) from rfl, IntKind.wrap_i64]
        have : k / 10 < 10 ^ 19 / 10 + 1 := by
          have : k < 10 ^ 19 := Nat.lt_of_lt_of_le h2 (Nat.pow_le_pow_right (by decide) (by omega))
          omega
        omega
      refine ⟨k / 10, by omega, k / 10, dg ++ r, rfl, ?_, by rw [sz_cat]; omega, ?_, hB.trans (hB2.mono hB.size)⟩
      · rw [← e]
        exact s.sub (by intro x hx; simp at hx; rcases hx with rfl | rfl <;> rfl)
      · rw [sz_cat, hlen]
        refine Nat.div_lt_of_lt_mul ?_
        rw [← Nat.pow_succ']
        rw [show (19 - (1 + r.size)).succ = 19 - r.size by omega]
        exact h2
    · refine wp_exit ?_
      simp only [Exit.then, Exit.inBlock, if_true]
      refine wp_seq (sv_region ?_)
      refine sv_move s rfl rfl rfl rfl rfl rfl fun a s => ?_
      refine sv_step (v := .string (⟨#[109]⟩ ++ r)) (w' := w1) rfl rfl rfl rfl s (run_cat rfl rfl (s.ev rfl) (by show 1 + r.size ≤ 1000; omega)) fun a s => ?_
      refine sv_assign s rfl rfl rfl rfl rfl rfl fun a s => sv_nil s fun a s => ?_
      exact wp_ret ⟨s.defers, _, sv_res rfl s rfl, _, rfl, hB⟩
end Go.Proofs.YtemoiphdjocaiaaGreat

namespace Go.Proofs.YtemoiphdjocaiaaGreat
open Go.Pv
set_option maxRecDepth 100000
def phiM : List (FuncId × Sg) → FuncId → Option Sg
  | [], _ => none
  | (g, s) :: r, f => bif f == g then some s else phiM r f
def AllSg (P : Program) : List (FuncId × Sg) → Prop
  | [] => True
  | (g, s) :: r => SgOk P g s ∧ AllSg P r
theorem phiM_ok {P : Program} : ∀ {l : List (FuncId × Sg)}, AllSg P l → ∀ f s, phiM l f = some s → SgOk P f s
  | [], _, f, s, h => by cases h
  | (g, s0) :: r, hl, f, s, h => by
    simp only [phiM] at h
    cases hb : (f == g) with
    | true =>
      rw [hb] at h
      cases h
      have := eq_of_beq hb
      subst this
      exact hl.1
    | false => rw [hb] at h; exact phiM_ok hl.2 f s h
def shI : Sh := .row [.sc]
def shEntry : Sh := .row [.sc, .sc]
def shInode : Sh := .row [.sc, .sc, .sc, .sc, .sc, .sc, .sc, .sc, shEntry]
def shFs : Sh := .row [shInode]
def shArea : Sh := .row [.sc, .sc, .sc, .sc]
def shSlot : Sh := .row [.sc, .sc, .sc, .sc]
def shSpace : Sh := .row [.sc, shArea, shSlot]
def shTask : Sh := .row [.sc, .sc, .sc, .sc]
def shFile : Sh := .row [.sc, .sc, .sc, .sc, .sc, .sc, .sc, .sc]
def shPipe : Sh := .row [.sc, .sc, .sc]
def shProc : Sh := .row [.sc, .sc, .sc, .sc, .sc, shI, .sc, shI, shI, shI, shI, .sc, .sc, .sc]
theorem mk90 : MK Tryz.prog 90 (.sd shI) 1048576 :=
  MK.of_loop (Ts := mkTy Tryz.prog) (Φ := phiM []) (fun _ _ h => h) (phiM_ok trivial) Tryz.func90 (by kernel_rfl) (rfl : Tryz.f90.body = some _) Tryz.results90 Tryz.ntmps90 (by kernel_rfl) (by kernel_rfl)
theorem mk15 : MK Tryz.prog 15 (.sd shI) 1048576 :=
  MK.of_loop (Ts := mkTy Tryz.prog) (Φ := phiM []) (fun _ _ h => h) (phiM_ok trivial) Tryz.func15 (by kernel_rfl) (rfl : Tryz.f15.body = some _) Tryz.results15 Tryz.ntmps15 (by kernel_rfl) (by kernel_rfl)
theorem mk133 : MK Tryz.prog 133 (.sd shI) 1048576 :=
  MK.of_loop (Ts := mkTy Tryz.prog) (Φ := phiM [(89, .text)]) (fun _ _ h => h) (phiM_ok ⟨mt89, trivial⟩) Tryz.func133 (by kernel_rfl) (rfl : Tryz.f133.body = some _) Tryz.results133 Tryz.ntmps133 (by kernel_rfl) (by kernel_rfl)
theorem mk169 : MK Tryz.prog 169 (.sd shEntry) 2097152 :=
  MK.of_loop (Ts := mkTy Tryz.prog) (Φ := phiM [(89, .text)]) (fun _ _ h => h) (phiM_ok ⟨mt89, trivial⟩) Tryz.func169 (by kernel_rfl) (rfl : Tryz.f169.body = some _) Tryz.results169 Tryz.ntmps169 (by kernel_rfl) (by kernel_rfl)
theorem mk136 : MK Tryz.prog 136 (.sd shInode) 2199031644160 :=
  MK.of_loop (Ts := mkTy Tryz.prog) (Φ := phiM [(89, .text), (169, .mk (.sd shEntry) 2097152)]) (fun _ _ h => h) (phiM_ok ⟨mt89, mk169, trivial⟩) Tryz.func136 (by kernel_rfl) (rfl : Tryz.f136.body = some _) Tryz.results136 Tryz.ntmps136 (by kernel_rfl) (by kernel_rfl)
theorem mk88 : MK Tryz.prog 88 (.sd shFs) 2305851805306716160 :=
  MK.of_loop (Ts := mkTy Tryz.prog) (Φ := phiM [(136, .mk (.sd shInode) 2199031644160)]) (fun _ _ h => h) (phiM_ok ⟨mk136, trivial⟩) Tryz.func88 (by kernel_rfl) (rfl : Tryz.f88.body = some _) Tryz.results88 Tryz.ntmps88 (by kernel_rfl) (by kernel_rfl)
theorem mk134 : MK Tryz.prog 134 (.sd shArea) 4194304 :=
  MK.of_loop (Ts := mkTy Tryz.prog) (Φ := phiM []) (fun _ _ h => h) (phiM_ok trivial) Tryz.func134 (by kernel_rfl) (rfl : Tryz.f134.body = some _) Tryz.results134 Tryz.ntmps134 (by kernel_rfl) (by kernel_rfl)
theorem mk135 : MK Tryz.prog 135 (.sd shSlot) 4194304 :=
  MK.of_loop (Ts := mkTy Tryz.prog) (Φ := phiM []) (fun _ _ h => h) (phiM_ok trivial) Tryz.func135 (by kernel_rfl) (rfl : Tryz.f135.body = some _) Tryz.results135 Tryz.ntmps135 (by kernel_rfl) (by kernel_rfl)
theorem mk87 : MK Tryz.prog 87 (.sd shSpace) 8796094070784 :=
  MK.of_loop (Ts := mkTy Tryz.prog) (Φ := phiM [(134, .mk (.sd shArea) 4194304), (135, .mk (.sd shSlot) 4194304)]) (fun _ _ h => h) (phiM_ok ⟨mk134, mk135, trivial⟩) Tryz.func87 (by kernel_rfl) (rfl : Tryz.f87.body = some _) Tryz.results87 Tryz.ntmps87 (by kernel_rfl) (by kernel_rfl)
theorem mk91 : MK Tryz.prog 91 (.sd shTask) 4194304 :=
  MK.of_loop (Ts := mkTy Tryz.prog) (Φ := phiM []) (fun _ _ h => h) (phiM_ok trivial) Tryz.func91 (by kernel_rfl) (rfl : Tryz.f91.body = some _) Tryz.results91 Tryz.ntmps91 (by kernel_rfl) (by kernel_rfl)
theorem mk46 : MK Tryz.prog 46 (.sd shFile) 8388608 :=
  MK.of_loop (Ts := mkTy Tryz.prog) (Φ := phiM []) (fun _ _ h => h) (phiM_ok trivial) Tryz.func46 (by kernel_rfl) (rfl : Tryz.f46.body = some _) Tryz.results46 Tryz.ntmps46 (by kernel_rfl) (by kernel_rfl)
theorem mk47 : MK Tryz.prog 47 (.sd shPipe) 3145728 :=
  MK.of_loop (Ts := mkTy Tryz.prog) (Φ := phiM [(89, .text)]) (fun _ _ h => h) (phiM_ok ⟨mt89, trivial⟩) Tryz.func47 (by kernel_rfl) (rfl : Tryz.f47.body = some _) Tryz.results47 Tryz.ntmps47 (by kernel_rfl) (by kernel_rfl)
theorem mk48 : MK Tryz.prog 48 (.sd shProc) 5497567576064 :=
  MK.of_loop (Ts := mkTy Tryz.prog) (Φ := phiM [(15, .mk (.sd shI) 1048576), (90, .mk (.sd shI) 1048576)]) (fun _ _ h => h) (phiM_ok ⟨mk15, mk90, trivial⟩) Tryz.func48 (by kernel_rfl) (rfl : Tryz.f48.body = some _) Tryz.results48 Tryz.ntmps48 (by kernel_rfl) (by kernel_rfl)
theorem mk86 : MK Tryz.prog 86 (.ag [shI, shI]) 2097152 :=
  MK.of_struct (Ts := mkTy Tryz.prog) (Φ := phiM [(133, .mk (.sd shI) 1048576), (15, .mk (.sd shI) 1048576)]) (fun _ _ h => h) (phiM_ok ⟨mk133, mk15, trivial⟩) Tryz.func86 (by kernel_rfl) (rfl : Tryz.f86.body = some _) Tryz.results86 Tryz.ntmps86 (by kernel_rfl) (by kernel_rfl)
theorem mk44 : MK Tryz.prog 44 (.ag [shI, shI, shI, shI, shSpace, .sc]) 8796098265088 :=
  MK.of_struct (Ts := mkTy Tryz.prog) (Φ := phiM [(86, .mk (.ag [shI, shI]) 2097152), (87, .mk (.sd shSpace) 8796094070784)]) (fun _ _ h => h) (phiM_ok ⟨mk86, mk87, trivial⟩) Tryz.func44 (by kernel_rfl) (rfl : Tryz.f44.body = some _) Tryz.results44 Tryz.ntmps44 (by kernel_rfl) (by kernel_rfl)
theorem mk45 : MK Tryz.prog 45 (.ag [shFs, .sc]) 2305851805306716160 :=
  MK.of_struct (Ts := mkTy Tryz.prog) (Φ := phiM [(88, .mk (.sd shFs) 2305851805306716160)]) (fun _ _ h => h) (phiM_ok ⟨mk88, trivial⟩) Tryz.func45 (by kernel_rfl) (rfl : Tryz.f45.body = some _) Tryz.results45 Tryz.ntmps45 (by kernel_rfl) (by kernel_rfl)
theorem mk49 : MK Tryz.prog 49 (.ag [shTask, .sc]) 4194304 :=
  MK.of_struct (Ts := mkTy Tryz.prog) (Φ := phiM [(91, .mk (.sd shTask) 4194304)]) (fun _ _ h => h) (phiM_ok ⟨mk91, trivial⟩) Tryz.func49 (by kernel_rfl) (rfl : Tryz.f49.body = some _) Tryz.results49 Tryz.ntmps49 (by kernel_rfl) (by kernel_rfl)
theorem mk14 : MK Tryz.prog 14 (.ag [shI, shI, shI, shI, shSpace, .sc, shFs, .sc, shFile, shPipe, shProc, shTask, .sc]) 2305866098988285952 :=
  MK.of_struct (Ts := mkTy Tryz.prog) (Φ := phiM [(44, .mk (.ag [shI, shI, shI, shI, shSpace, .sc]) 8796098265088), (45, .mk (.ag [shFs, .sc]) 2305851805306716160), (46, .mk (.sd shFile) 8388608), (47, .mk (.sd shPipe) 3145728), (48, .mk (.sd shProc) 5497567576064), (49, .mk (.ag [shTask, .sc]) 4194304)]) (fun _ _ h => h) (phiM_ok ⟨mk44, mk45, mk46, mk47, mk48, mk49, trivial⟩) Tryz.func14 (by kernel_rfl) (rfl : Tryz.f14.body = some _) Tryz.results14 Tryz.ntmps14 (by kernel_rfl) (by kernel_rfl)
end Go.Proofs.YtemoiphdjocaiaaGreat

namespace Go.Pv
open Go.RowKit (Below)

mutual
def dn : PV → PV
  | .fs sz es => .sl sz (dnE es)
  | .agg cs => .agg (dnL cs) | .tup cs => .tup (dnL cs)
  | .int k n => .int k n | .bool b => .bool b | .str s => .str s | .nil => .nil | .sl sz es => .sl sz (dnE es) | .ref cs => .ref (dnL cs)
  | .ptr h sz i off => .ptr h sz i off | .own h sz a len => .own h sz a len | .mp h => .mp h | .clo f cs => .clo f (dnL cs) | .undef => .undef
def dnL : List PV → List PV
  | [] => []
  | p :: r => dn p :: dnL r
def dnE : List (List PV) → List (List PV)
  | [] => []
  | e :: r => dnL e :: dnE r
end
theorem dnL_length : ∀ ps, (dnL ps).length = ps.length
  | [] => rfl
  | _ :: r => by simp [dnL, dnL_length r]
theorem dnL_getD : ∀ (ps : List PV) (i : Nat), (dnL ps).getD i .undef = dn (ps.getD i .undef)
  | [], i => by simp [dnL, dn]
  | p :: r, 0 => by simp [dnL]
  | p :: r, i + 1 => by simpa [dnL] using dnL_getD r i
theorem dnE_map : ∀ es, dnE es = es.map dnL
  | [] => rfl
  | e :: r => by simp [dnE, dnE_map r]
theorem dnE_enc {α : Type} (f g : α → List PV) (h : ∀ a, dnL (f a) = g a) (x : List α) : dnE (x.map f) = x.map g := by
  rw [dnE_map, List.map_map]
  exact List.map_congr_left fun a _ => h a
theorem dnE_getD (es : List (List PV)) (i : Nat) : (dnE es).getD i [] = dnL (es.getD i []) := by
  rw [dnE_map]
  simp only [List.getD, List.getElem?_map]
  cases es[i]? <;> rfl
theorem RelF.dn {F F' : Fr} {w : World} (hs : ∀ b, F true b → F' true b) {v : Value} {p : PV} (h : RelF F w v p) : RelF F' w v (dn p) := by
  induction h with
  | int k n => simp only [Pv.dn]; exact .int k n
  | bool b => simp only [Pv.dn]; exact .bool b
  | str s hs => simp only [Pv.dn]; exact .str s hs
  | agg cs ps hn _ ih => simp only [Pv.dn]; exact .agg cs _ (by rw [dnL_length]; exact hn) fun i hi => by rw [dnL_getD]; exact ih i (by rwa [dnL_length] at hi)
  | tup cs ps hn _ ih => simp only [Pv.dn]; exact .tup cs _ (by rw [dnL_length]; exact hn) fun i hi => by rw [dnL_getD]; exact ih i (by rwa [dnL_length] at hi)
  | clo f cs ps hn _ ih => simp only [Pv.dn]; exact .clo f cs _ (by rw [dnL_length]; exact hn) fun i hi => by rw [dnL_getD]; exact ih i (by rwa [dnL_length] at hi)
  | nil => simp only [Pv.dn]; exact .nil
  | sl0 a cap sz => simp only [Pv.dn, dnE]; exact .sl0 a cap sz
  | sl b off n cap sz es v hb hn hc hL hz hv h ih =>
    simp only [Pv.dn]
    refine .sl b off n cap sz _ v (hs b hb) (by rw [dnE_map, List.length_map]; exact hn) hc hL (fun i hi => by rw [dnE_getD, dnL_length]; exact hz i hi) hv fun i j hi hj => ?_
    rw [dnE_getD, dnL_getD]
    exact ih i j hi hj
  | fs0 a cap sz => simp only [Pv.dn, dnE]; exact .sl0 a cap sz
  | fs b off n cap sz es v hb hw ha hn hc hL hz hv h ih =>
    simp only [Pv.dn]
    refine .sl b off n cap sz _ v (hs b hb) (by rw [dnE_map, List.length_map]; exact hn) hc hL (fun i hi => by rw [dnE_getD, dnL_length]; exact hz i hi) hv fun i j hi hj => ?_
    rw [dnE_getD, dnL_getD]
    exact ih i j hi hj
  | ref b off cs v hb hv h ih =>
    simp only [Pv.dn]
    refine .ref b off _ v (hs b hb) (fun j hj => hv j (by rwa [dnL_length] at hj)) fun j hj => ?_
    rw [dnL_getD]
    exact ih j (by rwa [dnL_length] at hj)
  | undef v => simp only [Pv.dn]; exact .undef v

mutual
/-- A plain value has a shape, and no row is long. -/
def conf : PV → Sh → Prop
  | .int _ _, .sc => True
  | .bool _, .sc => True
  | .str _, .sc => True
  | .fs sz es, .row cs => es.length ≤ 1048576 ∧ sz = cs.length ∧ confE es cs
  | _, _ => False
def confL : List PV → List Sh → Prop
  | [], [] => True
  | p :: r, s :: q => conf p s ∧ confL r q
  | _, _ => False
def confE : List (List PV) → List Sh → Prop
  | [], _ => True
  | e :: r, cs => confL e cs ∧ confE r cs
end
theorem confL_cons (p : PV) (r : List PV) (s : Sh) (q : List Sh) : confL (p :: r) (s :: q) = (conf p s ∧ confL r q) := by simp only [confL]
theorem confL_nil : confL [] [] = True := by simp only [confL]
theorem conf_int (k : IntKind) (n : Int) : conf (.int k n) .sc = True := by simp only [conf]
theorem conf_bool (b : Bool) : conf (.bool b) .sc = True := by simp only [conf]
theorem conf_str (s : ByteArray) : conf (.str s) .sc = True := by simp only [conf]
theorem confL_get : ∀ {ps : List PV} {cs : List Sh}, confL ps cs → ps.length = cs.length ∧ ∀ j, j < cs.length → conf (ps.getD j .undef) (cs.getD j .sc)
  | [], [], _ => ⟨rfl, fun j hj => absurd hj (Nat.not_lt_zero j)⟩
  | p :: r, s :: q, h => by
    rw [confL_cons] at h
    obtain ⟨h1, h2⟩ := confL_get h.2
    refine ⟨by simp [h1], fun j hj => ?_⟩
    cases j with
    | zero => simpa using h.1
    | succ j => simpa using h2 j (by simpa using hj)
  | [], _ :: _, h => by simp [confL] at h
  | _ :: _, [], h => by simp [confL] at h
theorem confE_get : ∀ {es : List (List PV)} {cs : List Sh}, confE es cs → ∀ i, i < es.length → confL (es.getD i []) cs
  | [], _, _, i, hi => absurd hi (Nat.not_lt_zero i)
  | e :: r, cs, h, 0, _ => by simp only [confE] at h; simpa using h.1
  | e :: r, cs, h, i + 1, hi => by simp only [confE] at h; simpa using confE_get h.2 i (by simpa using hi)
theorem confE_of {α : Type} {f : α → List PV} {cs : List Sh} (d : α) : ∀ {x : List α}, (∀ i, i < x.length → confL (f (x.getD i d)) cs) → confE (x.map f) cs
  | [], _ => by simp [confE]
  | a :: r, h => by
    simp only [List.map_cons, confE]
    exact ⟨by simpa using h 0 (by simp), confE_of d fun i hi => by simpa using h (i + 1) (by simpa using hi)⟩
theorem confRow {α : Type} {f : α → List PV} {cs : List Sh} {sz : Nat} {x : List α} (d : α) (hl : x.length ≤ 1048576) (hsz : sz = cs.length) (h : ∀ i, i < x.length → confL (f (x.getD i d)) cs) : conf (.fs sz (x.map f)) (.row cs) := by
  simp only [conf, List.length_map]
  exact ⟨hl, hsz, confE_of d h⟩

theorem RelF.sd {F : Fr} {w : World} {lo hi : Nat} (hF : ∀ b, F true b → F false b → lo ≤ b ∧ b < hi) {v : Value} {p : PV} (h : RelF F w v p) : ∀ s, conf p s → Sd ⟨w, lo, hi⟩ v s := by
  induction h with
  | int k n => intro s hs; cases s with | sc => exact .sc _ rfl | row => simp [conf] at hs
  | bool b => intro s hs; cases s with | sc => exact .sc _ rfl | row => simp [conf] at hs
  | str s0 h0 => intro s hs; cases s with | sc => exact .sc _ rfl | row => simp [conf] at hs
  | fs0 a cap sz => intro s hs; cases s with | sc => simp [conf] at hs | row => exact .row0 _ _ _
  | fs b off n cap sz es v hb hw ha hn hc hL hz hv h ih =>
    intro s hs
    cases s with
    | sc => simp [conf] at hs
    | row cs =>
      simp only [conf] at hs
      obtain ⟨h1, h2, h3⟩ := hs
      subst h2
      obtain ⟨f1, f2⟩ := hF b hb hw
      exact .row b off n cap cs v f1 f2 hc (by omega) ha hv fun i j hi hj => ih i j hi hj _ ((confL_get (confE_get h3 i (by omega))).2 j hj)
  | _ => intro s hs; cases s <;> simp [conf] at hs
theorem RelF.ag {F : Fr} {w : World} {lo hi : Nat} (hF : ∀ b, F true b → F false b → lo ≤ b ∧ b < hi) {v : Value} {ps : List PV} {cs : List Sh} (h : RelF F w v (.agg ps)) (hs : confL ps cs) (G : Gh) (w' : World) : R ⟨w, lo, hi⟩ G w' v (.ag cs) := by
  cases h with
  | agg arr _ hn h =>
    obtain ⟨h1, h2⟩ := confL_get hs
    exact ⟨arr, rfl, by omega, fun j hj => (h j (by omega)).sd hF _ (h2 j hj)⟩
end Go.Pv

namespace Go.Proofs.YtemoiphdjocaiaaGreat
open Go.Pv
open Go.RowKit (Below)
set_option maxRecDepth 100000

theorem one_mem {v : Value} (h : v.oneCell' = true) : ∀ u ∈ v.cells.toList, u.oneCell' = true := by
  intro u hu
  rw [cells_of_one h] at hu
  simp at hu
  rw [hu]; exact h
/-- How far a row of numbers is marked. -/
structure Mk15 (b off n : Nat) (w w' : World) (i : Nat) : Prop where
  os : w'.os = w.os
  tape : w'.tape = w.tape
  output : w'.output = w.output
  size : w'.heap.size = w.heap.size
  other : ∀ c, c ≠ b → w'.heap[c]? = w.heap[c]?
  row : ∀ j, j < i → w'.cell? ⟨b, off + j, none⟩ = some (.int .i64 ((j : Int) + 1))
  blk : ∃ (arr : Array Value) (T : TypeId), w'.heap[b]? = some (.cells arr T (0, 0)) ∧ off + n ≤ arr.size

theorem mx15 (w : World) (b off n cap : Nat) (hn : n ≤ 1048576) (hb : ∃ (arr : Array Value) (T : TypeId), w.heap[b]? = some (.cells arr T (0, 0)) ∧ off + n ≤ arr.size) :
    Calls Tryz.prog 15 #[.slice (some ⟨b, off, none⟩) n cap, .int .i64 1] w fun e w' => e = .returned (.int .i64 ((n : Int) + 1)) ∧ Mk15 b off n w w' n := by
  refine calls_of_wp Tryz.func15 (rfl : Tryz.f15.body = some _) ?_
  have s0 : SV 19 [(0, Value.slice (some ⟨b, off, none⟩) n cap), (1, Value.int .i64 1)] { tmps := #[Value.slice (some ⟨b, off, none⟩) n cap, Value.int .i64 1] ++ Array.replicate (Tryz.f15.ntmps - #[Value.slice (some ⟨b, off, none⟩) n cap, Value.int .i64 1].size) Go.undef, defers := [] } :=
    sv_start2 (v := Value.slice (some ⟨b, off, none⟩) n cap) (u := Value.int .i64 1) (k := 19) (by decide)
  generalize ({ tmps := #[Value.slice (some ⟨b, off, none⟩) n cap, Value.int .i64 1] ++ Array.replicate (Tryz.f15.ntmps - #[Value.slice (some ⟨b, off, none⟩) n cap, Value.int .i64 1].size) Go.undef, defers := [] } : Act) = a at s0
  refine wp_seq (sv_region (sv_assign s0 rfl rfl rfl rfl rfl rfl fun a s => sv_nil s fun a s => ?_))
  refine wp_seq (wp_seq (sv_region (sv_assign s rfl rfl rfl rfl rfl rfl fun a s => sv_nil s fun a s => ?_)))
  refine sv_then (wp_block ?_)
  refine wp_loop_num (fun k a w' => ∃ i : Nat, i ≤ n ∧ k = n - i ∧ SV 19 [(0, Value.slice (some ⟨b, off, none⟩) n cap), (1, Value.int .i64 ((i : Int) + 1)), (5, Value.int .i64 (i : Int))] a ∧ Mk15 b off n w w' i) ?_ (n := n)
    ⟨0, Nat.zero_le _, rfl, s.sub (by intro x hx; simp at hx; rcases hx with rfl | rfl | rfl <;> rfl), rfl, rfl, rfl, rfl, fun _ _ => rfl, fun j hj => absurd hj (Nat.not_lt_zero j), hb⟩
  rintro k a w1 ⟨i, hi, rfl, s, hM⟩
  refine wp_seq (wp_seq (sv_region ?_))
  refine sv_move s rfl rfl rfl rfl rfl rfl fun a s => ?_
  refine sv_move s rfl rfl rfl rfl rfl rfl fun a s => ?_
  refine sv_len ty23 rfl s rfl rfl rfl rfl rfl rfl rfl rfl rfl fun a s => ?_
  refine sv_ar s rfl rfl rfl rfl rfl rfl rfl rfl fun a s => sv_nil s fun a s => ?_
  refine sv_then (wp_cond_split (t := decide ((i : Int) < (n : Int))) (s.ev rfl) (fun ht => ?_) (fun ht => ?_))
  · have hlt : i < n := by have := of_decide_eq_true ht; omega
    refine wp_skip ?_
    refine sv_then (wp_seq (wp_block (wp_seq (sv_region ?_))))
    refine sv_move s rfl rfl rfl rfl rfl rfl fun a s => ?_
    refine sv_move s rfl rfl rfl rfl rfl rfl fun a s => ?_
    refine sv_move s rfl rfl rfl rfl rfl rfl fun a s => ?_
    refine sv_index ty23 rfl ty3 s rfl rfl rfl rfl rfl rfl rfl hlt fun a s => ?_
    obtain ⟨arr, T, ha, hsz⟩ := hM.blk
    refine sv_store (v := .int .i64 ((i : Int) + 1)) ty3 s rfl rfl rfl rfl rfl rfl ha rfl (by show off + i * 1 + 1 ≤ arr.size; omega) (one_mem rfl) fun arr2 a hrow hs2 hat s => sv_nil s fun a s => ?_
    refine sv_then (sv_region ?_)
    refine sv_move s rfl rfl rfl rfl rfl rfl fun a s => ?_
    refine sv_ar s rfl rfl rfl rfl rfl rfl rfl rfl fun a s => ?_
    refine sv_assign s rfl rfl rfl rfl rfl rfl fun a s => sv_nil s fun a s => ?_
    simp only [Exit.inBlock, Exit.then]
    refine sv_region ?_
    refine sv_move s rfl rfl rfl rfl rfl rfl fun a s => ?_
    refine sv_ar s rfl rfl rfl rfl rfl rfl rfl rfl fun a s => ?_
    refine sv_assign s rfl rfl rfl rfl rfl rfl fun a s => sv_nil s fun a s => ?_
    have e1 : IntKind.i64.wrap ((i : Int) + 1) = ((i + 1 : Nat) : Int) := by rw [IntKind.wrap_i64]; omega
    have e2 : IntKind.i64.wrap ((i : Int) + 1 + 1) = ((i + 1 : Nat) : Int) + 1 := by rw [IntKind.wrap_i64]; omega
    rw [e1, e2] at s
    refine ⟨n - (i + 1), by omega, i + 1, hlt, rfl, s.sub (by intro x hx; simp at hx; rcases hx with rfl | rfl | rfl <;> rfl), hM.os, hM.tape, hM.output, by rw [setRow_size]; exact hM.size, fun c hc => by rw [setRow_ne hc]; exact hM.other c hc, fun j hj => ?_, arr2, T, hrow, by omega⟩
    simp only [World.cell?, hrow, hat, Nat.mul_one]
    by_cases hji : j = i
    · subst hji
      have : off + j ≤ off + j ∧ off + j < off + j + 1 := ⟨Nat.le_refl _, by omega⟩
      simp [Value.cells]
    · have h := hM.row j (by omega)
      simp only [World.cell?, ha] at h
      have : ¬ (off + i ≤ off + j ∧ off + j < off + i + 1) := by omega
      rw [if_neg this]
      exact h
  · obtain rfl : i = n := by have := of_decide_eq_false ht; omega
    refine wp_exit ?_
    simp only [Exit.then, Exit.inBlock, if_true]
    refine wp_seq (sv_region ?_)
    refine sv_move s rfl rfl rfl rfl rfl rfl fun a s => ?_
    refine sv_assign s rfl rfl rfl rfl rfl rfl fun a s => sv_nil s fun a s => ?_
    exact wp_ret ⟨s.defers, _, sv_res rfl s rfl, rfl, hM⟩

theorem mx15z (w : World) (b : Option Addr) (cap : Nat) : Calls Tryz.prog 15 #[.slice b 0 cap, .int .i64 1] w fun e w' => e = .returned (.int .i64 1) ∧ w' = w := by
  refine calls_of_wp Tryz.func15 (rfl : Tryz.f15.body = some _) ?_
  have s0 : SV 19 [(0, Value.slice b 0 cap), (1, Value.int .i64 1)] { tmps := #[Value.slice b 0 cap, Value.int .i64 1] ++ Array.replicate (Tryz.f15.ntmps - #[Value.slice b 0 cap, Value.int .i64 1].size) Go.undef, defers := [] } :=
    sv_start2 (v := Value.slice b 0 cap) (u := Value.int .i64 1) (k := 19) (by decide)
  generalize ({ tmps := #[Value.slice b 0 cap, Value.int .i64 1] ++ Array.replicate (Tryz.f15.ntmps - #[Value.slice b 0 cap, Value.int .i64 1].size) Go.undef, defers := [] } : Act) = a at s0
  refine wp_seq (sv_region (sv_assign s0 rfl rfl rfl rfl rfl rfl fun a s => sv_nil s fun a s => ?_))
  refine wp_seq (wp_seq (sv_region (sv_assign s rfl rfl rfl rfl rfl rfl fun a s => sv_nil s fun a s => ?_)))
  refine sv_then (wp_block ?_)
  refine wp_loop_num (fun k a w' => w' = w ∧ SV 19 [(0, Value.slice b 0 cap), (1, Value.int .i64 1), (5, Value.int .i64 0)] a) ?_ (n := 0)
    ⟨rfl, s.sub (by intro x hx; simp at hx; rcases hx with rfl | rfl | rfl <;> rfl)⟩
  rintro k a w1 ⟨rfl, s⟩
  refine wp_seq (wp_seq (sv_region ?_))
  refine sv_move s rfl rfl rfl rfl rfl rfl fun a s => ?_
  refine sv_move s rfl rfl rfl rfl rfl rfl fun a s => ?_
  refine sv_len ty23 rfl s rfl rfl rfl rfl rfl rfl rfl rfl rfl fun a s => ?_
  refine sv_ar s rfl rfl rfl rfl rfl rfl rfl rfl fun a s => sv_nil s fun a s => ?_
  refine sv_then (wp_cond_split (t := false) (s.ev rfl) (fun ht => by cases ht) (fun ht => ?_))
  refine wp_exit ?_
  simp only [Exit.then, Exit.inBlock, if_true]
  refine wp_seq (sv_region ?_)
  refine sv_move s rfl rfl rfl rfl rfl rfl fun a s => ?_
  refine sv_assign s rfl rfl rfl rfl rfl rfl fun a s => sv_nil s fun a s => ?_
  exact wp_ret ⟨s.defers, _, sv_res rfl s rfl, rfl, rfl⟩
end Go.Proofs.YtemoiphdjocaiaaGreat

namespace Go.Proofs.YtemoiphdjocaiaaGreat
open Go.Pv
set_option maxRecDepth 100000
theorem dn_row (sz : Nat) (es : List (List PV)) : dn (.fs sz es) = .sl sz (dnE es) := by simp only [dn]
theorem dn_int (k : IntKind) (n : Int) : dn (.int k n) = .int k n := by simp only [dn]
theorem dn_bool (b : Bool) : dn (.bool b) = .bool b := by simp only [dn]
theorem dn_str (s : ByteArray) : dn (.str s) = .str s := by simp only [dn]
theorem dnL_cons (p : PV) (r : List PV) : dnL (p :: r) = dn p :: dnL r := by simp only [dnL]
theorem dnL_nil : dnL [] = [] := by simp only [dnL]
theorem dn_Pages (x : Pages) : dnL (Pages.encF x) = Pages.enc x := by
  simp only [Pages.encF_eq, Pages.enc_eq, dnL_cons, dnL_nil, dn_row, dn_int, dn_bool, dn_str, (dnE_enc encS encS (fun _ => rfl)), (dnE_enc encI encI (fun _ => rfl))]
theorem dn_Area (x : Area) : dnL (Area.enc x) = Area.enc x := by
  simp only [Area.enc_eq, Area.enc_eq, dnL_cons, dnL_nil, dn_row, dn_int, dn_bool, dn_str]
theorem dn_Slot (x : Slot) : dnL (Slot.enc x) = Slot.enc x := by
  simp only [Slot.enc_eq, Slot.enc_eq, dnL_cons, dnL_nil, dn_row, dn_int, dn_bool, dn_str]
theorem dn_Space (x : Space) : dnL (Space.encF x) = Space.enc x := by
  simp only [Space.encF_eq, Space.enc_eq, dnL_cons, dnL_nil, dn_row, dn_int, dn_bool, dn_str, (dnE_enc Area.enc Area.enc (fun a => dn_Area a)), (dnE_enc Slot.enc Slot.enc (fun a => dn_Slot a))]
theorem dn_Mem (x : Mem) : dnL (Mem.encF x) = Mem.enc x := by
  simp only [Mem.encF_eq, Mem.enc_eq, dnL_cons, dnL_nil, dn_row, dn_int, dn_bool, dn_str, (dnE_enc encS encS (fun _ => rfl)), (dnE_enc encI encI (fun _ => rfl)), (dnE_enc Space.encF Space.enc (fun a => dn_Space a))]
theorem dn_Entry (x : Entry) : dnL (Entry.enc x) = Entry.enc x := by
  simp only [Entry.enc_eq, Entry.enc_eq, dnL_cons, dnL_nil, dn_row, dn_int, dn_bool, dn_str]
theorem dn_Inode (x : Inode) : dnL (Inode.encF x) = Inode.enc x := by
  simp only [Inode.encF_eq, Inode.enc_eq, dnL_cons, dnL_nil, dn_row, dn_int, dn_bool, dn_str, (dnE_enc Entry.enc Entry.enc (fun a => dn_Entry a))]
theorem dn_Fs (x : Fs) : dnL (Fs.encF x) = Fs.enc x := by
  simp only [Fs.encF_eq, Fs.enc_eq, dnL_cons, dnL_nil, dn_row, dn_int, dn_bool, dn_str, (dnE_enc Inode.encF Inode.enc (fun a => dn_Inode a))]
theorem dn_Vfs (x : Vfs) : dnL (Vfs.encF x) = Vfs.enc x := by
  simp only [Vfs.encF_eq, Vfs.enc_eq, dnL_cons, dnL_nil, dn_row, dn_int, dn_bool, dn_str, (dnE_enc Fs.encF Fs.enc (fun a => dn_Fs a))]
theorem dn_Spt (x : Spt) : dnL (Spt.enc x) = Spt.enc x := by
  simp only [Spt.enc_eq, Spt.enc_eq, dnL_cons, dnL_nil, dn_row, dn_int, dn_bool, dn_str]
theorem dn_File (x : File) : dnL (File.enc x) = File.enc x := by
  simp only [File.enc_eq, File.enc_eq, dnL_cons, dnL_nil, dn_row, dn_int, dn_bool, dn_str]
theorem dn_Pipe (x : Pipe) : dnL (Pipe.enc x) = Pipe.enc x := by
  simp only [Pipe.enc_eq, Pipe.enc_eq, dnL_cons, dnL_nil, dn_row, dn_int, dn_bool, dn_str]
theorem dn_Cred (x : Cred) : dnL (Cred.encF x) = Cred.enc x := by
  simp only [Cred.encF_eq, Cred.enc_eq, dnL_cons, dnL_nil, dn_row, dn_int, dn_bool, dn_str, (dnE_enc encI encI (fun _ => rfl))]
theorem dn_Sigs (x : Sigs) : dnL (Sigs.encF x) = Sigs.enc x := by
  simp only [Sigs.encF_eq, Sigs.enc_eq, dnL_cons, dnL_nil, dn_row, dn_int, dn_bool, dn_str, (dnE_enc encB encB (fun _ => rfl)), (dnE_enc encI encI (fun _ => rfl))]
theorem dn_Proc (x : Proc) : dnL (Proc.encF x) = Proc.enc x := by
  simp only [Proc.encF_eq, Proc.enc_eq, dnL_cons, dnL_nil, dn_row, dn_int, dn_bool, dn_str, (dnE_enc encI encI (fun _ => rfl)), (dnE_enc encB encB (fun _ => rfl))]
theorem dn_Task (x : Task) : dnL (Task.enc x) = Task.enc x := by
  simp only [Task.enc_eq, Task.enc_eq, dnL_cons, dnL_nil, dn_row, dn_int, dn_bool, dn_str]
theorem dn_Queue (x : Queue) : dnL (Queue.encF x) = Queue.enc x := by
  simp only [Queue.encF_eq, Queue.enc_eq, dnL_cons, dnL_nil, dn_row, dn_int, dn_bool, dn_str, (dnE_enc Task.enc Task.enc (fun a => dn_Task a))]
theorem dn_Kern (x : Kern) : dnL (Kern.encF x) = Kern.enc x := by
  simp only [Kern.encF_eq, Kern.enc_eq, dnL_cons, dnL_nil, dn_row, dn_int, dn_bool, dn_str, (dnE_enc encS encS (fun _ => rfl)), (dnE_enc encI encI (fun _ => rfl)), (dnE_enc Space.encF Space.enc (fun a => dn_Space a)), (dnE_enc Fs.encF Fs.enc (fun a => dn_Fs a)), (dnE_enc File.enc File.enc (fun a => dn_File a)), (dnE_enc Pipe.enc Pipe.enc (fun a => dn_Pipe a)), (dnE_enc Proc.encF Proc.enc (fun a => dn_Proc a)), (dnE_enc Task.enc Task.enc (fun a => dn_Task a))]
theorem cf_Area (x : Area) : confL (Area.enc x) [.sc, .sc, .sc, .sc] := by
  simp only [Area.enc_eq, confL_cons, confL_nil, conf_int, conf_bool, conf_str, true_and, and_true, and_self]
theorem cf_Slot (x : Slot) : confL (Slot.enc x) [.sc, .sc, .sc, .sc] := by
  simp only [Slot.enc_eq, confL_cons, confL_nil, conf_int, conf_bool, conf_str, true_and, and_true, and_self]
theorem cf_Space (x : Space) (hs : szdSpace 1048576 x) : confL (Space.encF x) [.sc, shArea, shSlot] := by
  simp only [Space.encF_eq, confL_cons, confL_nil, conf_int, conf_bool, conf_str, true_and, and_true, and_self]
  exact ⟨confRow default hs.1 rfl (fun i hi => cf_Area _), confRow default hs.2 rfl (fun i hi => cf_Slot _)⟩
theorem cf_Entry (x : Entry) (hs : szdEntry 1048576 x) : confL (Entry.enc x) [.sc, .sc] := by
  simp only [Entry.enc_eq, confL_cons, confL_nil, conf_int, conf_bool, conf_str, true_and, and_true, and_self]
theorem cf_Inode (x : Inode) (hs : szdInode 1048576 x) : confL (Inode.encF x) [.sc, .sc, .sc, .sc, .sc, .sc, .sc, .sc, shEntry] := by
  simp only [Inode.encF_eq, confL_cons, confL_nil, conf_int, conf_bool, conf_str, true_and, and_true, and_self]
  exact confRow default hs.2.1 rfl (fun i hi => cf_Entry _ (hs.2.2 i hi))
theorem cf_Fs (x : Fs) (hs : szdFs 1048576 x) : confL (Fs.encF x) [shInode] := by
  simp only [Fs.encF_eq, confL_cons, confL_nil, conf_int, conf_bool, conf_str, true_and, and_true, and_self]
  exact confRow default hs.1 rfl (fun i hi => cf_Inode _ (hs.2 i hi))
theorem cf_File (x : File) : confL (File.enc x) [.sc, .sc, .sc, .sc, .sc, .sc, .sc, .sc] := by
  simp only [File.enc_eq, confL_cons, confL_nil, conf_int, conf_bool, conf_str, true_and, and_true, and_self]
theorem cf_Pipe (x : Pipe) (hs : szdPipe 1048576 x) : confL (Pipe.enc x) [.sc, .sc, .sc] := by
  simp only [Pipe.enc_eq, confL_cons, confL_nil, conf_int, conf_bool, conf_str, true_and, and_true, and_self]
theorem cf_Proc (x : Proc) (hs : szdProc 1048576 x) : confL (Proc.encF x) [.sc, .sc, .sc, .sc, .sc, shI, .sc, shI, shI, shI, shI, .sc, .sc, .sc] := by
  simp only [Proc.encF_eq, confL_cons, confL_nil, conf_int, conf_bool, conf_str, true_and, and_true, and_self]
  exact ⟨confRow (0 : Int) hs.1 rfl (fun i hi => by simp only [encI, confL_cons, confL_nil, conf_int, conf_bool, conf_str, and_self]), confRow (0 : Int) hs.2.1 rfl (fun i hi => by simp only [encI, confL_cons, confL_nil, conf_int, conf_bool, conf_str, and_self]), confRow false hs.2.2.1 rfl (fun i hi => by simp only [encB, confL_cons, confL_nil, conf_int, conf_bool, conf_str, and_self]), confRow false hs.2.2.2.1 rfl (fun i hi => by simp only [encB, confL_cons, confL_nil, conf_int, conf_bool, conf_str, and_self]), confRow (0 : Int) hs.2.2.2.2 rfl (fun i hi => by simp only [encI, confL_cons, confL_nil, conf_int, conf_bool, conf_str, and_self])⟩
theorem cf_Task (x : Task) : confL (Task.enc x) [.sc, .sc, .sc, .sc] := by
  simp only [Task.enc_eq, confL_cons, confL_nil, conf_int, conf_bool, conf_str, true_and, and_true, and_self]
theorem cf_Kern (x : Kern) (hs : szdKern 1048576 x) : confL (Kern.encF x) [shI, shI, shI, shI, shSpace, .sc, shFs, .sc, shFile, shPipe, shProc, shTask, .sc] := by
  simp only [Kern.encF_eq, confL_cons, confL_nil, conf_int, conf_bool, conf_str, true_and, and_true, and_self]
  exact ⟨confRow (⟨#[]⟩ : ByteArray) hs.1.1.1.1 rfl (fun i hi => by simp only [encS, confL_cons, confL_nil, conf_int, conf_bool, conf_str, and_self]), confRow (0 : Int) hs.1.1.2 rfl (fun i hi => by simp only [encI, confL_cons, confL_nil, conf_int, conf_bool, conf_str, and_self]), confRow (⟨#[]⟩ : ByteArray) hs.1.2.1.1.1 rfl (fun i hi => by simp only [encS, confL_cons, confL_nil, conf_int, conf_bool, conf_str, and_self]), confRow (0 : Int) hs.1.2.1.2 rfl (fun i hi => by simp only [encI, confL_cons, confL_nil, conf_int, conf_bool, conf_str, and_self]), confRow default hs.1.2.2.1 rfl (fun i hi => cf_Space _ (hs.1.2.2.2 i hi)), confRow default hs.2.1.1 rfl (fun i hi => cf_Fs _ (hs.2.1.2 i hi)), confRow default hs.2.2.1 rfl (fun i hi => cf_File _), confRow default hs.2.2.2.1.1 rfl (fun i hi => cf_Pipe _ (hs.2.2.2.1.2 i hi)), confRow default hs.2.2.2.2.1.1 rfl (fun i hi => cf_Proc _ (hs.2.2.2.2.1.2 i hi)), confRow default hs.2.2.2.2.2 rfl (fun i hi => cf_Task _)⟩
end Go.Proofs.YtemoiphdjocaiaaGreat
