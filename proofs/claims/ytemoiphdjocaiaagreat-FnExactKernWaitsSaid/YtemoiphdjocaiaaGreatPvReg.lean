/-
  A region in which a map's entry is made ready while operations that write nothing are still under way: of any program. Conditions: none.
-/
import Derived.Test.YtemoiphdjocaiaaGreatPvOps
set_option linter.all false
set_option linter.unusedSimpArgs false
set_option linter.unusedVariables false
namespace Go.Pv
open Go.RowKit (Below)

def entB : Op → Bool
  | .mapEntry .. => true
  | _ => false
def hdE (o : Op) : Bool := headB o || nwB o || entB o
def isEnt : List POp → Bool
  | [] => false
  | (_, o, _) :: r => bif entB o then true else isEnt r
def hdL : List POp → List POp
  | [] => []
  | (d, o, _) :: r => bif hdE o then (d, o, none) :: hdL r else hdL r
def tlL : List POp → List POp
  | [] => []
  | (d, o, _) :: r => bif hdE o then tlL r else (d, o, none) :: tlL r
/-- The operations of the head first. -/
def ordE (l : List POp) : List POp := hdL l ++ tlL l

theorem mget_ment (z : PV) (l l' : List Int) : ∀ es : ME, mget z l' (ment z l es) = mget z l' es
  | [] => by simp only [ment, mget]; split <;> rfl
  | e :: es => by
    simp only [ment]
    split
    · rfl
    · simp only [mget, mget_ment z l l' es]

section
variable {P : Program} {φ : FuncId → List PV → PV}

/-- What mapEntry leaves, and that it touches the map's block alone. -/
theorem mapEntry_strong {t kt et : TypeId} {r : Ty} (h : mkTy P t = some r) (hk : r.k = .map kt et) {ag : Bool} (hkt : KeyT P kt ag) (x y : Operand) (h0 : Nat) (kp z : PV) (l : List Int) (es : ME) (H : Heap) (hH : H[h0]? = some (.map ag es)) (hl : keyP ag kp = some l) (hz : ZeroOk P et z)
    {B : Nat} {σ : List (Nat × Nat)} {F : Fr} {w : World} {a : Act} {o : Oper} (ho : o.op = .mapEntry t x y) (hI : Ow B σ F w H) (hx : RelV σ F w (a.eval x) (.mp h0)) (hy : RelV σ F w (a.eval y) kp) :
    ∃ x0, σ[h0]? = some x0 ∧ StepOk P o a w fun v w' => (∃ obj, w' = { w with heap := w.heap.setIfInBounds x0.1 obj }) ∧ Ow B σ F w' (H.set h0 (.map ag (ment z l es))) ∧ Step B σ F w σ F w' ∧ RelV σ F w' v (.tup [mget z l es, .int .i64 (mpos l es)]) := by
  obtain ⟨x0, hb, hv⟩ := hx.mp_inv
  obtain ⟨hkv, hll⟩ := keyP_rel hy hl
  obtain ⟨⟨f, hobj, hrel⟩, hnF⟩ := hI.ok h0 x0 _ hb hH
  obtain ⟨z0, z1, z2⟩ := hz
  have hu := aggB_under h hk
  obtain ⟨res, f1, f2⟩ := hkt.find l w (mArr ag es f).toList es hll (mArr_keys ag es f) (fun e he => by
    obtain ⟨i, hi, rfl⟩ := List.getElem_of_mem he
    simpa [List.getD, hi] using (hrel i hi).2)
  have hc := fun e => hkt.chk l e w hll
  refine ⟨x0, hb, ?_⟩
  rcases f2 with ⟨c1, rfl⟩ | ⟨c1, e, c2, rfl⟩
  · have hp : mpos l es = es.length := by have := mpos_le l es; omega
    rw [ment_miss z l es c1, mget_eq, if_neg c1, hp]
    obtain ⟨q1, q2⟩ := hI.putMap (es' := es ++ [(l, z)]) (f' := fun i => if i = es.length then z0 else f i) hb hH (by
      intro i hi
      by_cases hie : i = es.length
      · subst hie
        simp only [if_true, List.getD]
        simp; exact ⟨z2 _ _ _, hll⟩
      · have hi2 : i < es.length := by simp at hi; omega
        have : (es ++ [(l, z)]).getD i md = es.getD i md := by simp [List.getD, List.getElem?_append, hi2]
        rw [if_neg hie, this]; exact hrel i hi2)
    refine .value (v := .tuple #[z0, .int .i64 es.length]) ?_ ⟨⟨_, rfl⟩, q1, q2, ?_⟩
    · simp [execOp, ho, hv, hkv, Instr.mapEntry, run_underlying hu, run_getMap hobj, hc, f1, z1, run_setMap _ hobj, goInt, mArr_push ag es f l z z0]
    · refine .tup _ _ rfl fun i hi => ?_
      match i, hi with
      | 0, _ => exact z2 _ _ _
      | 1, _ => exact .frz (.int _ _)
  · rw [ment_hit z l es c1, mget_eq, if_pos c1]
    have hget := mArr_get ag es f (mpos l es)
    rw [if_pos c1] at hget
    have hval : e = { key := kv ag l, val := f (mpos l es), born := mpos l es } := by
      simp only [Array.getElem?_toList] at c2
      rw [hget] at c2
      simp only [Option.some.injEq] at c2
      rw [← c2, mpos_hit l es c1]
    subst hval
    rw [mpos_hit l es c1] at hget
    have hmod : (mArr ag es f).modify (mpos l es) (fun e => { e with key := kv ag l }) = mArr ag es f := mArr_same ag es f _ _ c1 (by rw [mpos_hit l es c1])
    obtain ⟨q1, q2⟩ := hI.putMap (es' := es) (f' := f) hb hH (fun i hi => hrel i hi)
    refine .value (v := .tuple #[f (mpos l es), .int .i64 (mpos l es)]) ?_ ⟨⟨_, rfl⟩, q1, q2, ?_⟩
    · simp [execOp, ho, hv, hkv, Instr.mapEntry, run_underlying hu, run_getMap hobj, hc, f1, hget, run_stays ag l hll, run_setMap _ hobj, goInt, hmod]
    · refine .tup _ _ rfl fun i hi => ?_
      match i, hi with
      | 0, _ => exact q2.rel (hrel _ c1).1
      | 1, _ => exact .frz (.int _ _)

theorem ent_strong {op : Op} (he : entB op = true) {T : TEnv} {H : Heap} (h : (vStep P φ op T [] H).s) {B : Nat} {σ : List (Nat × Nat)} {F : Fr} {w : World} {a : Act} {o : Oper} (ho : o.op = op) (hI : Ow B σ F w H)
    (hT : ∀ t, Operand.tmp t ∈ op.operands.toList → RelAt σ F w a.tmps T t) :
    ∃ h0 x0 ag es es', H[h0]? = some (.map ag es) ∧ σ[h0]? = some x0 ∧ (vStep P φ op T [] H).H = H.set h0 (.map ag es') ∧
      StepOk P o a w fun v w' => (∃ obj, w' = { w with heap := w.heap.setIfInBounds x0.1 obj }) ∧ Ow B σ F w' (vStep P φ op T [] H).H ∧ Step B σ F w σ F w' ∧ RelV σ F w' v (vStep P φ op T [] H).p := by
  cases op <;> simp only [entB, Bool.false_eq_true] at he
  rename_i t x y
  have e0 : (Op.mapEntry t x y).operands.toList = [x, y] := rfl
  rw [e0] at hT
  have hv : vStep P φ (.mapEntry t x y) T [] H = withOk (argsOk T [] [x, y]) (rMapEntry P t (holds T []) (opv T x).p (opv T y).p H) := rfl
  rw [hv] at h ⊢
  simp only [withOk] at h ⊢
  obtain ⟨h1, h2⟩ := h
  obtain ⟨a1, a2⟩ := args_rel (σ := σ) (F := F) (w := w) (a := a) (T := T) (c := []) rfl hT h1
  have rx : RelV σ F w (a.eval x) (opv T x).p := by simpa [argsP] using a2 0 (by simp)
  have ry : RelV σ F w (a.eval y) (opv T y).p := by simpa [argsP] using a2 1 (by simp)
  generalize (opv T x).p = px at h2 rx ⊢
  generalize (opv T y).p = py at h2 ry ⊢
  unfold rMapEntry at h2 ⊢
  split at h2
  · rename_i h0 r hr
    split at h2
    · rename_i kt et ag es hk hH
      split at h2
      · rename_i l q hl hq
        obtain ⟨_, k1, k2⟩ := h2
        obtain ⟨x0, s1, s2⟩ := mapEntry_strong hr hk k1 x y h0 _ _ l es H hH hl k2 ho hI rx ry
        exact ⟨h0, x0, ag, es, _, hH, s1, rfl, s2⟩
      · exact h2.elim
    · exact h2.elim
  · exact h2.elim

/-- A slice's first cells lead to no handles. -/
def hfC : List PV → Bool
  | [] => true
  | p :: r => hfL (cellsP p) && hfC r
def hfB (T : TEnv) : Op → Bool
  | .buildSlice _ _ parts => hfC (argsP T (parts.toList.map (·.2)))
  | _ => true
theorem hfL_all : ∀ cs : List PV, hfL cs = cs.all hf
  | [] => rfl
  | p :: r => by simp [hfL, hfL_all r]
theorem hfC_all : ∀ ps : List PV, hfC ps = ps.all fun p => (cellsP p).all hf
  | [] => rfl
  | p :: r => by simp [hfC, hfL_all, hfC_all r]
def eVal (P : Program) (φ : FuncId → List PV → PV) (H : Heap) (pm : PV) (s : HS) (op : Op) : PV :=
  if entB op = true then pm else if nwB op = true then ren (H.length + s.X.length) (vStep P φ op s.T [] H).p else (vStep P φ op s.T [] H).p
def eNew (P : Program) (φ : FuncId → List PV → PV) (H : Heap) (s : HS) (op : Op) : List Blk := if nwB op = true then (vStep P φ op s.T [] H).H.drop H.length else []
def eNext (P : Program) (φ : FuncId → List PV → PV) (H : Heap) (pm : PV) (s : HS) (d : Option Tmp) (op : Op) : HS := ⟨putT s.T d [] (eVal P φ H pm s op), s.X ++ eNew P φ H s op⟩
def eCond (P : Program) (φ : FuncId → List PV → PV) (H H' : Heap) (pm : PV) (s : HS) (op : Op) : Prop :=
  if entB op = true then (vStep P φ op s.T [] H).s ∧ (vStep P φ op s.T [] H).p = pm ∧ (vStep P φ op s.T [] H).H = H'
  else if nwB op = true then (vStep P φ op s.T [] H).s ∧ (vStep P φ op s.T [] H').s ∧ hfB s.T op = true ∧
    ren (H.length + s.X.length) (vStep P φ op s.T [] H').p = ren (H.length + s.X.length) (vStep P φ op s.T [] H).p ∧ (vStep P φ op s.T [] H').H.drop H'.length = (vStep P φ op s.T [] H).H.drop H.length
  else (vStep P φ op s.T [] H).s ∧ (vStep P φ op s.T [] H').s ∧ (vStep P φ op s.T [] H').p = (vStep P φ op s.T [] H).p
def vcE (P : Program) (φ : FuncId → List PV → PV) (H H' : Heap) (pm : PV) (K : TEnv → Heap → Prop) : List POp → HS → Prop
  | [], s => K (endT s.T) (H' ++ s.X)
  | (d, o, g) :: rest, s => if hdE o = true then eCond P φ H H' pm s o ∧ vcE P φ H H' pm K rest (eNext P φ H pm s d o) else vcOps P φ ((d, o, g) :: rest) s.T (H' ++ s.X) K
def entR (P : Program) (φ : FuncId → List PV → PV) (H : Heap) : List POp → HS → Res
  | [], _ => noRes H
  | (d, o, _) :: rest, s => if entB o = true then vStep P φ o s.T [] H else entR P φ H rest (eNext P φ H .undef s d o)
def vcEnt (P : Program) (φ : FuncId → List PV → PV) (l : List POp) (T : TEnv) (H : Heap) (K : TEnv → Heap → Prop) : Prop :=
  vcE P φ H (entR P φ H l ⟨T, []⟩).H (entR P φ H l ⟨T, []⟩).p K l ⟨T, []⟩

theorem nwB_res {op : Op} {T : TEnv} {H : Heap} (hq : nwB op = true) (hh : hfB T op = true) (h : (vStep P φ op T [] H).s) : NewRes H (vStep P φ op T [] H).p (vStep P φ op T [] H).H := by
  cases hn : newB op with
  | true => exact vStep_new hn h
  | false =>
    obtain ⟨t, len, parts, rfl⟩ : ∃ t len parts, op = .buildSlice t len parts := by
      cases op <;> simp [nwB, newB] at hq hn
      exact ⟨_, _, _, rfl⟩
    have hv : vStep P φ (.buildSlice t len parts) T [] H = withOk (argsOk T [] (Op.buildSlice t len parts).operands.toList) (rBuildSlice P t len (parts.toList.map (·.1)) (holds T []) (argsP T (Op.buildSlice t len parts).operands.toList) H) := rfl
    rw [hv] at h ⊢
    simp only [withOk] at h ⊢
    have hh : ((argsP T (Op.buildSlice t len parts).operands.toList).all fun p => (cellsP p).all hf) = true := by
      rw [← hfC_all]
      simpa [hfB, Op.operands] using hh
    generalize argsP T (Op.buildSlice t len parts).operands.toList = ps at h hh ⊢
    obtain ⟨_, h⟩ := h
    unfold rBuildSlice at h ⊢
    split at h
    · rename_i r hr
      split at h
      · rename_i e hk
        split at h
        · rename_i q hqq
          refine .mk _ _ _ _ (.inr ⟨_, _, _, rfl⟩) fun i j => ?_
          by_cases hi : i < ps.length
          · have e1 : (ps.map cellsP).getD i [] = cellsP ps[i] := by simp [List.getD, hi]
            rw [e1]
            have := List.all_eq_true.1 hh ps[i] (List.getElem_mem hi)
            by_cases hj : j < (cellsP ps[i]).length
            · have e2 : (cellsP ps[i]).getD j .undef = (cellsP ps[i])[j] := by simp [List.getD, hj]
              rw [e2]; exact List.all_eq_true.1 this _ (List.getElem_mem hj)
            · have e2 : (cellsP ps[i]).getD j .undef = .undef := by simp [List.getD, hj]
              rw [e2]; rfl
          · have e1 : (ps.map cellsP).getD i [] = [] := by simp [List.getD, hi]
            rw [e1]; simp [List.getD, hf]
        · exact h.elim
      · exact h.elim
    · exact h.elim

def fS (P : Program) (φ : FuncId → List PV → PV) (H : Heap) (pm : PV) (l : List POp) (T0 : TEnv) (k : Nat) : HS := (l.take k).foldl (fun s o => eNext P φ H pm s o.1 o.2.1) ⟨T0, []⟩

theorem vcE_facts {H H' : Heap} {pm : PV} {K : TEnv → Heap → Prop} : ∀ (l : List POp) (s : HS), vcE P φ H H' pm K l s →
    ∀ h, h = (l.takeWhile fun o => hdE o.2.1).length → (∀ (k : Nat) (o : POp), k < h → l[k]? = some o → hdE o.2.1 = true ∧ eCond P φ H H' pm ((l.take k).foldl (fun s o => eNext P φ H pm s o.1 o.2.1) s) o.2.1) ∧
      vcOps P φ (l.drop h) ((l.take h).foldl (fun s o => eNext P φ H pm s o.1 o.2.1) s).T (H' ++ ((l.take h).foldl (fun s o => eNext P φ H pm s o.1 o.2.1) s).X) K
  | [], s, hv, h, hh => by
    subst hh
    exact ⟨fun k o hk => by simp at hk, hv⟩
  | (d, o, g) :: rest, s, hv, h, hh => by
    simp only [vcE] at hv
    cases hb : hdE o with
    | false =>
      simp only [hb, Bool.false_eq_true, if_false] at hv
      simp only [List.takeWhile, hb, List.length_nil] at hh
      subst hh
      exact ⟨fun k o hk => by omega, hv⟩
    | true =>
      simp only [hb, if_true] at hv
      simp only [List.takeWhile, hb, List.length_cons] at hh
      subst hh
      obtain ⟨h1, h2⟩ := vcE_facts rest _ hv.2 _ rfl
      refine ⟨fun k o' hk ho => ?_, h2⟩
      cases k with
      | zero =>
        simp only [List.getElem?_cons_zero, Option.some.injEq] at ho
        subst ho
        exact ⟨hb, hv.1⟩
      | succ k => exact h1 k o' (by omega) (by simpa using ho)
end

def ordZ (ops : Array Oper) : List (Oper × Nat) := (ops.toList.zipIdx.filter fun x => hdE x.1.op) ++ ops.toList.zipIdx.filter fun x => !hdE x.1.op
def opsE (ops : Array Oper) : Array Oper := ((ordZ ops).map (·.1)).toArray
/-- How many operations are of the head. -/
def nHd (ops : Array Oper) : Nat := (ops.toList.zipIdx.filter fun x => hdE x.1.op).length
def okEntB (b : Bool) (n : Nat) (ops : Array Oper) : Bool :=
  okOps n (opsE ops) && ((ordZ ops).all fun x => x.1.guard.isNone) && decide ((ordZ ops).map (·.2)).Nodup && ((List.range ops.size).all fun i => ((ordZ ops).map (·.2)).contains i) &&
  ((List.range ops.size).all fun i => match ops[i]? with
    | some o => o.after.all fun e => !Region.binds .any e || decide (e.on < i)
    | none => true) &&
  ((List.range (ordZ ops).length).all fun i => match (ordZ ops)[i]? with
    | some x => if hdE x.1.op then (List.range (ordZ ops).length).all fun j => match (ordZ ops)[j]? with
        | some y => match y.1.dst with
          | some d => !hdE y.1.op || !(x.1.looksAt ops).contains d || (!nwB y.1.op && (if j < i then edgeB x.1 y.2 else (decide (i < j) && edgeB y.1 x.2)))
          | none => true
        | none => true
      else (List.range i).all fun j => (b && i == nHd ops && j + 1 == nHd ops) || match (ordZ ops)[j]? with
        | some y => reachB ops y.2 ops.size x.2
        | none => true
    | none => true) &&
  ((ordZ ops).any fun x => entB x.1.op) &&
  ((List.range (ordZ ops).length).all fun i => (List.range (ordZ ops).length).all fun j => match (ordZ ops)[i]?, (ordZ ops)[j]? with
    | some x, some y => !entB x.1.op || !entB y.1.op || i == j
    | _, _ => true)
def okEnt (n : Nat) (ops : Array Oper) : Bool := okEntB false n ops
def swp (h i : Nat) : Nat := if i + 1 = h then h else if i = h then h - 1 else i
/-- The last of the head stands in the text right behind the first of the tail. -/
def okTwo (n : Nat) (ops : Array Oper) : Bool :=
  okOps n ops && decide (0 < nHd ops) && decide ((ordZ ops).length = ops.size) && decide (nHd ops < ops.size) &&
  ((List.range (ordZ ops).length).all fun i => match (ordZ ops)[i]? with
    | some x => x.2 == swp (nHd ops) i
    | none => true) &&
  (match (ordZ ops)[nHd ops - 1]? with
    | some x => !entB x.1.op
    | none => false)
def okEnt2 (n : Nat) (ops : Array Oper) : Bool := okEntB true n ops && okTwo n ops

section head
variable {P : Program} {φ : FuncId → List PV → PV} {os : Array Oper} {H H' : Heap} {pm : PV} {T0 : TEnv} {n : Nat}

abbrev SA (P : Program) (φ : FuncId → List PV → PV) (os : Array Oper) (H : Heap) (pm : PV) (T0 : TEnv) (k : Nat) : HS := ((prep os).take k).foldl (fun s o => eNext P φ H pm s o.1 o.2.1) ⟨T0, []⟩
theorem SA_succ {k : Nat} {o : Oper} (ho : os[k]? = some o) : SA P φ os H pm T0 (k + 1) = eNext P φ H pm (SA P φ os H pm T0 k) o.dst o.op := by
  have : (prep os)[k]? = some (prepO os o) := by simp [prep, ho]
  simp only [SA]
  rw [List.take_add_one, this]
  simp [prepO]
theorem tgS_old (t : Nat) : ∀ (k : Nat), k ≤ os.size → (∀ (j : Nat) (o : Oper), j < k → os[j]? = some o → o.dst ≠ some t) → tg (SA P φ os H pm T0 k).T t = tg T0 t
  | 0, _, _ => rfl
  | k + 1, hk, h => by
    have ho : os[k]? = some os[k] := by simp [show k < os.size by omega]
    rw [SA_succ ho]
    have ih := tgS_old t k (by omega) fun j o hj => h j o (by omega)
    simp only [eNext]
    cases hd : os[k].dst with
    | none => exact ih
    | some d =>
      simp only [putT, tg]
      have : d ≠ t := fun e => h k os[k] (by omega) ho (by rw [hd, e])
      rw [if_neg this]; exact ih
theorem tgS_new (hok : okOps n os = true) {j : Nat} {o : Oper} (ho : os[j]? = some o) {t : Nat} (hd : o.dst = some t) : ∀ (k : Nat), k ≤ os.size → j < k →
    tg (SA P φ os H pm T0 k).T t = ⟨true, [], eVal P φ H pm (SA P φ os H pm T0 j) o.op⟩
  | 0, _, h => by omega
  | k + 1, hk, h => by
    have hok' : os[k]? = some os[k] := by simp [show k < os.size by omega]
    rw [SA_succ hok']
    by_cases hjk : j = k
    · subst hjk
      rw [ho] at hok'
      simp only [Option.some.injEq] at hok'
      rw [← hok']
      simp only [eNext]
      rw [hd]
      simp [putT, tg]
    · have ih := tgS_new hok ho hd k (by omega) (by omega)
      simp only [eNext]
      cases hd' : os[k].dst with
      | none => exact ih
      | some d =>
        simp only [putT, tg]
        have : d ≠ t := fun e => ((ops_at hok hok').2 d hd').2 j o (by omega) ho (by rw [hd, e])
        rw [if_neg this]; exact ih
theorem SA_c (h0 : ∀ t, (tg T0 t).c = []) : ∀ (k : Nat), k ≤ os.size → ∀ t, (tg (SA P φ os H pm T0 k).T t).c = []
  | 0, _, t => h0 t
  | k + 1, hk, t => by
    have ho : os[k]? = some os[k] := by simp [show k < os.size by omega]
    have ih := SA_c h0 k (by omega) t
    rw [SA_succ ho]
    simp only [eNext]
    cases hd : os[k].dst with
    | none => exact ih
    | some d =>
      simp only [putT, tg]
      split
      · rfl
      · exact ih

/-- What is told of a block that an operation of the head has made. -/
def NewY (B : Nat) (σ : List (Nat × Nat)) (F : Fr) (w : World) (tmps : Array Value) (H : Heap) (Y : List Blk) (p : PV) (d : Option Tmp) (x : Nat × Nat) : Prop :=
  ∃ blk, Y = [blk] ∧ (∀ τ, BlkOk τ F w x blk) ∧ B ≤ x.1 ∧ x.1 < w.heap.size ∧ (∀ (h : Nat) (y : Nat × Nat) (b : Blk), σ[h]? = some y → H[h]? = some b → b ≠ .dead → y.1 ≠ x.1) ∧
    ∀ t, d = some t → ∀ (τ : List (Nat × Nat)) (m : Nat), τ[m]? = some x → RelV τ F w (tmps.getD t Go.undef) (ren m p)
theorem NewY.calm {B : Nat} {σ : List (Nat × Nat)} {F F' : Fr} {w w' : World} {tmps tmps' : Array Value} {H : Heap} {Y : List Blk} {p : PV} {d : Option Tmp} {x : Nat × Nat} (h : NewY B σ F w tmps H Y p d x) (c : Cm F w F' w') (ho : ∀ b, F true b → b < w.heap.size)
    (he : ∀ t, d = some t → tmps'.getD t Go.undef = tmps.getD t Go.undef) : NewY B σ F' w' tmps' H Y p d x := by
  obtain ⟨blk, h1, h2, h3, h4, h5, h6⟩ := h
  refine ⟨blk, h1, fun τ => c.blk ho h4 (h2 τ), h3, Nat.lt_of_lt_of_le h4 c.below.size, h5, fun t ht τ m hm => ?_⟩
  rw [he t ht]
  exact c.rel ho (h6 t ht τ m hm)

structure HE (P : Program) (φ : FuncId → List PV → PV) (os : Array Oper) (H : Heap) (pm : PV) (T0 : TEnv) (n : Nat) (Hc : Heap) (h B base : Nat) (σ0 : List (Nat × Nat)) (F0 : Fr) (w0 : World)
    (L : Nat → Bool) (a : Act) (w : World) (σ : List (Nat × Nat)) (F : Fr) (xs : Nat → Nat × Nat) : Prop where
  size : a.tmps.size = n
  defers : a.defers = []
  ow : Ow B σ F w Hc
  ext : Ext B base σ0 F0 w0 σ F w
  old : ∀ t, (∀ (k : Nat) (o : Oper), k < h → os[k]? = some o → o.dst = some t → L k = false) → RelAt σ F w a.tmps T0 t
  quiet : ∀ (k : Nat) (o : Oper), k < h → os[k]? = some o → L k = true → nwB o.op = false → ∀ t, o.dst = some t → RelV σ F w (a.tmps.getD t Go.undef) (eVal P φ H pm (SA P φ os H pm T0 k) o.op)
  new : ∀ (k : Nat) (o : Oper), k < h → os[k]? = some o → L k = true → nwB o.op = true → NewY B σ F w a.tmps Hc (eNew P φ H (SA P φ os H pm T0 k) o.op) (eVal P φ H pm (SA P φ os H pm T0 k) o.op) o.dst (xs k)
  apart : ∀ (k k' : Nat) (o o' : Oper), k < h → k' < h → os[k]? = some o → os[k']? = some o' → L k = true → L k' = true → nwB o.op = true → nwB o'.op = true → k ≠ k' → (xs k).1 ≠ (xs k').1

theorem ren_ren (m k : Nat) (p : PV) : ren m (ren k p) = ren m p := by cases p <;> rfl

section step
variable {Hc : Heap} {h B base : Nat} {σ0 : List (Nat × Nat)} {F0 : Fr} {w0 : World} {L : Nat → Bool} {a : Act} {w : World} {σ : List (Nat × Nat)} {F : Fr} {xs : Nat → Nat × Nat}

theorem HE.look (h0 : ∀ t, (tg T0 t).c = []) (hok : okOps n os = true) (hle : h ≤ os.size) (I : HE P φ os H pm T0 n Hc h B base σ0 F0 w0 L a w σ F xs) {i : Nat} {o : Oper} (hi : i < h)
    (hlk : ∀ (k : Nat) (ok : Oper), k < h → os[k]? = some ok → ∀ d, ok.dst = some d → Operand.tmp d ∈ o.op.operands.toList → nwB ok.op = false ∧ (k < i ∧ L k = true ∨ i < k ∧ L k = false)) :
    ∀ t, Operand.tmp t ∈ o.op.operands.toList → RelAt σ F w a.tmps (SA P φ os H pm T0 i).T t := by
  intro t ht
  by_cases hw : ∃ (k : Nat) (ok : Oper), k < h ∧ os[k]? = some ok ∧ ok.dst = some t
  · obtain ⟨k, ok, hk, hok', hdk⟩ := hw
    obtain ⟨e1, ⟨hki, hLk⟩ | ⟨hik, hLk⟩⟩ := hlk k ok hk hok' t hdk ht
    · have hr := I.quiet k ok hk hok' hLk e1 t hdk
      intro hx
      rw [tgS_new hok hok' hdk i (by omega) hki] at hx ⊢
      exact ⟨fun _ => hr, fun e => by simp [holds] at e⟩
    · have hr := I.old t fun j oj hj hoj hdj => by
        rcases Nat.lt_trichotomy j k with hjk | rfl | hkj
        · exact absurd hdj (((ops_at hok hok').2 t hdk).2 j oj hjk hoj)
        · exact hLk
        · exact absurd hdk (((ops_at hok hoj).2 t hdj).2 k ok hkj hok')
      intro hx
      rw [tgS_old t i (by omega) fun j oj hj hoj => ((ops_at hok hok').2 t hdk).2 j oj (by omega) hoj] at hx ⊢
      have hr := hr hx
      refine ⟨fun _ => hr.1 (by rw [h0]; rfl), fun e => by rw [h0] at e; simp [holds] at e⟩
  · have hnone : ∀ (j : Nat) (oj : Oper), j < h → os[j]? = some oj → oj.dst ≠ some t := fun j oj hj hoj e => hw ⟨j, oj, hj, hoj, e⟩
    have hr := I.old t fun j oj hj hoj hdj => absurd hdj (hnone j oj hj hoj)
    intro hx
    rw [tgS_old t i (by omega) fun j oj hj => hnone j oj (by omega)] at hx ⊢
    have hr := hr hx
    refine ⟨fun _ => hr.1 (by rw [h0]; rfl), fun e => by rw [h0] at e; simp [holds] at e⟩

/-- One operation of the head that writes nothing, or makes a block. -/
theorem HE.step (h0 : ∀ t, (tg T0 t).c = []) (hok : okOps n os = true) (hle : h ≤ os.size) (I : HE P φ os H pm T0 n Hc h B base σ0 F0 w0 L a w σ F xs) {i : Nat} {o : Oper} (hi : i < h) (ho : os[i]? = some o) (hg : o.guard = none)
    (hlk : ∀ (k : Nat) (ok : Oper), k < h → os[k]? = some ok → ∀ d, ok.dst = some d → Operand.tmp d ∈ o.op.operands.toList → nwB ok.op = false ∧ (k < i ∧ L k = true ∨ i < k ∧ L k = false))
    (hq : nwB o.op = false → quietB o.op = true) (hs : (vStep P φ o.op (SA P φ os H pm T0 i).T [] Hc).s)
    (hv1 : nwB o.op = false → eVal P φ H pm (SA P φ os H pm T0 i) o.op = (vStep P φ o.op (SA P φ os H pm T0 i).T [] Hc).p)
    (hv2 : nwB o.op = true → hfB (SA P φ os H pm T0 i).T o.op = true ∧ (∃ c, eVal P φ H pm (SA P φ os H pm T0 i) o.op = ren c (vStep P φ o.op (SA P φ os H pm T0 i).T [] Hc).p) ∧
      eNew P φ H (SA P φ os H pm T0 i) o.op = (vStep P φ o.op (SA P φ os H pm T0 i).T [] Hc).H.drop Hc.length) {Q : Exit → Act → World → Prop} :
    wpOp P os Q i (fun a' w' => ∃ σ' F' xs', HE P φ os H pm T0 n Hc h B base σ0 F0 w0 (fun j => if j = i then true else L j) a' w' σ' F' xs') a w := by
  have hargs := I.look h0 hok hle hi hlk
  have hdst : ∀ x, o.dst = some x → x < a.tmps.size := fun x hx => by rw [I.size]; exact ((ops_at hok ho).2 x hx).1
  have hsz : ∀ v, (a.put o.dst v).tmps.size = n := by intro v; cases o.dst <;> simp [Act.put, I.size]
  have hdf : ∀ v, (a.put o.dst v).defers = [] := by intro v; cases o.dst <;> simp [Act.put, I.defers]
  have huniq : ∀ (k : Nat) (ok : Oper), k ≠ i → os[k]? = some ok → ∀ t, ok.dst = some t → o.dst ≠ some t := by
    intro k ok hk hok' t ht e
    rcases Nat.lt_or_gt_of_ne hk with hk | hk
    · exact ((ops_at hok ho).2 t e).2 k ok hk hok' ht
    · exact ((ops_at hok hok').2 t ht).2 i o hk ho e
  have rest : ∀ (v : Value) (w' : World) (F' : Fr), Cm F w F' w' →
      (∀ t, (∀ (k : Nat) (ok : Oper), k < h → os[k]? = some ok → ok.dst = some t → (if k = i then true else L k) = false) → RelAt σ F' w' (a.put o.dst v).tmps T0 t) := by
    intro v w' F' c t ht
    refine (I.old t fun k ok hk hok' hdk => ?_).calm c I.ow.old (getD_put_ne fun e => ?_)
    · have := ht k ok hk hok' hdk
      split at this
      · cases this
      · exact this
    · have := ht i o hi ho e
      simp at this
  have restq : ∀ (v : Value) (w' : World) (F' : Fr), Cm F w F' w' → ∀ (k : Nat) (ok : Oper), k < h → k ≠ i → os[k]? = some ok → L k = true → nwB ok.op = false → ∀ t, ok.dst = some t → RelV σ F' w' ((a.put o.dst v).tmps.getD t Go.undef) (eVal P φ H pm (SA P φ os H pm T0 k) ok.op) :=
    fun v w' F' c k ok hk hki hok' hLk hn t ht => by
      rw [getD_put_ne (huniq k ok hki hok' t ht)]
      exact c.rel I.ow.old (I.quiet k ok hk hok' hLk hn t ht)
  have restn : ∀ (v : Value) (w' : World) (F' : Fr), Cm F w F' w' → ∀ (k : Nat) (ok : Oper), k < h → k ≠ i → os[k]? = some ok → L k = true → nwB ok.op = true →
      NewY B σ F' w' (a.put o.dst v).tmps Hc (eNew P φ H (SA P φ os H pm T0 k) ok.op) (eVal P φ H pm (SA P φ os H pm T0 k) ok.op) ok.dst (xs k) :=
    fun v w' F' c k ok hk hki hok' hLk hn => (I.new k ok hk hok' hLk hn).calm c I.ow.old fun t ht => getD_put_ne (huniq k ok hki hok' t ht)
  unfold wpOp
  simp only [ho, Region.wanted, hg, if_true]
  obtain ⟨_, hstep⟩ := vStep_sound hs
  refine .inl (hstep rfl B σ F w a o rfl I.ow hargs _ _ ?_)
  rintro v w' ⟨σ', F', g1, g2, g3, g4⟩
  cases hnb : nwB o.op with
  | false =>
    obtain ⟨rfl, c⟩ := (g4.1 (hq hnb)).calm I.ow
    refine ⟨σ', F', xs, ⟨hsz _, hdf _, (I.ow.calm c).1, I.ext.trans ((I.ow.calm c).2 base), rest _ w' F' c, fun k ok hk hok' hLk hn t ht => ?_, fun k ok hk hok' hLk hn => ?_, fun k k' ok ok' hk hk' h1 h2 h3 h4 h5 h6 h7 => ?_⟩⟩
    · by_cases hki : k = i
      · subst hki
        rw [ho] at hok'; cases hok'
        rw [ht, getD_put_eq (hdst t ht), hv1 hnb]
        exact g3
      · rw [if_neg hki] at hLk
        exact restq _ w' F' c k ok hk hki hok' hLk hn t ht
    · by_cases hki : k = i
      · subst hki
        rw [ho] at hok'; cases hok'
        rw [hnb] at hn; cases hn
      · rw [if_neg hki] at hLk
        exact restn _ w' F' c k ok hk hki hok' hLk hn
    · have : k ≠ i := fun e => by subst e; rw [ho] at h1; cases h1; rw [hnb] at h5; cases h5
      have : k' ≠ i := fun e => by subst e; rw [ho] at h2; cases h2; rw [hnb] at h6; cases h6
      simp_all
      exact I.apart k k' ok ok' hk hk' h1 h2 h3 h4 h5 h6 h7
  | true =>
    obtain ⟨v1, ⟨cc, v2⟩, v3⟩ := hv2 hnb
    obtain ⟨x, rfl, hx, rfl, c⟩ := (g4.2 hnb).calm I.ow
    have hnr := nwB_res hnb v1 hs
    generalize hrr : vStep P φ o.op (SA P φ os H pm T0 i).T [] Hc = rr at g1 g3 hnr v2 v3
    obtain ⟨rs, rp, rH⟩ := rr
    simp only at g1 g3 hnr v2 v3
    cases hnr with
    | mk T sz es hp hz =>
      have hxs : (σ ++ [x])[Hc.length]? = some x := by rw [← I.ow.len]; simp
      have hbk : BlkOk (σ ++ [x]) F' w' x (.rows T sz es) := g1.ok Hc.length x _ hxs (by simp)
      have hbig := g1.big Hc.length x (.rows T sz es) hxs (by simp) (by simp)
      refine ⟨σ, F', fun k => if k = i then x else xs k, ⟨hsz _, hdf _, (I.ow.calm c).1, I.ext.trans ((I.ow.calm c).2 base), rest _ w' F' c, fun k ok hk hok' hLk hn t ht => ?_, fun k ok hk hok' hLk hn => ?_, fun k k' ok ok' hk hk' h1 h2 h3 h4 h5 h6 h7 => ?_⟩⟩
      · by_cases hki : k = i
        · subst hki
          rw [ho] at hok'; cases hok'
          rw [hnb] at hn; cases hn
        · rw [if_neg hki] at hLk
          exact restq _ w' F' c k ok hk hki hok' hLk hn t ht
      · by_cases hki : k = i
        · subst hki
          rw [ho] at hok'; cases hok'
          rw [if_pos rfl, v3, v2]
          refine ⟨.rows T sz es, by simp, fun τ => hbk.free hz τ, by have := I.ow.base; omega, hbig.2, fun hh y b hy hb' hd' => ?_, fun t ht τ m hm => ?_⟩
          · have := (I.ow.big hh y b hy hb' hd').2
            omega
          · rw [ht, getD_put_eq (hdst t ht), ren_ren]
            have h9 : RelV τ F' w' v (ren m rp) := g3.renew hxs hp hm
            exact h9
        · rw [if_neg hki] at hLk ⊢
          exact restn _ w' F' c k ok hk hki hok' hLk hn
      · by_cases hki : k = i
        · have hk'i : k' ≠ i := fun e => h7 (by rw [hki, e])
          rw [if_neg hk'i] at h4
          simp only [hki, if_true, if_neg hk'i]
          obtain ⟨_, _, _, _, hl, _⟩ := I.new k' ok' hk' h2 h4 h6
          omega
        · rw [if_neg hki] at h3
          by_cases hk'i : k' = i
          · simp only [hk'i, if_true, if_neg hki]
            obtain ⟨_, _, _, _, hl, _⟩ := I.new k ok hk h1 h3 h5
            omega
          · rw [if_neg hk'i] at h4
            simp only [if_neg hki, if_neg hk'i]
            exact I.apart k k' ok ok' hk hk' h1 h2 h3 h4 h5 h6 h7

/-- The entry is made ready. -/
theorem HE.ent (h0 : ∀ t, (tg T0 t).c = []) (hok : okOps n os = true) (hle : h ≤ os.size) (I : HE P φ os H pm T0 n H h B base σ0 F0 w0 L a w σ F xs) {i : Nat} {o : Oper} (hi : i < h) (ho : os[i]? = some o) (hg : o.guard = none)
    (hlk : ∀ (k : Nat) (ok : Oper), k < h → os[k]? = some ok → ∀ d, ok.dst = some d → Operand.tmp d ∈ o.op.operands.toList → nwB ok.op = false ∧ (k < i ∧ L k = true ∨ i < k ∧ L k = false))
    (he : entB o.op = true) (hs : (vStep P φ o.op (SA P φ os H pm T0 i).T [] H).s) (hp : (vStep P φ o.op (SA P φ os H pm T0 i).T [] H).p = pm) (hH : (vStep P φ o.op (SA P φ os H pm T0 i).T [] H).H = H') {Q : Exit → Act → World → Prop} :
    wpOp P os Q i (fun a' w' => ∃ σ' F' xs', HE P φ os H pm T0 n H' h B base σ0 F0 w0 (fun j => if j = i then true else L j) a' w' σ' F' xs') a w := by
  have hargs := I.look h0 hok hle hi hlk
  have hdst : ∀ x, o.dst = some x → x < a.tmps.size := fun x hx => by rw [I.size]; exact ((ops_at hok ho).2 x hx).1
  have hsz : ∀ v, (a.put o.dst v).tmps.size = n := by intro v; cases o.dst <;> simp [Act.put, I.size]
  have hdf : ∀ v, (a.put o.dst v).defers = [] := by intro v; cases o.dst <;> simp [Act.put, I.defers]
  have huniq : ∀ (k : Nat) (ok : Oper), k ≠ i → os[k]? = some ok → ∀ t, ok.dst = some t → o.dst ≠ some t := by
    intro k ok hk hok' t ht e
    rcases Nat.lt_or_gt_of_ne hk with hk | hk
    · exact ((ops_at hok ho).2 t e).2 k ok hk hok' ht
    · exact ((ops_at hok hok').2 t ht).2 i o hk ho e
  have hnw : nwB o.op = false := by
    cases hop : o.op <;> simp [hop, entB] at he <;> rfl
  unfold wpOp
  simp only [ho, Region.wanted, hg, if_true]
  obtain ⟨hn0, x0, ag, es, es', q1, q2, q3, q4⟩ := ent_strong he hs rfl I.ow hargs
  rw [hH] at q3
  subst hH
  refine .inl (q4 _ _ ?_)
  rintro v w' ⟨⟨obj, hw'⟩, g1, g2, g3⟩
  rw [hp] at g3
  have hsame : ∀ b, b ≠ x0.1 → w'.heap[b]? = w.heap[b]? := fun b hb => by rw [hw']; simp [Ne.symm hb]
  have hhs : w'.heap.size = w.heap.size := by rw [hw']; simp
  have hx0 := I.ow.ok hn0 x0 _ q2 q1
  have hF0 : ¬ F true x0.1 := hx0.2
  have hsF : ∀ b, F true b → w'.heap[b]? = w.heap[b]? := fun b hb => hsame b fun e => hF0 (e ▸ hb)
  refine ⟨σ, F, xs, ⟨hsz _, hdf _, g1, I.ext.trans (g2 base), fun t ht => ?_, fun k ok hk hok' hLk hn t ht => ?_, fun k ok hk hok' hLk hn => ?_, fun k k' ok ok' hk hk' h1 h2 h3 h4 h5 h6 h7 => ?_⟩⟩
  · have hr := I.old t fun k ok hk hok' hdk => by
      have := ht k ok hk hok' hdk
      split at this
      · cases this
      · exact this
    intro hx
    rw [getD_put_ne fun e => by have := ht i o hi ho e; simp at this]
    exact ⟨fun hc => g2.rel ((hr hx).1 hc), (hr hx).2⟩
  · by_cases hki : k = i
    · subst hki
      rw [ho] at hok'; cases hok'
      rw [ht, getD_put_eq (hdst t ht)]
      have : eVal P φ H pm (SA P φ os H pm T0 k) o.op = pm := by unfold eVal; rw [if_pos he]
      rw [this]; exact g3
    · rw [if_neg hki] at hLk
      rw [getD_put_ne (huniq k ok hki hok' t ht)]
      exact g2.rel (I.quiet k ok hk hok' hLk hn t ht)
  · by_cases hki : k = i
    · subst hki
      rw [ho] at hok'; cases hok'
      rw [hnw] at hn; cases hn
    · rw [if_neg hki] at hLk
      obtain ⟨blk, r1, r2, r3, r4, r5, r6⟩ := I.new k ok hk hok' hLk hn
      have hne : x0.1 ≠ (xs k).1 := r5 hn0 x0 _ q2 q1 (by simp)
      refine ⟨blk, r1, fun τ => (r2 τ).frame (fun _ _ h => h) (fun _ _ h => h) hsF (fun _ => hsame _ (Ne.symm hne)) (fun _ h => h), r3, by omega, fun hh y b hy hb hd => ?_, fun t ht τ m hm => ?_⟩
      · by_cases hhe : hh = hn0
        · subst hhe
          exact r5 hh y _ hy q1 (by simp)
        · rw [q3, List.getElem?_set_ne (Ne.symm hhe)] at hb
          exact r5 hh y b hy hb hd
      · rw [getD_put_ne (huniq k ok hki hok' t ht)]
        exact (r6 t ht τ m hm).frame (fun _ _ h => h) (fun _ _ h => h) hsF
  · have : k ≠ i := fun e => by subst e; rw [ho] at h1; cases h1; rw [hnw] at h5; cases h5
    have : k' ≠ i := fun e => by subst e; rw [ho] at h2; cases h2; rw [hnw] at h6; cases h6
    simp_all
    exact I.apart k k' ok ok' hk hk' h1 h2 h3 h4 h5 h6 h7

/-- The head is done: its new blocks become the call's own, in the text's order. -/
theorem HE.adopt (hle : h ≤ os.size) (I : HE P φ os H pm T0 n Hc h B base σ0 F0 w0 L a w σ F xs) (hL : ∀ k, k < h → L k = true) (hlen0 : Hc.length = H.length)
    (hv : ∀ (k : Nat) (o : Oper), k < h → os[k]? = some o → nwB o.op = true → ∃ p, eVal P φ H pm (SA P φ os H pm T0 k) o.op = ren (H.length + (SA P φ os H pm T0 k).X.length) p) :
    ∀ k, k ≤ h → ∃ ys : List (Nat × Nat), Ow B (σ ++ ys) F w (Hc ++ (SA P φ os H pm T0 k).X) ∧ (∀ (hh : Nat) (y : Nat × Nat) (b : Blk), (σ ++ ys)[hh]? = some y → (Hc ++ (SA P φ os H pm T0 k).X)[hh]? = some b → b ≠ .dead →
        (∃ y' b', σ[hh]? = some y' ∧ Hc[hh]? = some b' ∧ b' ≠ .dead ∧ y' = y) ∨ ∃ j o, j < k ∧ os[j]? = some o ∧ nwB o.op = true ∧ y = xs j) ∧
      ∀ (j : Nat) (o : Oper), j < k → os[j]? = some o → nwB o.op = true → ∀ t, o.dst = some t → RelV (σ ++ ys) F w (a.tmps.getD t Go.undef) (eVal P φ H pm (SA P φ os H pm T0 j) o.op)
  | 0, _ => by
    refine ⟨[], by simpa [SA] using I.ow, fun hh y b hy hb hd => .inl ⟨y, b, by simpa using hy, by simpa [SA] using hb, hd, rfl⟩, fun j o hj => by omega⟩
  | k + 1, hk => by
    obtain ⟨ys, r1, r2, r3⟩ := HE.adopt hle I hL hlen0 hv k (by omega)
    have ho : os[k]? = some os[k] := by simp [show k < os.size by omega]
    have hX : (SA P φ os H pm T0 (k + 1)).X = (SA P φ os H pm T0 k).X ++ eNew P φ H (SA P φ os H pm T0 k) os[k].op := by rw [SA_succ ho]; rfl
    cases hn : nwB os[k].op with
    | false =>
      have hY : eNew P φ H (SA P φ os H pm T0 k) os[k].op = [] := by unfold eNew; rw [hn]; rfl
      rw [hY, List.append_nil] at hX
      rw [hX]
      refine ⟨ys, r1, fun hh y b hy hb' hd => ?_, fun j o hj hoj hnj t ht => ?_⟩
      · rcases r2 hh y b hy hb' hd with h | ⟨j, o, hj, h⟩
        · exact .inl h
        · exact .inr ⟨j, o, by omega, h⟩
      · by_cases hjk : j = k
        · subst hjk; rw [ho] at hoj; cases hoj; rw [hn] at hnj; cases hnj
        · exact r3 j o (by omega) hoj hnj t ht
    | true =>
      obtain ⟨blk, e1, e2, e3, e4, e5, e6⟩ := I.new k _ (by omega) ho (hL k (by omega)) hn
      rw [e1] at hX
      rw [hX, ← List.append_assoc]
      have hnd : ∀ (hh : Nat) (y : Nat × Nat) (b : Blk), (σ ++ ys)[hh]? = some y → (Hc ++ (SA P φ os H pm T0 k).X)[hh]? = some b → b ≠ .dead → y.1 ≠ (xs k).1 := by
        intro hh y b hy hb' hd
        rcases r2 hh y b hy hb' hd with ⟨y', b', g1, g2, g3, rfl⟩ | ⟨j, o, hj, hoj, hnj, rfl⟩
        · exact e5 hh y' b' g1 g2 g3
        · exact I.apart j k o _ (by omega) (by omega) hoj ho (hL j (by omega)) (hL k (by omega)) hnj hn (by omega)
      have hA := r1.adopt e2 e3 e4 hnd
      have hlen := r1.len
      refine ⟨ys ++ [xs k], by rw [← List.append_assoc]; exact hA, fun hh y b hy hb' hd => ?_, fun j o hj hoj hnj t ht => ?_⟩
      · rw [← List.append_assoc] at hy
        by_cases hl : hh < (σ ++ ys).length
        · rw [List.getElem?_append_left hl] at hy
          rw [List.getElem?_append_left (by rw [← hlen]; exact hl)] at hb'
          rcases r2 hh y b hy hb' hd with h | ⟨j, o, hj, h⟩
          · exact .inl h
          · exact .inr ⟨j, o, by omega, h⟩
        · have : hh = (σ ++ ys).length := by
            have := (List.getElem?_eq_some_iff.1 hy).1
            rw [List.length_append] at this
            simp only [List.length_singleton] at this
            omega
          subst this
          simp only [List.getElem?_concat_length, Option.some.injEq] at hy
          exact .inr ⟨k, _, by omega, ho, hn, hy.symm⟩
      · rw [← List.append_assoc]
        by_cases hjk : j = k
        · subst hjk
          rw [ho] at hoj; cases hoj
          obtain ⟨p, hp⟩ := hv j _ (by omega) ho hn
          have := e6 t ht (σ ++ ys ++ [xs j]) (H.length + (SA P φ os H pm T0 j).X.length) (by
            have : H.length + (SA P φ os H pm T0 j).X.length = (σ ++ ys).length := by rw [hlen]; simp [hlen0]
            rw [this]
            simp only [List.getElem?_concat_length])
          rw [hp, ren_ren] at this
          rw [hp]; exact this
        · exact (r3 j o (by omega) hoj hnj t ht).frame (fun hh y hy => by rw [List.getElem?_append_left (List.getElem?_eq_some_iff.1 hy).1]; exact hy) (fun _ _ h => h) fun _ _ => rfl
end step
end head

section fin
variable {P : Program} {φ : FuncId → List PV → PV} {ops : Array Oper}

theorem hd_map : ∀ l : List (Oper × Nat), (∀ x ∈ l, x.1.guard = none) → hdL (l.map fun x => prepO ops x.1) = (l.filter fun x => hdE x.1.op).map (fun x => (x.1.dst, x.1.op, none)) ∧ tlL (l.map fun x => prepO ops x.1) = (l.filter fun x => !hdE x.1.op).map (fun x => (x.1.dst, x.1.op, none))
  | [], _ => ⟨rfl, rfl⟩
  | x :: l, h => by
    obtain ⟨h1, h2⟩ := hd_map l fun y hy => h y (by simp [hy])
    have hx := h x (by simp)
    cases hb : hdE x.1.op <;> simp [hdL, tlL, prepO, hb, hx] <;> exact ⟨by simpa [prepO] using h1, by simpa [prepO] using h2⟩
theorem ordE_prep (hg : ∀ x ∈ ops.toList.zipIdx, x.1.guard = none) : ordE (prep ops) = prep (opsE ops) := by
  have e1 : prep ops = ops.toList.zipIdx.map fun x => prepO ops x.1 := by
    have e : (ops.toList.zipIdx.map fun x => prepO ops x.1) = (ops.toList.zipIdx.map Prod.fst).map (prepO ops) := by rw [List.map_map]; rfl
    rw [e, List.zipIdx_map_fst]; rfl
  obtain ⟨h1, h2⟩ := hd_map (ops := ops) _ hg
  have e2 : prep (opsE ops) = (ordZ ops).map (fun x => (x.1.dst, x.1.op, none)) := by
    unfold prep opsE
    simp only [List.map_map]
    refine List.map_congr_left fun x hx => ?_
    have : x ∈ ops.toList.zipIdx := by
      simp only [ordZ, List.mem_append, List.mem_filter] at hx
      exact hx.elim (·.1) (·.1)
    simp [prepO, hg x this]
  rw [e2, ordE, e1, h1, h2, ← List.map_append]
  rfl
def nuE (ops : Array Oper) (k : Nat) : Nat := match (ordZ ops)[k]? with
  | some x => x.2
  | none => ops.size
theorem opsE_get (k : Nat) : (opsE ops)[k]? = ((ordZ ops)[k]?).map (·.1) := by simp [opsE]
theorem ordZ_get {k : Nat} {x : Oper × Nat} (h : (ordZ ops)[k]? = some x) : x ∈ ops.toList.zipIdx ∧ ops[x.2]? = some x.1 := by
  have hx : x ∈ ordZ ops := List.mem_of_getElem? h
  have : x ∈ ops.toList.zipIdx := by
    simp only [ordZ, List.mem_append, List.mem_filter] at hx
    exact hx.elim (·.1) (·.1)
  refine ⟨this, ?_⟩
  have := List.mem_zipIdx_iff_getElem?.1 this
  simpa using this

structure EntF (b : Bool) (n : Nat) (ops : Array Oper) : Prop where
  ok : okOps n (opsE ops) = true
  guard : ∀ x ∈ ops.toList.zipIdx, x.1.guard = none
  inj : ∀ k k', k < (ordZ ops).length → k' < (ordZ ops).length → nuE ops k = nuE ops k' → k = k'
  sur : ∀ i, i < ops.size → ∃ k, k < (ordZ ops).length ∧ nuE ops k = i
  back : ∀ (i : Nat) (o : Oper), ops[i]? = some o → ∀ e ∈ o.after, Region.binds .any e = true → e.on < i
  head : ∀ (i : Nat) (x : Oper × Nat), (ordZ ops)[i]? = some x → hdE x.1.op = true → ∀ (j : Nat) (y : Oper × Nat), (ordZ ops)[j]? = some y → hdE y.1.op = true → ∀ d, y.1.dst = some d → Operand.tmp d ∈ x.1.op.operands.toList → nwB y.1.op = false ∧ (j < i ∧ edgeB x.1 y.2 = true ∨ i < j ∧ edgeB y.1 x.2 = true)
  tail : ∀ (i : Nat) (x : Oper × Nat), (ordZ ops)[i]? = some x → hdE x.1.op = false → ∀ (j : Nat) (y : Oper × Nat), j < i → (ordZ ops)[j]? = some y → (b = true ∧ i = nHd ops ∧ j + 1 = nHd ops) ∨ reachB ops y.2 ops.size x.2 = true
  ent : ∃ (m : Nat) (x : Oper × Nat), (ordZ ops)[m]? = some x ∧ entB x.1.op = true ∧ ∀ (j : Nat) (y : Oper × Nat), (ordZ ops)[j]? = some y → entB y.1.op = true → j = m

theorem okEnt_spec {b : Bool} {n : Nat} (h : okEntB b n ops = true) : EntF b n ops := by
  unfold okEntB at h
  simp only [Bool.and_eq_true] at h
  obtain ⟨⟨⟨⟨⟨⟨⟨h1, h2⟩, h3⟩, h4⟩, h5⟩, h6⟩, h7⟩, h8⟩ := h
  have h3 := of_decide_eq_true h3
  have inj : ∀ k k', k < (ordZ ops).length → k' < (ordZ ops).length → nuE ops k = nuE ops k' → k = k' := by
    intro k k' hk hk' he
    simp only [nuE, List.getElem?_eq_getElem hk, List.getElem?_eq_getElem hk'] at he
    rw [List.nodup_iff_pairwise_ne, List.pairwise_iff_getElem] at h3
    rcases Nat.lt_trichotomy k k' with hlt | heq | hgt
    · exact absurd (by rw [List.getElem_map, List.getElem_map]; exact he) (h3 k k' (by simpa using hk) (by simpa using hk') hlt)
    · exact heq
    · exact absurd (by rw [List.getElem_map, List.getElem_map]; exact he.symm) (h3 k' k (by simpa using hk') (by simpa using hk) hgt)
  have sur : ∀ i, i < ops.size → ∃ k, k < (ordZ ops).length ∧ nuE ops k = i := by
    intro i hi
    have := List.all_eq_true.1 h4 i (List.mem_range.2 hi)
    have : i ∈ (ordZ ops).map (·.2) := by simpa using this
    obtain ⟨k, hk, e⟩ := List.getElem_of_mem this
    refine ⟨k, by simpa using hk, ?_⟩
    have hk' : k < (ordZ ops).length := by simpa using hk
    simp only [nuE, List.getElem?_eq_getElem hk']
    simpa using e
  refine ⟨h1, fun x hx => ?_, inj, sur, fun i o ho e he hb => ?_, fun i x hx hhx j y hy hhy d hd hm => ?_, fun i x hx hhx j y hj hy => ?_, ?_⟩
  · have hx' := List.mem_zipIdx_iff_getElem?.1 hx
    have hlt : x.2 < ops.size := by
      have := (List.getElem?_eq_some_iff.1 hx').1
      simpa using this
    obtain ⟨k, hk, e⟩ := sur x.2 hlt
    have hz : (ordZ ops)[k]? = some (ordZ ops)[k] := List.getElem?_eq_getElem hk
    have e' : (ordZ ops)[k].2 = x.2 := by simpa [nuE, hz] using e
    have := (ordZ_get hz).2
    rw [e'] at this
    have hx2 : ops[x.2]? = some x.1 := by simpa using hx'
    rw [hx2] at this
    have e3 : x.1 = (ordZ ops)[k].1 := by simpa using this
    have := List.all_eq_true.1 h2 _ (List.getElem_mem hk)
    rw [e3]; simpa using this
  · have hlt := (Array.getElem?_eq_some_iff.1 ho).1
    have h := List.all_eq_true.1 h5 i (List.mem_range.2 hlt)
    simp only [ho] at h
    have := Array.all_eq_true_iff_forall_mem.1 h e he
    simpa [hb] using this
  · have hlt := (List.getElem?_eq_some_iff.1 hx).1
    have h := List.all_eq_true.1 h6 i (List.mem_range.2 hlt)
    simp only [hx, hhx, if_true] at h
    have h := List.all_eq_true.1 h j (List.mem_range.2 (List.getElem?_eq_some_iff.1 hy).1)
    have hml : (x.1.looksAt ops).contains d = true := by
      simp only [List.contains_iff_mem, Oper.looksAt, List.mem_append, List.mem_filterMap]
      exact .inl ⟨.tmp d, hm, rfl⟩
    simp only [hy, hd, hhy, hml, Bool.not_true, Bool.false_or, Bool.and_eq_true, Bool.not_eq_true'] at h
    refine ⟨h.1, ?_⟩
    rcases Nat.lt_or_ge j i with hji | hji
    · rw [if_pos hji] at h; exact .inl ⟨hji, h.2⟩
    · rw [if_neg (by omega)] at h
      have h2 := h.2
      rw [Bool.and_eq_true] at h2
      exact .inr ⟨of_decide_eq_true h2.1, h2.2⟩
  · have hlt := (List.getElem?_eq_some_iff.1 hx).1
    have h := List.all_eq_true.1 h6 i (List.mem_range.2 hlt)
    simp only [hx, hhx, Bool.false_eq_true, if_false] at h
    have h := List.all_eq_true.1 h j (List.mem_range.2 hj)
    simp only [hy, Bool.or_eq_true, Bool.and_eq_true, beq_iff_eq] at h
    rcases h with ⟨⟨h1, h2⟩, h3⟩ | h
    · exact .inl ⟨h1, h2, h3⟩
    · exact .inr h
  · obtain ⟨x, hx, he⟩ := List.any_eq_true.1 h7
    obtain ⟨m, hm, rfl⟩ := List.getElem_of_mem hx
    refine ⟨m, _, List.getElem?_eq_getElem hm, he, fun j y hy hey => ?_⟩
    have hj := (List.getElem?_eq_some_iff.1 hy).1
    have h := List.all_eq_true.1 h8 j (List.mem_range.2 hj)
    have h := List.all_eq_true.1 h m (List.mem_range.2 hm)
    simp only [hy, List.getElem?_eq_getElem hm, hey, he, Bool.not_true, Bool.false_or, beq_iff_eq] at h
    exact h

theorem wpOp_conv {os : Array Oper} {Q : Exit → Act → World → Prop} {i k : Nat} {o : Oper} (ho : os[k]? = some o) (ho' : ops[i]? = some o) (hg : o.guard = none) {K : Act → World → Prop} {a : Act} {w : World} (h : wpOp P os Q k K a w) : wpOp P ops Q i K a w := by
  unfold wpOp at h ⊢
  simp only [ho, ho', Region.wanted, hg, if_true] at h ⊢
  exact h

/-- The head is done: the tail begins. -/
theorem HE.turn {os : Array Oper} {K : TEnv → Heap → Prop} {H H' : Heap} {pm : PV} {T : TEnv} {n h B base : Nat} {σ0 : List (Nat × Nat)} {F0 : Fr} {w0 w : World} {L : Nat → Bool} {a : Act} {σ : List (Nat × Nat)} {F : Fr} {xs : Nat → Nat × Nat}
    (h0 : ∀ t, (tg T t).c = []) (hok : okOps n os = true) (hle : h ≤ os.size) (I : HE P φ os H pm T n H' h B base σ0 F0 w0 L a w σ F xs) (hL : ∀ k, k < h → L k = true) (hH' : H'.length = H.length)
    (f2 : vcOps P φ ((prep os).drop h) (((prep os).take h).foldl (fun s o => eNext P φ H pm s o.1 o.2.1) ⟨T, []⟩).T (H' ++ (((prep os).take h).foldl (fun s o => eNext P φ H pm s o.1 o.2.1) ⟨T, []⟩).X) K) : TInv P φ os K n B base σ0 F0 w0 h a w := by
  obtain ⟨ys, r1, _, r3⟩ := I.adopt hle hL hH' (fun k o hk ho hn => by
    have hef : entB o.op = false := by
      cases hop : o.op <;> simp [hop, nwB] at hn <;> rfl
    exact ⟨_, by unfold eVal; rw [if_neg (by rw [hef]; simp), if_pos hn]⟩) h (Nat.le_refl _)
  have hfr : ∀ {v : Value} {p : PV}, RelV σ F w v p → RelV (σ ++ ys) F w v p := fun h => h.frame (fun hh y hy => by rw [List.getElem?_append_left (List.getElem?_eq_some_iff.1 hy).1]; exact hy) (fun _ _ h => h) fun _ _ => rfl
  refine ⟨_, _, σ ++ ys, F, f2, fun t => ?_, I.size, I.defers, fun t => ?_, r1, I.ext.below, I.ext.sub, I.ext.same, fun hh y hl hy => ?_, I.ext.sup⟩
  · have := SA_c (P := P) (φ := φ) (H := H) (pm := pm) h0 h hle t
    intro s b hm
    rw [this] at hm; cases hm
  · by_cases hw : ∃ (k : Nat) (o : Oper), k < h ∧ os[k]? = some o ∧ o.dst = some t
    · obtain ⟨k, o, hk, ho, hdk⟩ := hw
      intro hx
      have e : tg ((List.take h (prep os)).foldl (fun s o => eNext P φ H pm s o.1 o.2.1) ⟨T, []⟩).T t = _ := tgS_new (P := P) (φ := φ) (H := H) (pm := pm) (T0 := T) hok ho hdk h hle hk
      rw [e]
      cases hn : nwB o.op with
      | false => exact ⟨fun _ => hfr (I.quiet k o hk ho (hL k hk) hn t hdk), fun e => by simp [holds] at e⟩
      | true => exact ⟨fun _ => r3 k o hk ho hn t hdk, fun e => by simp [holds] at e⟩
    · have hnone : ∀ (j : Nat) (oj : Oper), j < h → os[j]? = some oj → oj.dst ≠ some t := fun j oj hj hoj e => hw ⟨j, oj, hj, hoj, e⟩
      have hr := I.old t fun j oj hj hoj hdj => absurd hdj (hnone j oj hj hoj)
      intro hx
      have e : tg ((List.take h (prep os)).foldl (fun s o => eNext P φ H pm s o.1 o.2.1) ⟨T, []⟩).T t = tg T t := tgS_old (P := P) (φ := φ) (H := H) (pm := pm) (T0 := T) t h hle hnone
      rw [e] at hx ⊢
      have hr := hr hx
      exact ⟨fun _ => hfr (hr.1 (by rw [h0]; rfl)), fun e => by rw [h0] at e; simp [holds] at e⟩
  · have := I.ext.pre hh y hl hy
    rw [List.getElem?_append_left (List.getElem?_eq_some_iff.1 this).1]; exact this

/-- The head of another order of the same operations. -/
theorem HE.shrink {os os2 : Array Oper} {H Hc : Heap} {pm : PV} {T : TEnv} {n h h2 B base : Nat} {σ0 : List (Nat × Nat)} {F0 : Fr} {w0 w : World} {L L2 : Nat → Bool} {a : Act} {σ : List (Nat × Nat)} {F : Fr} {xs : Nat → Nat × Nat}
    (I : HE P φ os H pm T n Hc h B base σ0 F0 w0 L a w σ F xs) (hh : h2 ≤ h) (hos : ∀ k, k < h2 → os2[k]? = os[k]?) (hSA : ∀ k, k ≤ h2 → SA P φ os2 H pm T k = SA P φ os H pm T k) (hL2 : ∀ k, k < h2 → L2 k = L k) (hL : ∀ k, h2 ≤ k → k < h → L k = false) :
    HE P φ os2 H pm T n Hc h2 B base σ0 F0 w0 L2 a w σ F xs := by
  refine ⟨I.size, I.defers, I.ow, I.ext, fun t ht => I.old t fun k o hk ho hd => ?_, fun k o hk ho hl hn t ht => ?_, fun k o hk ho hl hn => ?_, fun k k' o o' hk hk' ho ho' hl hl' hn hn' hne => ?_⟩
  · rcases Nat.lt_or_ge k h2 with h1 | h1
    · rw [← hL2 k h1]; exact ht k o h1 (by rw [hos k h1]; exact ho) hd
    · exact hL k h1 hk
  · rw [hos k hk] at ho
    rw [hL2 k hk] at hl
    rw [hSA k (by omega)]
    exact I.quiet k o (by omega) ho hl hn t ht
  · rw [hos k hk] at ho
    rw [hL2 k hk] at hl
    rw [hSA k (by omega)]
    exact I.new k o (by omega) ho hl hn
  · rw [hos k hk] at ho
    rw [hos k' hk'] at ho'
    rw [hL2 k hk] at hl
    rw [hL2 k' hk'] at hl'
    exact I.apart k k' o o' (by omega) (by omega) ho ho' hl hl' hn hn' hne

theorem okTwo_spec {n : Nat} (h : okTwo n ops = true) : okOps n ops = true ∧ 0 < nHd ops ∧ (ordZ ops).length = ops.size ∧ nHd ops < ops.size ∧ (∀ (i : Nat) (x : Oper × Nat), (ordZ ops)[i]? = some x → x.2 = swp (nHd ops) i) ∧ ∀ x : Oper × Nat, (ordZ ops)[nHd ops - 1]? = some x → entB x.1.op = false := by
  unfold okTwo at h
  simp only [Bool.and_eq_true, decide_eq_true_eq] at h
  obtain ⟨⟨⟨⟨⟨h1, h2⟩, h3⟩, h4⟩, h5⟩, h6⟩ := h
  refine ⟨h1, h2, h3, h4, fun i x hx => ?_, fun x hx => ?_⟩
  · have hlt := (List.getElem?_eq_some_iff.1 hx).1
    have h := List.all_eq_true.1 h5 i (List.mem_range.2 hlt)
    simpa only [hx, beq_iff_eq] using h
  · simpa only [hx, Bool.not_eq_true'] using h6
/-- A region in which an entry is made ready, in one order or in two. -/
theorem vcEntB_sound {b : Bool} {n B base : Nat} {σ0 : List (Nat × Nat)} {F0 : Fr} {w0 : World} (hmx : P.follows .mixedOrders = true) {id : Nat} (hd : okEntB b n ops = true) (Q : Exit → Act → World → Prop) (K : TEnv → Heap → Prop)
    (hq : ∀ T H a w, K T H → SR B base n σ0 F0 w0 T H a w → Q .normal a w) {T : TEnv} {H H' : Heap} {pm : PV} {a : Act} {w : World} (hv : vcE P φ H H' pm K (prep (opsE ops)) ⟨T, []⟩) (hv2 : b = true → okTwo n ops = true ∧ vcE P φ H H' pm K (prep ops) ⟨T, []⟩) (hs : SR B base n σ0 F0 w0 T H a w) : (Code.region id ops true).wp P Q a w := by
  obtain ⟨σ, F, h0, s1, s2, s3, s4, s5⟩ := hs
  have E := okEnt_spec hd
  have hok := E.ok
  obtain ⟨os, hos⟩ : ∃ os, os = opsE ops := ⟨_, rfl⟩
  rw [← hos] at hv hok
  have hsize : os.size = (ordZ ops).length := by rw [hos]; simp [opsE]
  obtain ⟨h, hh⟩ : ∃ h, h = ((prep os).takeWhile fun o => hdE o.2.1).length := ⟨_, rfl⟩
  obtain ⟨f1, f2⟩ := vcE_facts (prep os) ⟨T, []⟩ hv h hh
  have hle : h ≤ os.size := by
    have := (List.takeWhile_sublist (fun o : POp => hdE o.2.1) (l := prep os)).length_le
    rw [hh]; simpa [prep] using this
  have zget : ∀ (k : Nat) (o : Oper), os[k]? = some o → ∃ x : Oper × Nat, (ordZ ops)[k]? = some x ∧ x.1 = o := by
    intro k o ho
    rw [hos, opsE_get] at ho
    exact Option.map_eq_some_iff.1 ho
  have hhead : h = nHd ops ∧ ∀ (k : Nat) (o : Oper), os[k]? = some o → (hdE o.op = true ↔ k < h) := by
    -- the ordered list is its head, then its tail
    have hz : (ordZ ops).map (fun x => hdE x.1.op) = List.replicate (ops.toList.zipIdx.filter fun x => hdE x.1.op).length true ++ List.replicate (ops.toList.zipIdx.filter fun x => !hdE x.1.op).length false := by
      unfold ordZ
      rw [List.map_append]
      congr 1
      · rw [List.eq_replicate_iff]
        refine ⟨by simp, fun b hb => ?_⟩
        obtain ⟨x, hx, rfl⟩ := List.mem_map.1 hb
        exact (List.mem_filter.1 hx).2
      · rw [List.eq_replicate_iff]
        refine ⟨by simp, fun b hb => ?_⟩
        obtain ⟨x, hx, rfl⟩ := List.mem_map.1 hb
        simpa using (List.mem_filter.1 hx).2
    have hp : (prep os).map (fun o => hdE o.2.1) = (ordZ ops).map (fun x => hdE x.1.op) := by
      rw [hos]; simp [prep, opsE, prepO, Function.comp_def]
    have hh2 : h = (ops.toList.zipIdx.filter fun x => hdE x.1.op).length := by
      have e1 : h = (((prep os).map (fun o => hdE o.2.1)).takeWhile fun b => b).length := by
        rw [hh, List.takeWhile_map, List.length_map]; rfl
      rw [e1, hp, hz, List.takeWhile_append_of_pos (by simp)]
      cases (List.filter (fun x => !hdE x.1.op) ops.toList.zipIdx).length <;> simp [List.replicate_succ]
    refine ⟨hh2, ?_⟩
    intro k o ho
    obtain ⟨x, hx, rfl⟩ := zget k o ho
    have e : ((ordZ ops).map (fun x => hdE x.1.op))[k]? = some (hdE x.1.op) := by simp [hx]
    have hkl := (List.getElem?_eq_some_iff.1 hx).1
    rw [hz, List.getElem?_append] at e
    simp only [List.length_replicate] at e
    split at e
    · rename_i hlt
      rw [List.getElem?_replicate, if_pos hlt] at e
      simp only [Option.some.injEq] at e
      exact ⟨fun _ => by omega, fun _ => e.symm⟩
    · rename_i hge
      rw [List.getElem?_replicate] at e
      split at e
      · simp only [Option.some.injEq] at e
        rw [← e]
        exact ⟨(fun h => by cases h), fun hk => by omega⟩
      · cases e
  obtain ⟨hnH, hhead⟩ := hhead
  have hgu : ∀ (k : Nat) (o : Oper), os[k]? = some o → o.guard = none := by
    intro k o ho
    obtain ⟨x, hx, rfl⟩ := zget k o ho
    exact E.guard x (ordZ_get hx).1
  have hc : ∀ (k : Nat) (o : Oper), k < h → os[k]? = some o → hdE o.op = true ∧ eCond P φ H H' pm (SA P φ os H pm T k) o.op := by
    intro k o hk ho
    exact f1 k (prepO os o) hk (by simp [prep, ho])
  obtain ⟨m, xm, hxm, hem, hum⟩ := E.ent
  have hom : os[m]? = some xm.1 := by rw [hos, opsE_get, hxm]; rfl
  have hhm : hdE xm.1.op = true := by simp [hdE, hem]
  have hmh : m < h := (hhead m _ hom).1 hhm
  have hms : m < os.size := by omega
  have hH' : H'.length = H.length := by
    have := (hc m _ hmh hom).2
    unfold eCond at this
    rw [if_pos hem] at this
    rw [← this.2.2]
    have : ∀ op : Op, entB op = true → ∀ T, (vStep P φ op T [] H).H.length = H.length := by
      intro op he T
      cases op <;> simp only [entB, Bool.false_eq_true] at he
      rename_i t x y
      have hvv : vStep P φ (.mapEntry t x y) T [] H = withOk (argsOk T [] [x, y]) (rMapEntry P t (holds T []) (opv T x).p (opv T y).p H) := rfl
      rw [hvv]
      simp only [withOk, rMapEntry]
      split <;> (try rfl)
      split <;> (try rfl)
      split <;> (try rfl)
      simp
    exact this _ hem _
  -- of an operation of the head that is not the entry
  have hcf : ∀ (k : Nat) (o : Oper), k < h → os[k]? = some o → k ≠ m → entB o.op = false := by
    intro k o hk ho hkm
    cases he : entB o.op with
    | false => rfl
    | true =>
      obtain ⟨x, hx, rfl⟩ := zget k o ho
      exact absurd (hum k x hx he) hkm
  have nuk : ∀ (k : Nat) (o : Oper), os[k]? = some o → ∃ x : Oper × Nat, (ordZ ops)[k]? = some x ∧ x.1 = o ∧ nuE ops k = x.2 ∧ ops[nuE ops k]? = some o := by
    intro k o ho
    obtain ⟨x, hx, rfl⟩ := zget k o ho
    have : nuE ops k = x.2 := by simp [nuE, hx]
    exact ⟨x, hx, rfl, this, by rw [this]; exact (ordZ_get hx).2⟩
  have nulate : ∀ k, ¬ k < os.size → nuE ops k = ops.size := by
    intro k hk
    have : (ordZ ops)[k]? = none := by simp; omega
    simp [nuE, this]
  -- one step, under the one heap or the other
  have hstep : ∀ (L : Nat → Bool) (a : Act) (w : World) (σ : List (Nat × Nat)) (F : Fr) (xs : Nat → Nat × Nat) (k : Nat) (o : Oper), k < h → os[k]? = some o → L (nuE ops k) = false →
      (∀ (j : Nat) (o' : Oper), ops[j]? = some o' → L j = true → ∀ e ∈ o'.after, Region.binds .any e = true → L e.on = true) → (∀ e ∈ o.after, Region.binds .any e = true → L e.on = true) →
      HE P φ os H pm T n (if L (nuE ops m) = true then H' else H) h B base σ0 F0 w0 (fun k => L (nuE ops k)) a w σ F xs →
      wpOp P os Q k (fun a' w' => ∃ σ' F' xs', HE P φ os H pm T n (if (if m = k then true else L (nuE ops m)) = true then H' else H) h B base σ0 F0 w0 (fun j => if j = k then true else L (nuE ops j)) a' w' σ' F' xs') a w := by
    intro L a w σ F xs k o hk ho hLk hcl hall I
    obtain ⟨x, hx, hxo, hnx, hon⟩ := nuk k o ho
    have hlk : ∀ (j : Nat) (oj : Oper), j < h → os[j]? = some oj → ∀ d, oj.dst = some d → Operand.tmp d ∈ o.op.operands.toList → nwB oj.op = false ∧ (j < k ∧ L (nuE ops j) = true ∨ k < j ∧ L (nuE ops j) = false) := by
      intro j oj hj hoj d hdj hm
      obtain ⟨y, hy, hyo, hny, hony⟩ := nuk j oj hoj
      obtain ⟨e1, e2⟩ := E.head k x hx (by rw [hxo]; exact (hhead k o ho).2 hk) j y hy (by rw [hyo]; exact (hhead j oj hoj).2 hj) d (by rw [hyo]; exact hdj) (by rw [hxo]; exact hm)
      rw [hyo] at e1
      refine ⟨e1, ?_⟩
      rcases e2 with ⟨hjk, he⟩ | ⟨hkj, he⟩
      · left
        refine ⟨hjk, ?_⟩
        rw [hny]
        rw [hxo] at he
        exact edge_on he hall
      · right
        refine ⟨hkj, ?_⟩
        cases hLj : L (nuE ops j) with
        | false => rfl
        | true =>
          rw [hyo] at he
          have := edge_on he (hcl _ oj hony hLj)
          rw [← hnx, hLk] at this; cases this
    obtain ⟨hhd, hcd⟩ := hc k o hk ho
    by_cases hkm : k = m
    · subst hkm
      rw [hom] at ho; cases ho
      rw [hLk] at I
      simp only [Bool.false_eq_true, if_false] at I
      unfold eCond at hcd
      rw [if_pos hem] at hcd
      simp only [if_true]
      exact HE.ent h0 hok hle I hk hom (hgu k _ hom) hlk hem hcd.1 hcd.2.1 hcd.2.2
    · have hef := hcf k o hk ho hkm
      rw [if_neg (Ne.symm hkm)]
      unfold eCond at hcd
      rw [if_neg (by rw [hef]; simp)] at hcd
      have hqq : nwB o.op = false → quietB o.op = true := by
        intro hn
        have hnb : newB o.op = false := by
          cases hb : newB o.op with
          | false => rfl
          | true => rw [nwB_of hb] at hn; cases hn
        simpa [hdE, hef, hn, headB, hnb] using hhd
      have ev1 : nwB o.op = false → eVal P φ H pm (SA P φ os H pm T k) o.op = (vStep P φ o.op (SA P φ os H pm T k).T [] H).p := by
        intro hn; unfold eVal; rw [if_neg (by rw [hef]; simp), if_neg (by rw [hn]; simp)]
      have ev2 : nwB o.op = true → eVal P φ H pm (SA P φ os H pm T k) o.op = ren (H.length + (SA P φ os H pm T k).X.length) (vStep P φ o.op (SA P φ os H pm T k).T [] H).p := by
        intro hn; unfold eVal; rw [if_neg (by rw [hef]; simp), if_pos hn]
      have en2 : nwB o.op = true → eNew P φ H (SA P φ os H pm T k) o.op = (vStep P φ o.op (SA P φ os H pm T k).T [] H).H.drop H.length := by
        intro hn; unfold eNew; rw [if_pos hn]
      cases hLm : L (nuE ops m) with
      | false =>
        rw [hLm] at I
        simp only [Bool.false_eq_true, if_false] at I ⊢
        refine HE.step h0 hok hle I hk ho (hgu k o ho) hlk hqq ?_ ev1 fun hn => ⟨?_, ⟨_, ev2 hn⟩, en2 hn⟩
        · split at hcd <;> exact hcd.1
        · rw [if_pos hn] at hcd; exact hcd.2.2.1
      | true =>
        rw [hLm] at I
        simp only [if_true] at I ⊢
        refine HE.step h0 hok hle I hk ho (hgu k o ho) hlk hqq ?_ (fun hn => ?_) fun hn => ?_
        · split at hcd
          · exact hcd.2.1
          · exact hcd.2.1
        · rw [if_neg (by rw [hn]; simp)] at hcd
          rw [ev1 hn, hcd.2.2]
        · rw [if_pos hn] at hcd
          exact ⟨hcd.2.2.1, ⟨_, by rw [ev2 hn, ← hcd.2.2.2.1]⟩, by rw [en2 hn, hcd.2.2.2.2]⟩
  have turn : ∀ (L : Nat → Bool) (a : Act) (w : World), (∃ σ F xs, HE P φ os H pm T n H' h B base σ0 F0 w0 L a w σ F xs) → (∀ k, k < h → L k = true) → TInv P φ os K n B base σ0 F0 w0 h a w := by
    rintro L a w ⟨σ, F, xs, I⟩ hL
    exact I.turn h0 hok hle hL hH' f2
  refine wp_region_any hmx ?_
  refine wpAny_inv (P := P) (ops := ops) (Q := Q) (fun L a w => ((∀ k, h ≤ k → k < os.size → L (nuE ops k) = false) ∧ ∃ σ F xs, HE P φ os H pm T n (if L (nuE ops m) = true then H' else H) h B base σ0 F0 w0 (fun k => L (nuE ops k)) a w σ F xs) ∨
      (∃ k, h ≤ k ∧ k ≤ os.size ∧ (∀ j, j < os.size → L (nuE ops j) = decide (j < k)) ∧ TInv P φ os K n B base σ0 F0 w0 k a w) ∨
      b = true ∧ ∃ k, h ≤ k ∧ k ≤ ops.size ∧ (∀ i, i < ops.size → L i = decide (i < k)) ∧ TInv P φ ops K n B base σ0 F0 w0 k a w) E.back ?_ ?_ ops.size _ a _ (by simp) ?_ ?_ ?_
  · -- all has come up
    have fin : ∀ a w, TInv P φ os K n B base σ0 F0 w0 os.size a w → Q .normal a w := by
      rintro a w ⟨T', H'', σ', F', hv', hs', t1, t2, t3, t4, t5⟩
      have : (prep os).drop os.size = [] := by simp [prep]
      rw [this] at hv'
      exact hq (endT T') H'' a w hv' ⟨σ', F', fun t => (endT_tg T' t).1, t1, t2, t3.endT, t4, t5⟩
    have hLall : ∀ (L : Nat → Bool), (∀ j, j < ops.size → L j = true) → ∀ k, k < os.size → L (nuE ops k) = true := by
      intro L hL k hk
      obtain ⟨x, _, _, _, ho⟩ := nuk k os[k] (by simp [hk])
      exact hL _ (Array.getElem?_eq_some_iff.1 ho).1
    rintro L a w hL (⟨hn, hI⟩ | ⟨k, k1, k2, k3, k4⟩ | ⟨_, k, k1, k2, k3, T', H'', σ', F', hv', hs', t1, t2, t3, t4, t5⟩)
    · have hh : h = os.size := by
        rcases Nat.lt_or_ge h os.size with hlt | hge
        · have := hn h (Nat.le_refl _) hlt
          rw [hLall L hL _ hlt] at this; cases this
        · omega
      rw [if_pos (hLall L hL m hms)] at hI
      exact fin a w (by have := turn _ a w hI fun k hk => hLall L hL k (by omega); rwa [hh] at this)
    · have hk : k = os.size := by
        rcases Nat.lt_or_ge k os.size with hlt | hge
        · have := k3 k hlt
          rw [hLall L hL k hlt] at this; simp at this
        · omega
      subst hk
      exact fin a w k4
    · have hk : k = ops.size := by
        rcases Nat.lt_or_ge k ops.size with hlt | hge
        · have := k3 k hlt
          rw [hL k hlt] at this; simp at this
        · omega
      subst hk
      have : (prep ops).drop ops.size = [] := by simp [prep]
      rw [this] at hv'
      exact hq (endT T') H'' a w hv' ⟨σ', F', fun t => (endT_tg T' t).1, t1, t2, t3.endT, t4, t5⟩
  · -- one comes up
    rintro L a w i o hI ho hLi hcl hall
    have hi := (Array.getElem?_eq_some_iff.1 ho).1
    obtain ⟨k, hk, hki⟩ := E.sur i hi
    rw [← hsize] at hk
    have hok' : os[k]? = some os[k] := by simp [hk]
    obtain ⟨x, hx, hxo, hnx, hon⟩ := nuk k _ hok'
    rw [hki, ho] at hon
    cases hon
    have hupd : ∀ j, (if nuE ops j = i then true else L (nuE ops j)) = (if j = k then true else L (nuE ops j)) := by
      intro j
      by_cases hjk : j = k
      · subst hjk; rw [if_pos hki, if_pos rfl]
      · rw [if_neg hjk, if_neg]
        intro e
        by_cases hj : j < os.size
        · exact hjk (E.inj j k (by omega) (by omega) (by rw [e, hki]))
        · rw [nulate j hj] at e; omega
    have hLk : L (nuE ops k) = false := by rw [hki]; exact hLi
    have hreach : h ≤ k → ∀ j, j < k → (b = true ∧ k = h ∧ j + 1 = h) ∨ L (nuE ops j) = true := by
      intro hhk j hj
      obtain ⟨y, hy, _, hny, _⟩ := nuk j os[j] (by simp [show j < os.size by omega])
      have hnh : hdE x.1.op = false := by
        cases hb : hdE x.1.op with
        | false => rfl
        | true =>
          rw [hxo] at hb
          have := (hhead k _ hok').1 hb
          omega
      rcases E.tail k x hx hnh j y hj hy with this | this
      · exact .inl ⟨this.1, by omega, by omega⟩
      · right
        rw [hny]
        refine reach_listed hcl ops.size i os[k] ho hall ?_
        rw [← hki, hnx]; exact this
    -- the text's order
    have two : b = true → okOps n ops = true ∧ 0 < h ∧ os.size = ops.size ∧ h < ops.size ∧ (∀ j, j < ops.size → nuE ops j = swp h j) := by
      intro hb
      obtain ⟨q1, q2, q3, q4, q5, _⟩ := okTwo_spec (hv2 hb).1
      refine ⟨q1, by omega, by omega, by omega, fun j hj => ?_⟩
      obtain ⟨y, hy, _, hny, _⟩ := nuk j os[j] (by simp [show j < os.size by omega])
      rw [hny, q5 j y hy, hnH]
    rcases hI with hI | hI | ⟨hb, k', k1, k2, k3, k4⟩
    rotate_left 2
    · obtain ⟨q1, q2, q3, q4, q5⟩ := two hb
      have hik : k' = i := by
        have hki' : k' ≤ i := by
          rcases Nat.lt_or_ge i k' with hlt | hge
          · have := k3 i hi
            rw [hLi] at this; simp at this; omega
          · exact hge
        rcases Nat.lt_or_ge k' i with hlt | hge
        · have hk1 : k = i := by
            have := q5 k (by omega)
            rw [hki] at this
            unfold swp at this
            split at this
            · omega
            · split at this
              · omega
              · exact this.symm
          by_cases hkh : k' = h
          · rcases hreach (by omega) (h - 1) (by omega) with h' | h'
            · omega
            · rw [q5 (h - 1) (by omega)] at h'
              have : swp h (h - 1) = h := by unfold swp; rw [if_pos (by omega)]
              rw [this, k3 h (by omega), hkh] at h'
              simp at h'
          · rcases hreach (by omega) k' (by omega) with h' | h'
            · omega
            · rw [q5 k' (by omega)] at h'
              have : swp h k' = k' := by unfold swp; rw [if_neg (by omega), if_neg hkh]
              rw [this, k3 k' (by omega)] at h'
              simp at h'
        · omega
      subst hik
      refine wpOp_mono (fun a' w' hT => .inr (.inr ⟨hb, k' + 1, by omega, by omega, fun j hj => ?_, hT⟩)) (k4.step q1 hi)
      show (if j = k' then true else L j) = _
      by_cases hjk : j = k'
      · simp [hjk]
      · rw [if_neg hjk, k3 j hj]
        congr 1
        simp only [eq_iff_iff]
        omega
    all_goals
      by_cases hlate : b = true ∧ k = h ∧ L (nuE ops (h - 1)) = false
      rotate_left 1
    rotate_left 1
    · obtain ⟨hb, hkh, hLq⟩ := hlate
      obtain ⟨q1, q2, q3, q4, q5⟩ := two hb
      obtain ⟨hn, σ, F, xs, I⟩ := hI
      have hLj : ∀ j, j < h - 1 → L (nuE ops j) = true := fun j hj => by
        rcases hreach (by omega) j (by omega) with h' | h'
        · omega
        · exact h'
      have hsw : ∀ j, j < h - 1 → nuE ops j = j := fun j hj => by
        rw [q5 j (by omega)]; unfold swp; rw [if_neg (by omega), if_neg (by omega)]
      have hi1 : i = h - 1 := by
        rw [← hki, hkh, q5 h (by omega)]; unfold swp; rw [if_neg (by omega), if_pos rfl]
      have hos2 : ∀ j, j < h - 1 → ops[j]? = os[j]? := fun j hj => by
        obtain ⟨y, hy, hyo, hny, hony⟩ := nuk j os[j] (by simp [show j < os.size by omega])
        rw [hsw j hj] at hony
        rw [hony]; simp [show j < os.size by omega]
      have hpr : ∀ j, j < h - 1 → (prep ops)[j]? = (prep os)[j]? := fun j hj => by
        have e1 : os[j]? = some os[j] := by simp [show j < os.size by omega]
        have e2 := (hos2 j hj).trans e1
        have g1 := hgu j _ e1
        simp [prep, e1, e2, prepO, g1]
      have hpt : ∀ j, j ≤ h - 1 → (prep ops).take j = (prep os).take j := fun j hj => by
        refine List.ext_getElem? fun m => ?_
        rw [List.getElem?_take, List.getElem?_take]
        by_cases hm : m < j
        · rw [if_pos hm, if_pos hm]; exact hpr m (by omega)
        · rw [if_neg hm, if_neg hm]
      have hLm : L (nuE ops m) = true := by
        have hmne : m ≠ h - 1 := by
          rintro rfl
          have := (okTwo_spec (hv2 hb).1).2.2.2.2.2 xm (by rw [← hnH]; exact hxm)
          rw [hem] at this; cases this
        exact hLj m (by omega)
      rw [if_pos hLm] at I
      have I2 := I.shrink (os2 := ops) (h2 := h - 1) (L2 := L) (by omega) hos2 (fun j hj => by simp only [SA, hpt j hj]) (fun j hj => by rw [hsw j hj]) (fun j hj1 hj2 => by
        have : j = h - 1 := by omega
        rw [this]; exact hLq)
      obtain ⟨g1, g2⟩ := vcE_facts (prep ops) ⟨T, []⟩ (hv2 hb).2 _ rfl
      have hlen : ((prep ops).takeWhile fun o => hdE o.2.1).length = h - 1 := by
        have hall : ∀ o ∈ (prep ops).take (h - 1), hdE o.2.1 = true := by
          intro o ho
          rw [hpt _ (Nat.le_refl _)] at ho
          obtain ⟨j, hj, rfl⟩ := List.getElem_of_mem ho
          have hj' : j < h - 1 := by simp at hj; omega
          have e1 : os[j]? = some os[j] := by simp [show j < os.size by omega]
          have := (hhead j _ e1).2 (by omega)
          simpa [prep, prepO] using this
        have hno : ∃ o, (prep ops)[h - 1]? = some o ∧ hdE o.2.1 = false := by
          refine ⟨prepO ops os[k], by simp [prep, ← hi1, ho], ?_⟩
          cases hb' : hdE (prepO ops os[k]).2.1 with
          | false => rfl
          | true =>
            have := (hhead k _ hok').1 hb'
            omega
        obtain ⟨o, ho1, ho2⟩ := hno
        have hsplit : prep ops = (prep ops).take (h - 1) ++ o :: (prep ops).drop (h - 1 + 1) := by
          have hl := (List.getElem?_eq_some_iff.1 ho1).1
          have he := (List.getElem?_eq_some_iff.1 ho1).2
          rw [← he, List.getElem_cons_drop hl, List.take_append_drop]
        rw [hsplit, List.takeWhile_append_of_pos hall]
        simp only [List.takeWhile_cons, ho2, Bool.false_eq_true, if_false, List.append_nil, List.length_take]
        have : (prep ops).length = ops.size := by simp [prep]
        omega
      rw [hlen] at g2
      have hT := I2.turn h0 q1 (by omega) (fun j hj => by rw [← hsw j hj]; exact hLj j hj) hH' g2
      subst hi1
      refine wpOp_mono (fun a' w' hT => .inr (.inr ⟨hb, h, Nat.le_refl _, by omega, fun j hj => ?_, by rw [show h - 1 + 1 = h by omega] at hT; exact hT⟩)) (hT.step q1 hi)
      show (if j = h - 1 then true else L j) = _
      by_cases hjk : j = h - 1
      · simp [hjk]; omega
      · rw [if_neg hjk]
        rcases Nat.lt_or_ge j (h - 1) with hlt | hge
        · have := hLj j hlt
          rw [hsw j hlt] at this
          rw [this]; simp; omega
        · have e2 : decide (j < h) = false := decide_eq_false (by omega)
          rw [e2]
          by_cases hjh : j = h
          · have : nuE ops (h - 1) = h := by rw [q5 (h - 1) (by omega)]; unfold swp; rw [if_pos (by omega)]
            rw [this] at hLq
            rw [hjh]; exact hLq
          · have := hn j (by omega) (by omega)
            have e : nuE ops j = j := by rw [q5 j (by omega)]; unfold swp; rw [if_neg (by omega), if_neg hjh]
            rw [e] at this; exact this
    rotate_left 1
    · exfalso
      obtain ⟨hb, hkh, hLq⟩ := hlate
      obtain ⟨q1, q2, _⟩ := two hb
      obtain ⟨k', k1, k2, k3, k4⟩ := hI
      have := k3 (h - 1) (by omega)
      rw [hLq] at this
      simp at this; omega
    all_goals
      have hreach : h ≤ k → ∀ j, j < k → L (nuE ops j) = true := by
        intro hhk j hj
        rcases hreach hhk j hj with ⟨h1, h2, h3⟩ | h'
        · cases hq' : L (nuE ops j) with
          | true => rfl
          | false =>
            have : j = h - 1 := by omega
            subst this
            exact absurd ⟨h1, h2, hq'⟩ hlate
        · exact h'
      refine wpOp_conv hok' ho (hgu k _ hok') ?_
      simp only [hupd]
      have tailStep : ∀ (a : Act) (w : World), h ≤ k → (∀ j, j < os.size → L (nuE ops j) = decide (j < k)) → TInv P φ os K n B base σ0 F0 w0 k a w →
          wpOp P os Q k (fun a' w' => ((∀ j, h ≤ j → j < os.size → (if j = k then true else L (nuE ops j)) = false) ∧ ∃ σ F xs, HE P φ os H pm T n (if (if m = k then true else L (nuE ops m)) = true then H' else H) h B base σ0 F0 w0 (fun j => if j = k then true else L (nuE ops j)) a' w' σ F xs) ∨
            (∃ k', h ≤ k' ∧ k' ≤ os.size ∧ (∀ j, j < os.size → (if j = k then true else L (nuE ops j)) = decide (j < k')) ∧ TInv P φ os K n B base σ0 F0 w0 k' a' w') ∨
            b = true ∧ ∃ k', h ≤ k' ∧ k' ≤ ops.size ∧ (∀ j, j < ops.size → (if j = i then true else L j) = decide (j < k')) ∧ TInv P φ ops K n B base σ0 F0 w0 k' a' w') a w := by
        intro a w h1 h2 h3
        refine wpOp_mono (fun a' w' hT => .inr (.inl ⟨k + 1, by omega, by omega, fun j hj => ?_, hT⟩)) (h3.step hok hk)
        by_cases hjk : j = k
        · simp [hjk]
        · rw [if_neg hjk, h2 j hj]
          congr 1
          simp only [eq_iff_iff]
          omega
    · obtain ⟨hn, σ, F, xs, I⟩ := hI
      rcases Nat.lt_or_ge k h with hkh | hkh
      · refine wpOp_mono (fun a' w' hT => .inl ⟨fun j hj1 hj2 => ?_, hT⟩) (hstep L a w σ F xs k _ hkh hok' hLk hcl hall I)
        rw [if_neg (by omega)]
        exact hn j hj1 hj2
      · have hL := hreach hkh
        have hkh' : k = h := by
          rcases Nat.lt_or_ge h k with hlt | hge
          · have := hn h (Nat.le_refl _) (by omega)
            rw [hL _ hlt] at this; cases this
          · omega
        rw [if_pos (hL m (by omega))] at I
        have hT := turn _ a w ⟨σ, F, xs, I⟩ fun j hj => hL j (by omega)
        refine tailStep a w hkh (fun j hj => ?_) (by rw [hkh']; exact hT)
        rcases Nat.lt_or_ge j k with hlt | hge
        · rw [hL j hlt]; simp [hlt]
        · rw [hn j (by omega) hj]; simp; omega
    · obtain ⟨k', k1, k2, k3, k4⟩ := hI
      have hkk : k' ≤ k := by
        rcases Nat.lt_or_ge k k' with hlt | hge
        · have := k3 k hk
          rw [hLk] at this; simp at this; omega
        · exact hge
      have hL := hreach (by omega)
      have hik : k = k' := by
        rcases Nat.lt_or_ge k' k with hlt | hge
        · have := k3 k' (by omega)
          rw [hL k' hlt] at this; simp at this
        · omega
      subst hik
      exact tailStep a w k1 k3 k4
  · have : ∀ l : List Nat, l.countP (fun j => !(Array.replicate ops.size false).getD j false) = l.length := by
      intro l
      rw [List.countP_eq_length]
      intro j _
      by_cases hj : j < ops.size <;> simp [Array.getD_eq_getD_getElem?, Array.getElem?_replicate, hj]
    rw [this]; simp
  · intro j o' ho' hj
    have hlt := (Array.getElem?_eq_some_iff.1 ho').1
    simp [Array.getD_eq_getD_getElem?, Array.getElem?_replicate, hlt] at hj
  · have fl : ∀ j, (Array.replicate ops.size false).getD j false = false := fun j => by
      by_cases hj : j < ops.size <;> simp [Array.getD_eq_getD_getElem?, Array.getElem?_replicate, hj]
    left
    simp only [fl]
    refine ⟨fun k _ _ => trivial, σ, F, fun _ => (0, 0), s1, s2, ?_, ?_, fun t _ => ?_, fun k o hk ho hl => ?_, fun k o hk ho hl => ?_, fun k k' o o' hk _ ho _ hl => ?_⟩
    · exact (s4.drew (w' := { w with drawn := w.drawn + 1 }) rfl rfl rfl rfl).1
    · exact s5.trans ((s4.drew (w' := { w with drawn := w.drawn + 1 }) rfl rfl rfl rfl).2 base)
    · exact (s3.step (s4.drew (w' := { w with drawn := w.drawn + 1 }) rfl rfl rfl rfl).2) t
    all_goals cases hl
theorem vcEnt_sound {n B base : Nat} {σ0 : List (Nat × Nat)} {F0 : Fr} {w0 : World} (hmx : P.follows .mixedOrders = true) {id : Nat} (hd : okEnt n ops = true) (Q : Exit → Act → World → Prop) (K : TEnv → Heap → Prop)
    (hq : ∀ T H a w, K T H → SR B base n σ0 F0 w0 T H a w → Q .normal a w) {T : TEnv} {H : Heap} {a : Act} {w : World} (hv : vcEnt P φ (ordE (prep ops)) T H K) (hs : SR B base n σ0 F0 w0 T H a w) : (Code.region id ops true).wp P Q a w := by
  rw [ordE_prep (okEnt_spec hd).guard] at hv
  exact vcEntB_sound hmx hd Q K hq hv (fun h => by cases h) hs
/-- In both orders. -/
def vcEnt2 (P : Program) (φ : FuncId → List PV → PV) (l1 l2 : List POp) (T : TEnv) (H : Heap) (K : TEnv → Heap → Prop) : Prop :=
  vcE P φ H (entR P φ H l1 ⟨T, []⟩).H (entR P φ H l1 ⟨T, []⟩).p K l1 ⟨T, []⟩ ∧ vcE P φ H (entR P φ H l1 ⟨T, []⟩).H (entR P φ H l1 ⟨T, []⟩).p K l2 ⟨T, []⟩
theorem vcEnt2_sound {n B base : Nat} {σ0 : List (Nat × Nat)} {F0 : Fr} {w0 : World} (hmx : P.follows .mixedOrders = true) {id : Nat} (hd : okEnt2 n ops = true) (Q : Exit → Act → World → Prop) (K : TEnv → Heap → Prop)
    (hq : ∀ T H a w, K T H → SR B base n σ0 F0 w0 T H a w → Q .normal a w) {T : TEnv} {H : Heap} {a : Act} {w : World} (hv : vcEnt2 P φ (ordE (prep ops)) (prep ops) T H K) (hs : SR B base n σ0 F0 w0 T H a w) : (Code.region id ops true).wp P Q a w := by
  unfold okEnt2 at hd
  rw [Bool.and_eq_true] at hd
  unfold vcEnt2 at hv
  rw [ordE_prep (okEnt_spec hd.1).guard] at hv
  exact vcEntB_sound hmx hd.1 Q K hq hv.1 (fun _ => ⟨hd.2, hv.2⟩) hs
end fin

def anyHd : List POp → Bool
  | [] => false
  | (_, o, _) :: r => bif hdE o then true else anyHd r
def appB : Op → Bool
  | .call ⟨.builtin .append, _, _⟩ => true
  | _ => false
/-- The tail begins with an append, and something of the head stands behind it. -/
def isLate : List POp → Bool
  | [] => false
  | (_, o, _) :: r => bif hdE o then isLate r else (appB o && anyHd r)
def vcDl (P : Program) (φ : FuncId → List PV → PV) (b : Bool) (l : List POp) (T : TEnv) (H : Heap) (K : TEnv → Heap → Prop) : Prop := match b with
  | true => vcEnt2 P φ (ordE l) l T H K
  | false => vcEnt P φ (ordE l) T H K
/-- What is to be shown of a region that draws, with an entry or without. -/
def vcDk (P : Program) (φ : FuncId → List PV → PV) (b : Bool) (l : List POp) (T : TEnv) (H : Heap) (K : TEnv → Heap → Prop) : Prop := match b with
  | true => vcDl P φ (isLate l) l T H K
  | false => vcDraw P φ l T H K
def vcDr (P : Program) (φ : FuncId → List PV → PV) (l : List POp) (T : TEnv) (H : Heap) (K : TEnv → Heap → Prop) : Prop := vcDk P φ (isEnt l) l T H K
end Go.Pv
