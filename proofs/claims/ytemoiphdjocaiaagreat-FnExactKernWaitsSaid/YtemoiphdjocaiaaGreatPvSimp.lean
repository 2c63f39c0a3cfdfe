/-
  The equations by which what is to be shown is reckoned: of any program. Conditions: none.
-/
import Derived.Test.YtemoiphdjocaiaaGreatPvCode
import Derived.Laws.StructEq
import Derived.Deep.Slices
set_option linter.all false
set_option linter.unusedSimpArgs false
set_option linter.unusedVariables false
namespace Go.Pv
set_option linter.defProp false
set_option maxRecDepth 100000
/-- Strings are the same, byte by byte. -/
def eqS (a b : ByteArray) : Bool := a.toList == b.toList
def lvC (x : TV) (r : Option (List PV)) : Option (List PV) := match x, r with
  | ⟨true, [], p⟩, some ps => some (p :: ps)
  | _, _ => none
def ltS (a b : ByteArray) : Bool := Op.bytesLess a.toList b.toList
def zrm (m : Option Ty) : List PV := match m with
  | some q => q.zero
  | none => []
def xpP (c : Nat → List (List PV) → PV) (H : Heap) (n : Nat) (b : Option Blk) (sz i off : Nat) : PV := match b with
  | some (.rows _ sz' es) => if sz' = sz ∧ i < es.length then .ref (((es.getD i []).drop off).map (expo c H n)) else .undef
  | _ => .undef
def xoP (c : Nat → List (List PV) → PV) (H : Heap) (n : Nat) (b : Option Blk) (sz a len : Nat) : PV := match b with
  | some (.rows _ sz' es) => if sz' = sz ∧ a + len ≤ es.length then c sz (((es.drop a).take len).map fun e => e.map (expo c H n)) else .undef
  | _ => .undef
def bdC (fs : List (Nat × Nat × Bool)) (cells : List PV) (p : PV) (rest : List (Nat × PV)) (x : Option (Nat × Nat × Bool)) : Option (List PV) := match x with
  | some (off, size, _) => if (cellsP p).length = size ∧ off + size ≤ cells.length ∧ (cellsP p).all cellB = true then buildP fs (splice cells off (cellsP p)) rest else none
  | none => none
section
variable {P : Program} {φ : FuncId → List PV → PV} {base : Nat} {Q : Exit → TEnv → Heap → Prop} {T : TEnv} {H : Heap} {X : List Blk} {c : Nat → List (List PV) → PV}
theorem q_skip : vc P φ base .skip Q T H = Q .normal T H := rfl
theorem q_seq (x y : Code) : vc P φ base (.seq x y) Q T H = vc P φ base x (thenC (vc P φ base y Q) Q) T H := rfl
theorem q_cond (c : Operand) (x y : Code) : vc P φ base (.cond c x y) Q T H = vcIf (opv T c) (vc P φ base x Q T H) (vc P φ base y Q T H) := rfl
theorem q_block (id : Nat) (c : Code) : vc P φ base (.block id c) Q T H = vc P φ base c (blockC id Q) T H := rfl
theorem q_loop (c : Code) : vc P φ base (.loop c) Q T H = LoopV base (vc P φ base c) Q T H := rfl
theorem q_exit (id : Nat) : vc P φ base (.exit id) Q T H = Q (.exit id) T H := rfl
theorem q_ret : vc P φ base .ret Q T H = Q .ret T H := rfl
theorem q_thn (k : TEnv → Heap → Prop) : thenC k Q .normal T H = k T H := rfl
theorem q_thx (k : TEnv → Heap → Prop) (i : Nat) : thenC k Q (.exit i) T H = Q (.exit i) T H := rfl
theorem q_thr (k : TEnv → Heap → Prop) : thenC k Q .ret T H = Q .ret T H := rfl
theorem q_bln (i : Nat) : blockC i Q .normal T H = Q .normal T H := rfl
theorem q_blx (i : Nat) : blockC i Q (.exit i) T H = Q .normal T H := by simp [blockC]
theorem q_bly (i j : Nat) : blockC i Q (.exit j) T H = if j = i then Q .normal T H else Q (.exit j) T H := rfl
theorem q_blr (i : Nat) : blockC i Q .ret T H = Q .ret T H := rfl
theorem q_if (b : Bool) (k1 k2 : Prop) : vcIf ⟨true, [], .bool b⟩ k1 k2 = ((b = true → k1) ∧ (b = false → k2)) := rfl
theorem q_rox (m : Heap → Nat) (live : List Nat) (I : Nat → List PV → Heap → Prop) (k : Nat) (i : Nat) : roundC m live I k Q (.exit i) T H = Q (.exit i) T H := rfl
theorem q_ror (m : Heap → Nat) (live : List Nat) (I : Nat → List PV → Heap → Prop) (k : Nat) : roundC m live I k Q .ret T H = Q .ret T H := rfl
theorem q_ron (m : Heap → Nat) (live : List Nat) (I : Nat → List PV → Heap → Prop) (k : Nat) : roundC m live I k Q .normal T H = ∃ vs, liveVals T live = some vs ∧ hbL (m H) vs = true ∧ (H.take (m H)).all (hbB (m H)) = true ∧ ∃ k', k' < k ∧ I k' vs (H.take (m H)) := rfl
theorem q_sox (sel : Heap → List Nat) (live : List Nat) (I : Nat → List PV → Heap → Prop) (k : Nat) (i : Nat) : roundS sel live I k Q (.exit i) T H = Q (.exit i) T H := rfl
theorem q_sor (sel : Heap → List Nat) (live : List Nat) (I : Nat → List PV → Heap → Prop) (k : Nat) : roundS sel live I k Q .ret T H = Q .ret T H := rfl
theorem q_son (sel : Heap → List Nat) (live : List Nat) (I : Nat → List PV → Heap → Prop) (k : Nat) : roundS sel live I k Q .normal T H = ∃ vs, liveVals T live = some vs ∧ okSel (sel H) vs H ∧ ∃ k', k' < k ∧ I k' (rnL (sel H) vs) (selH (sel H) H) := rfl
theorem q_lv0 : liveVals T [] = some [] := rfl
theorem q_lv1 (t : Nat) (r : List Nat) : liveVals T (t :: r) = lvC (tg T t) (liveVals T r) := by cases h : tg T t with | mk ok c p => cases h2 : liveVals T r <;> cases ok <;> cases c <;> simp [liveVals, h, h2, lvC]
theorem q_lv2 (p : PV) (ps : List PV) : lvC ⟨true, [], p⟩ (some ps) = some (p :: ps) := rfl
theorem q_mk0 (ps : List PV) : mkT [] ps = [] := rfl
theorem q_mk1 (t : Nat) (r : List Nat) (p : PV) (ps : List PV) : mkT (t :: r) (p :: ps) = (t, [], p) :: mkT r ps := rfl
theorem q_hb0 (m : Nat) : hbL m [] = true := by simp [hbL]
theorem q_hb1 (m : Nat) (p : PV) (r : List PV) : hbL m (p :: r) = (hb m p && hbL m r) := by simp [hbL]
theorem q_hbi (m : Nat) (k : IntKind) (n : Int) : hb m (.int k n) = true := rfl
theorem q_hbb (m : Nat) (b : Bool) : hb m (.bool b) = true := rfl
theorem q_hbs (m : Nat) (b : ByteArray) : hb m (.str b) = true := rfl
theorem q_hbl (m : Nat) (sz : Nat) (es : List (List PV)) : hb m (.sl sz es) = true := rfl
theorem q_hbr (m : Nat) (cs : List PV) : hb m (.ref cs) = true := rfl
theorem q_hbn (m : Nat) : hb m .nil = true := rfl
theorem q_hbu (m : Nat) : hb m .undef = true := rfl
theorem q_hbp (m h sz i off : Nat) : hb m (.ptr h sz i off) = decide (h < m) := rfl
theorem q_hbo (m h sz a len : Nat) : hb m (.own h sz a len) = decide (h < m) := rfl
theorem q_hba (m : Nat) (cs : List PV) : hb m (.agg cs) = hbL m cs := by simp [hb]
theorem q_hbt (m : Nat) (cs : List PV) : hb m (.tup cs) = hbL m cs := by simp [hb]
theorem q_hbk (m T sz : Nat) (es : List (List PV)) : hbB m (.rows T sz es) = es.all fun e => hbL m e := rfl
theorem q_hbd (m : Nat) : hbB m .dead = true := rfl
theorem q_hbM (m : Nat) (ag : Bool) (es : ME) : hbB m (.map ag es) = es.all fun e => hb m e.2 := rfl
theorem q_hbI (m h n : Nat) (l : List Nat) : hbB m (.iter h n l) = decide (h < m) := rfl
theorem q_hbS (m : Nat) (s : ByteArray) (p : Nat) : hbB m (.siter s p) = true := rfl
theorem q_nx1 (t : Tmp) (d : Option Tmp) (rest : List POp) (K : TEnv → Heap → Prop) : vcNx P φ (some (t, false)) d none rest T H K = vcNm P φ (tg T t) d rest T H K := rfl
theorem q_nx2 (t : Tmp) (d : Option Tmp) (rest : List POp) (K : TEnv → Heap → Prop) : vcNx P φ (some (t, true)) d none rest T H K = vcNs P φ (tg T t) d rest T H K := rfl
theorem q_hbm (m h : Nat) : hb m (.mp h) = decide (h < m) := rfl
theorem q_hbc (m : Nat) (f : FuncId) (cs : List PV) : hb m (.clo f cs) = hbL m cs := by simp [hb]
theorem q_hfm (h : Nat) : hf (.mp h) = false := rfl
theorem q_hfc (f : FuncId) (cs : List PV) : hf (.clo f cs) = hfL cs := by simp [hf]
theorem q_xp (n h sz i off : Nat) : expo c H (n + 1) (.ptr h sz i off) = xpP c H n (H[h]?) sz i off := by simp only [expo, xpP]; cases H[h]? with | none => rfl | some b => cases b <;> rfl
theorem q_xp1 (n T sz sz' i off : Nat) (es : List (List PV)) : xpP c H n (some (.rows T sz' es)) sz i off = (bif decide (sz' = sz) && decide (i < es.length) then .ref (((es.getD i []).drop off).map (expo c H n)) else .undef) := by by_cases h1 : sz' = sz <;> by_cases h2 : i < es.length <;> simp [xpP, h1, h2]
theorem q_xp2 (n sz i off : Nat) : xpP c H n (some .dead) sz i off = .undef := rfl
theorem q_xo (n h sz a len : Nat) : expo c H (n + 1) (.own h sz a len) = xoP c H n (H[h]?) sz a len := by simp only [expo, xoP]; cases H[h]? with | none => rfl | some b => cases b <;> rfl
theorem q_xo1 (n T sz sz' a len : Nat) (es : List (List PV)) : xoP c H n (some (.rows T sz' es)) sz a len = (bif decide (sz' = sz) && decide (a + len ≤ es.length) then c sz (((es.drop a).take len).map fun e => e.map (expo c H n)) else .undef) := by by_cases h1 : sz' = sz <;> by_cases h2 : a + len ≤ es.length <;> simp [xoP, h1, h2]
theorem q_xo2 (n sz a len : Nat) : xoP c H n (some .dead) sz a len = .undef := rfl
theorem q_xm (n h : Nat) : expo c H (n + 1) (.mp h) = .undef := rfl
theorem q_xc (n : Nat) (f : FuncId) (cs : List PV) : expo c H (n + 1) (.clo f cs) = .clo f (cs.map (expo c H n)) := by simp [expo]
theorem q_kp1 (n : Int) : keyP false (.int .i64 n) = some [n] := rfl
theorem q_kp2 (a b : Int) : keyP true (.agg [.int .i64 a, .int .i64 b]) = some [a, b] := rfl
theorem q_me (z v : PV) (l : List Int) (es : ME) : mset (mpos l es) v (ment z l es) = mput l v es := mset_ment z v l es
theorem q_mp (z : PV) (l : List Int) (es : ME) : (mpos l es < (ment z l es).length) = True := by simp [mpos_ment z l es]
theorem q_bd1 (fs : List (Nat × Nat × Bool)) (cs : List PV) (i : Nat) (p : PV) (r : List (Nat × PV)) : buildP fs cs ((i, p) :: r) = bdC fs cs p r (fs[i]?) := by simp only [buildP, bdC]; split <;> simp_all
theorem q_bd2 (fs : List (Nat × Nat × Bool)) (cs : List PV) (p : PV) (r : List (Nat × PV)) (o s : Nat) (a : Bool) : bdC fs cs p r (some (o, s, a)) = bif (decide ((cellsP p).length = s) && (decide (o + s ≤ cs.length) && (cellsP p).all cellB)) then buildP fs (splice cs o (cellsP p)) r else none := by simp only [bdC]; by_cases h1 : (cellsP p).length = s <;> by_cases h2 : o + s ≤ cs.length <;> cases h3 : (cellsP p).all cellB <;> simp [h1, h2]
theorem q_bt {α : Type} (a b : α) : (bif true then a else b) = a := rfl
theorem q_bf {α : Type} (a b : α) : (bif false then a else b) = b := rfl
theorem q_end1 : endT [] = [] := rfl
theorem q_end2 (t : Nat) (p : PV) (r : TEnv) : endT ((t, [], p) :: r) = (t, [], p) :: endT r := rfl
theorem q_end3 (t : Nat) (x : Nat × Bool) (c : Cond) (p : PV) (r : TEnv) : endT ((t, x :: c, p) :: r) = (t, [], .undef) :: endT r := rfl
theorem q_put (d : Nat) (c : Cond) (p : PV) : putT T (some d) c p = (d, c, p) :: T := rfl
theorem q_put0 (c : Cond) (p : PV) : putT T none c p = T := rfl
theorem q_arg0 (k : Nat) : argT k [] = [] := rfl
theorem q_arg1 (k : Nat) (p : PV) (r : List PV) : argT k (p :: r) = (k, [], p) :: argT (k + 1) r := rfl
theorem q_gd (c : Cond) (x : Bool) (t : Nat) (b : Bool) (o : Op) (d : Option Tmp) (rest : List POp) (K : TEnv → Heap → Prop) : vcGd P φ ⟨true, c, .bool x⟩ t b o d T H rest K = vcGo P φ (vStep P φ o T ((t, b) :: c) H) d ((t, b) :: c) T rest K := rfl
theorem q_hg (c : Cond) (x : Bool) (t : Nat) (b : Bool) (o : Op) (d : Option Tmp) (rest : List POp) (K : List POp → TEnv → Heap → Prop) : vcHg P φ ⟨true, c, .bool x⟩ t b o d T X H rest K = vcHq P φ (vStep P φ o T ((t, b) :: c) H) d ((t, b) :: c) T X H rest K := rfl
theorem q_okC (b : Bool) (l : Cond) (p : PV) (c : Cond) : okC ⟨b, l, p⟩ c = (b && subC l c) := rfl
theorem q_sub0 (c : Cond) : subC [] c = true := rfl
theorem q_sub1 (s : Nat) (b : Bool) (r c : Cond) : subC ((s, b) :: r) c = (memC s b c && subC r c) := rfl
theorem q_mem0 (s : Nat) (b : Bool) : memC s b [] = false := rfl
theorem q_mem1 (s s' : Nat) (b b' : Bool) (r : Cond) : memC s b ((s', b') :: r) = (decide (s = s') && b == b' || memC s b r) := by simp only [memC]; congr 2
theorem q_hol0 : holds T [] = true := rfl
theorem q_hol1 (s : Nat) (r : Cond) : holds T ((s, true) :: r) = (boolP (tg T s).p && holds T r) := by simp [holds]
theorem q_hol2 (s : Nat) (r : Cond) : holds T ((s, false) :: r) = (!boolP (tg T s).p && holds T r) := by simp [holds]
theorem q_bool (b : Bool) : boolP (.bool b) = b := rfl
theorem q_isB (b : Bool) : isB (.bool b) = true := rfl
theorem q_pick (t : Nat) (c : Cond) (a b : Operand) : rPick T c (.tmp t) a b H = ⟨(okC (tg T t) c && isB (tg T t).p && okC (opv T a) ((t, true) :: c) && okC (opv T b) ((t, false) :: c)) = true, pickP (boolP (tg T t).p) (opv T a).p (opv T b).p, H⟩ := rfl
theorem q_ag0 (c : Cond) : argsOk T c [] = true := rfl
theorem q_ag1 (c : Cond) (x : Operand) (r : List Operand) : argsOk T c (x :: r) = (okC (opv T x) c && argsOk T c r) := rfl
theorem q_ap0 : argsP T [] = [] := rfl
theorem q_ap1 (x : Operand) (r : List Operand) : argsP T (x :: r) = (opv T x).p :: argsP T r := rfl
theorem q_okP (b : Bool) (p : PV) : okP ⟨b, [], p⟩ = b := rfl
theorem q_tvp (b : Bool) (c : Cond) (p : PV) : (TV.mk b c p).p = p := rfl
theorem q_rs0 : vcRes P T H [] = (True, []) := rfl
theorem q_rs1 (t : Tmp) (r : List ResultVar) : vcRes P T H (.tmp t :: r) = (okP (tg T t) = true ∧ (vcRes P T H r).1, (tg T t).p :: (vcRes P T H r).2) := rfl
theorem q_rs2 (t : Tmp) (ty : TypeId) (r : List ResultVar) : vcRes P T H (.cell t ty :: r) = (okP (tg T t) = true ∧ (rCell P ty (tg T t).p H).1 ∧ (vcRes P T H r).1, (rCell P ty (tg T t).p H).2 :: (vcRes P T H r).2) := rfl
theorem q_en (rs : List ResultVar) (r : PV) : endC P c rs r .normal T H = ((vcRes P T H rs).1 ∧ Le (expo c H 8 (packP (vcRes P T H rs).2)) r) := rfl
theorem q_er (rs : List ResultVar) (r : PV) : endC P c rs r .ret T H = ((vcRes P T H rs).1 ∧ Le (expo c H 8 (packP (vcRes P T H rs).2)) r) := rfl
theorem q_pk1 (p : PV) : packP [p] = p := rfl
theorem q_pk2 (p q : PV) (r : List PV) : packP (p :: q :: r) = .tup (p :: q :: r) := rfl
theorem q_xi (n : Nat) (k : IntKind) (i : Int) : expo c H (n + 1) (.int k i) = .int k i := rfl
theorem q_xb (n : Nat) (b : Bool) : expo c H (n + 1) (.bool b) = .bool b := rfl
theorem q_xs (n : Nat) (s : ByteArray) : expo c H (n + 1) (.str s) = .str s := rfl
theorem q_xn (n : Nat) : expo c H (n + 1) .nil = .nil := rfl
theorem q_xl (n sz : Nat) (es : List (List PV)) : expo c H (n + 1) (.sl sz es) = .sl sz es := rfl
theorem q_xf (n sz : Nat) (es : List (List PV)) : expo c H (n + 1) (.fs sz es) = .fs sz es := rfl
theorem q_xr (n : Nat) (cs : List PV) : expo c H (n + 1) (.ref cs) = .ref cs := rfl
theorem q_xa (n : Nat) (cs : List PV) : expo c H (n + 1) (.agg cs) = .agg (cs.map (expo c H n)) := by simp [expo]
theorem q_xt (n : Nat) (cs : List PV) : expo c H (n + 1) (.tup cs) = .tup (cs.map (expo c H n)) := by simp [expo]
theorem q_hfi (k : IntKind) (n : Int) : hf (.int k n) = true := rfl
theorem q_hfb (b : Bool) : hf (.bool b) = true := rfl
theorem q_hfs (s : ByteArray) : hf (.str s) = true := rfl
theorem q_hfa (cs : List PV) : hf (.agg cs) = hfL cs := by simp [hf]
theorem q_hft (cs : List PV) : hf (.tup cs) = hfL cs := by simp [hf]
theorem q_hf0 : hfL [] = true := by simp [hfL]
theorem q_hf1 (p : PV) (r : List PV) : hfL (p :: r) = (hf p && hfL r) := by simp [hfL]
theorem q_sci (k : IntKind) (n : Int) : scal (.int k n) = true := rfl
theorem q_scb (b : Bool) : scal (.bool b) = true := rfl
theorem q_scs (s : ByteArray) : scal (.str s) = true := rfl
theorem q_sca (cs : List PV) : scal (.agg cs) = scalL cs := by simp [scal]
theorem q_sct (cs : List PV) : scal (.tup cs) = scalL cs := by simp [scal]
theorem q_sc0 : scalL [] = true := by simp [scalL]
theorem q_sc1 (p : PV) (r : List PV) : scalL (p :: r) = (scal p && scalL r) := by simp [scalL]
theorem q_hfl (sz : Nat) (es : List (List PV)) : hf (.sl sz es) = true := rfl
theorem q_hfr (cs : List PV) : hf (.ref cs) = true := rfl
theorem q_hfn : hf .nil = true := rfl
theorem q_hfo (h sz a len : Nat) : hf (.own h sz a len) = false := rfl
theorem q_hfp (h sz i off : Nat) : hf (.ptr h sz i off) = false := rfl
theorem q_cla (cs : List PV) : cellsP (.agg cs) = cs := rfl
theorem q_cli (k : IntKind) (n : Int) : cellsP (.int k n) = [.int k n] := rfl
theorem q_cbi (k : IntKind) (n : Int) : cellB (.int k n) = true := rfl
theorem q_clb (b : Bool) : cellsP (.bool b) = [.bool b] := rfl
theorem q_cbb (b : Bool) : cellB (.bool b) = true := rfl
theorem q_cls (s : ByteArray) : cellsP (.str s) = [.str s] := rfl
theorem q_cbs (s : ByteArray) : cellB (.str s) = true := rfl
theorem q_cll (sz : Nat) (es : List (List PV)) : cellsP (.sl sz es) = [.sl sz es] := rfl
theorem q_cbl (sz : Nat) (es : List (List PV)) : cellB (.sl sz es) = true := rfl
theorem q_clo (h sz a len : Nat) : cellsP (.own h sz a len) = [.own h sz a len] := rfl
theorem q_cbo (h sz a len : Nat) : cellB (.own h sz a len) = true := rfl
theorem q_clp (h sz i off : Nat) : cellsP (.ptr h sz i off) = [.ptr h sz i off] := rfl
theorem q_cbp (h sz i off : Nat) : cellB (.ptr h sz i off) = true := rfl
theorem q_cln : cellsP (.nil) = [.nil] := rfl
theorem q_cbn : cellB (.nil) = true := rfl
theorem q_clm (h : Nat) : cellsP (.mp h) = [.mp h] := rfl
theorem q_cbm (h : Nat) : cellB (.mp h) = true := rfl
theorem q_val (sz : Nat) (z : List PV) (by_ : Nat) (k : Kn) (cs : List PV) : valP ⟨sz, true, z, by_, k⟩ cs = .agg (cs.take sz) := rfl
theorem q_val2 (sz : Nat) (z : List PV) (by_ : Nat) (k : Kn) (cs : List PV) : valP ⟨sz, false, z, by_, k⟩ cs = cs.getD 0 .undef := rfl
theorem q_ar0 (k : IntKind) (a b : Int) : arithP .lss k a b = some (.bool (decide (a < b))) := rfl
theorem q_ar1 (k : IntKind) (a b : Int) : arithP .leq k a b = some (.bool (decide (a ≤ b))) := rfl
theorem q_ar2 (k : IntKind) (a b : Int) : arithP .gtr k a b = some (.bool (decide (a > b))) := rfl
theorem q_ar3 (k : IntKind) (a b : Int) : arithP .geq k a b = some (.bool (decide (a ≥ b))) := rfl
theorem q_are (k : IntKind) (a b : Int) : arithP .eql k a b = some (.bool (decide (a = b))) := rfl
theorem q_arn (k : IntKind) (a b : Int) : arithP .neq k a b = some (.bool (!decide (a = b))) := rfl
theorem q_arp (k : IntKind) (a b : Int) : arithP .add k a b = some (.int k (k.wrap (a + b))) := rfl
theorem q_arm (k : IntKind) (a b : Int) : arithP .sub k a b = some (.int k (k.wrap (a - b))) := rfl
theorem q_art (k : IntKind) (a b : Int) : arithP .mul k a b = some (.int k (k.wrap (a * b))) := rfl
theorem q_sse (a b : ByteArray) : strP .eql a b = some (.bool (eqS a b)) := rfl
theorem q_ssn (a b : ByteArray) : strP .neq a b = some (.bool (!eqS a b)) := rfl
theorem q_c1 (a b : Bool) : (bif a then b else false) = (a && b) := by cases a <;> rfl
theorem q_c2 (a b : Bool) : (bif a then true else b) = (a || b) := by cases a <;> rfl
theorem q_w (k : IntKind) : divB .quo = true := rfl
theorem q_bin1 (op : BinOp) (t : TypeId) (c : Bool) (cs : List PV) (y : PV) : rBinOp P op t c (.agg cs) y H = rEqAgg P op t (.agg cs) y H := rfl
theorem q_bin2 (op : BinOp) (t : TypeId) (c : Bool) (k : IntKind) (n : Int) (y : PV) : rBinOp P op t c (.int k n) y H = rBin P op t c (.int k n) y H := rfl
theorem q_bin3 (op : BinOp) (t : TypeId) (c : Bool) (b : Bool) (y : PV) : rBinOp P op t c (.bool b) y H = rBin P op t c (.bool b) y H := rfl
theorem q_bin4 (op : BinOp) (t : TypeId) (c : Bool) (s : ByteArray) (y : PV) : rBinOp P op t c (.str s) y H = rBin P op t c (.str s) y H := rfl
theorem q_bi_lss (t : TypeId) (c : Bool) (k k' : IntKind) (a b : Int) : rBin P .lss t c (.int k a) (.int k' b) H = ⟨k = k', (arithP .lss k a b).getD .undef, H⟩ := by simp [rBin, arithP, divB]
theorem q_bi_leq (t : TypeId) (c : Bool) (k k' : IntKind) (a b : Int) : rBin P .leq t c (.int k a) (.int k' b) H = ⟨k = k', (arithP .leq k a b).getD .undef, H⟩ := by simp [rBin, arithP, divB]
theorem q_bi_gtr (t : TypeId) (c : Bool) (k k' : IntKind) (a b : Int) : rBin P .gtr t c (.int k a) (.int k' b) H = ⟨k = k', (arithP .gtr k a b).getD .undef, H⟩ := by simp [rBin, arithP, divB]
theorem q_bi_geq (t : TypeId) (c : Bool) (k k' : IntKind) (a b : Int) : rBin P .geq t c (.int k a) (.int k' b) H = ⟨k = k', (arithP .geq k a b).getD .undef, H⟩ := by simp [rBin, arithP, divB]
theorem q_bi_eql (t : TypeId) (c : Bool) (k k' : IntKind) (a b : Int) : rBin P .eql t c (.int k a) (.int k' b) H = ⟨k = k', (arithP .eql k a b).getD .undef, H⟩ := by simp [rBin, arithP, divB]
theorem q_bi_neq (t : TypeId) (c : Bool) (k k' : IntKind) (a b : Int) : rBin P .neq t c (.int k a) (.int k' b) H = ⟨k = k', (arithP .neq k a b).getD .undef, H⟩ := by simp [rBin, arithP, divB]
theorem q_bi_add (t : TypeId) (c : Bool) (k k' : IntKind) (a b : Int) : rBin P .add t c (.int k a) (.int k' b) H = ⟨k = k', (arithP .add k a b).getD .undef, H⟩ := by simp [rBin, arithP, divB]
theorem q_bi_sub (t : TypeId) (c : Bool) (k k' : IntKind) (a b : Int) : rBin P .sub t c (.int k a) (.int k' b) H = ⟨k = k', (arithP .sub k a b).getD .undef, H⟩ := by simp [rBin, arithP, divB]
theorem q_bi_mul (t : TypeId) (c : Bool) (k k' : IntKind) (a b : Int) : rBin P .mul t c (.int k a) (.int k' b) H = ⟨k = k', (arithP .mul k a b).getD .undef, H⟩ := by simp [rBin, arithP, divB]
theorem q_ssg (a b : ByteArray) : strP .geq a b = some (.bool (!ltS a b)) := rfl
theorem q_bs_eql (t : TypeId) (c : Bool) (a b : ByteArray) : rBin P .eql t c (.str a) (.str b) H = ⟨True, (strP .eql a b).getD .undef, H⟩ := by simp [rBin, strP]
theorem q_bs_neq (t : TypeId) (c : Bool) (a b : ByteArray) : rBin P .neq t c (.str a) (.str b) H = ⟨True, (strP .neq a b).getD .undef, H⟩ := by simp [rBin, strP]
theorem q_bs_geq (t : TypeId) (c : Bool) (a b : ByteArray) : rBin P .geq t c (.str a) (.str b) H = ⟨True, (strP .geq a b).getD .undef, H⟩ := by simp [rBin, strP]
theorem q_phi (g : FuncId) (r : List PV → PV) (l : List (FuncId × (List PV → PV))) (f : FuncId) (a : List PV) : phiOf ((g, r) :: l) f a = if g = f then r a else phiOf l f a := rfl
theorem q_spl (l vs : List PV) (off : Nat) : splice l off vs = l.take off ++ vs ++ l.drop (off + vs.length) := rfl
theorem q_eqa (t : TypeId) (xs ys : List PV) : rEqAgg P .eql t (.agg xs) (.agg ys) H = ⟨EqOk P t xs ys (eqCells xs ys), .bool (eqCells xs ys), H⟩ := rfl
theorem q_eqn (t : TypeId) (xs ys : List PV) : rEqAgg P .neq t (.agg xs) (.agg ys) H = ⟨EqOk P t xs ys (eqCells xs ys), .bool (!(eqCells xs ys)), H⟩ := rfl
theorem q_ec0 : eqCells [] [] = true := rfl
theorem q_eci (k k' : IntKind) (a b : Int) (r s : List PV) : eqCells (.int k a :: r) (.int k' b :: s) = ((a == b) && eqCells r s) := rfl
theorem q_ecb (a b : Bool) (r s : List PV) : eqCells (.bool a :: r) (.bool b :: s) = ((a == b) && eqCells r s) := rfl
theorem q_ecs (a b : ByteArray) (r s : List PV) : eqCells (.str a :: r) (.str b :: s) = (eqS a b && eqCells r s) := rfl
theorem q_bd0 (fs : List (Nat × Nat × Bool)) (cs : List PV) : buildP fs cs [] = some cs := rfl
theorem q_bz (t : TypeId) (H : Heap) : rBuild P t [] [] H = (match mkTy P t with | some ⟨_, _, z, _, .struct fs⟩ => ⟨(fs.all fun f => f.2.1 != 0) = true, .agg z, H⟩ | some ⟨_, _, z, _, .array n e⟩ => rBuildA P n e z [] [] H | _ => noRes H) := by unfold rBuild; cases h : mkTy P t with | none => rfl | some r => cases r with | mk a b c d k => cases k <;> rfl
theorem q_z1 (T : TypeId) (a : List PV) (l : List (List PV)) : getZ P T (a :: l) 0 = a := rfl
theorem q_z2 (T : TypeId) (a b : List PV) (l : List (List PV)) : getZ P T (a :: b :: l) 1 = b := rfl
theorem q_z3 {α : Type} (T : TypeId) (f : α → List PV) (l : List α) (i : Nat) : getZ P T (l.map f) i = (l.map f).getD i (zr P T) := rfl
theorem q_zr (T : TypeId) : zr P T = zrm (mkTy P T) := rfl
theorem q_zm (a b : Nat) (c : Bool) (z : List PV) (k : Kn) : zrm (some ⟨a, c, z, b, k⟩) = z := rfl
theorem q_gso {α : Type} (a b : α) : (some a).getD b = a := rfl
theorem q_wf0 : wfL [] = True := by simp [wfL]
theorem q_wf1 (p : PV) (r : List PV) : wfL (p :: r) = (wf p ∧ wfL r) := by simp [wfL]
theorem q_wfa (cs : List PV) : wf (.agg cs) = wfL cs := by simp [wf]
theorem q_wfr (cs : List PV) : wf (.ref cs) = wfL cs := by simp [wf]
theorem q_wft (cs : List PV) : wf (.tup cs) = wfL cs := by simp [wf]
theorem q_wfs (s : ByteArray) : wf (.str s) = (s.size ≤ 140737488355328) := by simp [wf, lenMax]
theorem q_wfm {α : Type} (sz : Nat) (f : α → List PV) (xs : List α) : wf (.sl sz (xs.map f)) = (xs.length ≤ 140737488355328 ∧ ∀ x, x ∈ xs → wfL (f x)) := by simp only [wf, List.length_map, wfE_map, lenMax]
theorem q_wfi (k : IntKind) (n : Int) : wf (.int k n) = True := by simp [wf]
theorem q_wfb (b : Bool) : wf (.bool b) = True := by simp [wf]
end
theorem s_m1 {α β : Type} (f : α → β) (a : α) (l : List α) : (a :: l).map f = f a :: l.map f := rfl
theorem s_m0 {α β : Type} (f : α → β) : ([] : List α).map f = [] := rfl
theorem s_l1 {α : Type} (a : α) (l : List α) : (a :: l).length = l.length + 1 := rfl
theorem s_l0 {α : Type} : ([] : List α).length = 0 := rfl
theorem s_lm {α β : Type} (f : α → β) (l : List α) : (l.map f).length = l.length := by simp
theorem s_a1 {α : Type} (p : α → Bool) (a : α) (l : List α) : (a :: l).all p = (p a && l.all p) := rfl
theorem s_a0 {α : Type} (p : α → Bool) : ([] : List α).all p = true := rfl
theorem s_p0 {α : Type} (l : List α) : [] ++ l = l := rfl
theorem s_p2 {α : Type} (l : List α) : l ++ [] = l := by simp
theorem s_p1 {α : Type} (a : α) (l r : List α) : (a :: l) ++ r = a :: (l ++ r) := rfl
theorem s_t1 {α : Type} (a : α) (l : List α) (n : Nat) : (a :: l).take (n + 1) = a :: l.take n := rfl
theorem s_t0 {α : Type} (l : List α) : l.take 0 = [] := rfl
theorem s_tn {α : Type} (n : Nat) : ([] : List α).take n = [] := by simp
theorem s_d1 {α : Type} (a : α) (l : List α) (n : Nat) : (a :: l).drop (n + 1) = l.drop n := rfl
theorem s_d0 {α : Type} (l : List α) : l.drop 0 = l := rfl
theorem s_dn {α : Type} (n : Nat) : ([] : List α).drop n = [] := by simp
theorem s_g0 {α : Type} (a : α) (l : List α) (d : α) : (a :: l).getD 0 d = a := rfl
theorem s_g1 {α : Type} (a : α) (l : List α) (n : Nat) (d : α) : (a :: l).getD (n + 1) d = l.getD n d := by simp
theorem s_e0 {α : Type} (a : α) (l : List α) : (a :: l)[0]? = some a := rfl
theorem s_e1 {α : Type} (a : α) (l : List α) (n : Nat) : (a :: l)[n + 1]? = l[n]? := by simp
theorem s_et {α : Type} (l : List α) (n : Nat) : l.toArray[n]? = l[n]? := by simp
theorem s_x0 {α : Type} (a b : α) (l : List α) : (a :: l).set 0 b = b :: l := rfl
theorem s_x1 {α : Type} (a b : α) (l : List α) (n : Nat) : (a :: l).set (n + 1) b = a :: l.set n b := rfl
theorem s_ob {α β : Type} (a : α) (f : α → Option β) : (some a).bind f = f a := rfl
theorem s_bq {α : Type} [BEq α] [LawfulBEq α] (a : α) : (a == a) = true := by simp
theorem s_im (p : Prop) : (p → True) = True := by simp
theorem s_i2 (p : Prop) : (False → p) = True := by simp
theorem s_i3 (p : Prop) : (True → p) = p := by simp
theorem s_ft : (false = true) = False := by simp
theorem s_tf : (true = false) = False := by simp
theorem s_ne {α : Type} (a b : α) : (a ≠ b) = ¬ a = b := rfl
theorem s_nf : (¬ False) = True := by simp
theorem s_nt : (¬ True) = False := by simp
theorem s_oi {α : Type} (a b : α) : (some a = some b) = (a = b) := by simp
theorem s_lu {α : Type} (p : α → Prop) (a : α) : (∃ x, a = x ∧ p x) = p a := by simp
theorem s_10 : ((1 : Nat) != 0) = true := rfl
theorem s_nn (b : Bool) : (!!b) = b := by simp
theorem s_lt : (0 < 1) = True := by simp
theorem s_mt {α : Type} (xs : List α) : (∀ x, x ∈ xs → True) = True := by simp
theorem s_z1 {α β : Type} (a : α) (b : β) (l : List α) (r : List β) : (a :: l).zip (b :: r) = (a, b) :: l.zip r := rfl
theorem s_z0 {α β : Type} (r : List β) : ([] : List α).zip r = [] := rfl
theorem s_eq {α : Type} (a : α) : (a = a) = True := by simp
def pvAll := And.intro @q_skip (And.intro @q_seq (And.intro @q_cond (And.intro @q_block (And.intro @q_loop (And.intro @q_exit (And.intro @q_ret (And.intro @q_thn (And.intro @q_thx (And.intro @q_thr (And.intro @q_bln (And.intro @q_blx (And.intro @q_blr (And.intro @q_if (And.intro @q_rox (And.intro @q_ror (And.intro @q_ron (And.intro @q_sox (And.intro @q_sor (And.intro @q_son (And.intro @q_lv0 (And.intro @q_lv1 (And.intro @q_lv2 (And.intro @q_mk0 (And.intro @q_mk1 (And.intro @q_hb0 (And.intro @q_hb1 (And.intro @q_hbi (And.intro @q_hbb (And.intro @q_hbs (And.intro @q_hbl (And.intro @q_hbr (And.intro @q_hbn (And.intro @q_hbu (And.intro @q_hbp (And.intro @q_hbo (And.intro @q_hba (And.intro @q_hbt (And.intro @q_hbk (And.intro @q_hbd (And.intro @q_hbM (And.intro @q_hbI (And.intro @q_hbS (And.intro @q_nx1 (And.intro @q_nx2 (And.intro @q_hbm (And.intro @q_hbc (And.intro @q_hfm (And.intro @q_hfc (And.intro @q_xp (And.intro @q_xp1 (And.intro @q_xp2 (And.intro @q_xo (And.intro @q_xo1 (And.intro @q_xo2 (And.intro @q_xm (And.intro @q_xc (And.intro @q_kp1 (And.intro @q_kp2 (And.intro @q_me (And.intro @q_mp (And.intro @q_bd1 (And.intro @q_bd2 (And.intro @q_bt (And.intro @q_bf (And.intro @q_end1 (And.intro @q_end2 (And.intro @q_end3 (And.intro @q_put (And.intro @q_put0 (And.intro @q_arg0 (And.intro @q_arg1 (And.intro @q_gd (And.intro @q_hg (And.intro @q_okC (And.intro @q_sub0 (And.intro @q_sub1 (And.intro @q_mem0 (And.intro @q_mem1 (And.intro @q_hol0 (And.intro @q_hol1 (And.intro @q_hol2 (And.intro @q_bool (And.intro @q_isB (And.intro @q_pick (And.intro @q_ag0 (And.intro @q_ag1 (And.intro @q_ap0 (And.intro @q_ap1 (And.intro @q_okP (And.intro @q_tvp (And.intro @q_rs0 (And.intro @q_rs1 (And.intro @q_rs2 (And.intro @q_en (And.intro @q_er (And.intro @q_pk1 (And.intro @q_pk2 (And.intro @q_xi (And.intro @q_xb (And.intro @q_xs (And.intro @q_xn (And.intro @q_xl (And.intro @q_xf (And.intro @q_xr (And.intro @q_xa (And.intro @q_xt (And.intro @q_hfi (And.intro @q_hfb (And.intro @q_hfs (And.intro @q_hfa (And.intro @q_hft (And.intro @q_hf0 (And.intro @q_hf1 (And.intro @q_sci (And.intro @q_scb (And.intro @q_scs (And.intro @q_sca (And.intro @q_sct (And.intro @q_sc0 (And.intro @q_sc1 (And.intro @q_hfl (And.intro @q_hfr (And.intro @q_hfn (And.intro @q_hfo (And.intro @q_hfp (And.intro @q_cla (And.intro @q_cli (And.intro @q_cbi (And.intro @q_clb (And.intro @q_cbb (And.intro @q_cls (And.intro @q_cbs (And.intro @q_cll (And.intro @q_cbl (And.intro @q_clo (And.intro @q_cbo (And.intro @q_clp (And.intro @q_cbp (And.intro @q_cln (And.intro @q_cbn (And.intro @q_clm (And.intro @q_cbm (And.intro @q_val (And.intro @q_val2 (And.intro @q_ar0 (And.intro @q_ar1 (And.intro @q_ar2 (And.intro @q_ar3 (And.intro @q_are (And.intro @q_arn (And.intro @q_arp (And.intro @q_arm (And.intro @q_art (And.intro @q_sse (And.intro @q_ssn (And.intro @q_c1 (And.intro @q_c2 (And.intro @q_w (And.intro @q_bin1 (And.intro @q_bin2 (And.intro @q_bin3 (And.intro @q_bin4 (And.intro @q_bi_lss (And.intro @q_bi_leq (And.intro @q_bi_gtr (And.intro @q_bi_geq (And.intro @q_bi_eql (And.intro @q_bi_neq (And.intro @q_bi_add (And.intro @q_bi_sub (And.intro @q_bi_mul (And.intro @q_ssg (And.intro @q_bs_eql (And.intro @q_bs_neq (And.intro @q_bs_geq (And.intro @q_phi (And.intro @q_spl (And.intro @q_eqa (And.intro @q_eqn (And.intro @q_ec0 (And.intro @q_eci (And.intro @q_ecb (And.intro @q_ecs (And.intro @q_bd0 (And.intro @q_bz (And.intro @q_z1 (And.intro @q_z2 (And.intro @q_z3 (And.intro @q_zr (And.intro @q_zm (And.intro @q_gso (And.intro @q_wf0 (And.intro @q_wf1 (And.intro @q_wfa (And.intro @q_wfr (And.intro @q_wft (And.intro @q_wfs (And.intro @q_wfm (And.intro @q_wfi (And.intro @q_wfb (And.intro @vcReg_nil (And.intro @vcReg_cons (And.intro @vs_makeMap (And.intro @vs_lookup (And.intro @vs_mapEntry (And.intro @vs_entryStore (And.intro @vs_mapUpdate (And.intro @vs_insert (And.intro @vs_range (And.intro @vs_entry (And.intro @kd_makeMap (And.intro @kd_lookup (And.intro @kd_mapEntry (And.intro @kd_entryStore (And.intro @kd_mapUpdate (And.intro @kd_insert (And.intro @kd_range (And.intro @kd_entry (And.intro @nb_move (And.intro @nb_assign (And.intro @nb_pick (And.intro @nb_alloc (And.intro @nb_box (And.intro @nb_load (And.intro @nb_store (And.intro @nb_binOp (And.intro @nb_unOp (And.intro @nb_fieldAddr (And.intro @nb_field (And.intro @nb_indexAddr (And.intro @nb_index (And.intro @nb_extract (And.intro @nb_makeSlice (And.intro @nb_buildSlice (And.intro @nb_build (And.intro @nb_makeFunc (And.intro @nb_slice (And.intro @nb_call (And.intro @nb_makeMap (And.intro @nb_lookup (And.intro @nb_mapEntry (And.intro @nb_entryStore (And.intro @nb_mapUpdate (And.intro @nb_insert (And.intro @nb_range (And.intro @nb_entry (And.intro @nb_next (And.intro @nx_next (And.intro @vc_region (And.intro @vc_draw (And.intro @vcOps_nil (And.intro @vcOps_cons (And.intro @vcOps_guard (And.intro @vcGo_mk (And.intro @opv_tmp (And.intro @opv_int (And.intro @opv_bool (And.intro @opv_str (And.intro @opv_nil (And.intro @opv_func (And.intro @tg_cons (And.intro @pickP_bool (And.intro @vs_move (And.intro @vs_assign (And.intro @vs_pick (And.intro @vs_alloc (And.intro @vs_box (And.intro @vs_load (And.intro @vs_store (And.intro @vs_binOp (And.intro @vs_not (And.intro @vs_neg (And.intro @vs_fieldAddr (And.intro @vs_field (And.intro @vs_indexAddr (And.intro @vs_index (And.intro @vs_extract (And.intro @vs_makeSlice (And.intro @vs_buildSlice (And.intro @vs_build (And.intro @vs_makeFunc (And.intro @vs_slice (And.intro @vs_len (And.intro @vs_append (And.intro @vs_call (And.intro @withOk_mk (And.intro @vcDraw_eq (And.intro @vcHead_nil (And.intro @vcHead_cons (And.intro @vcHk_n (And.intro @vcHk_q (And.intro @vcHk_g (And.intro @vcHk_t (And.intro @tailC_eq (And.intro @vcHq_mk (And.intro @vcHn_mk (And.intro @kd_move (And.intro @kd_assign (And.intro @kd_pick (And.intro @kd_alloc (And.intro @kd_box (And.intro @kd_load (And.intro @kd_store (And.intro @kd_binOp (And.intro @kd_unOp (And.intro @kd_fieldAddr (And.intro @kd_field (And.intro @kd_indexAddr (And.intro @kd_index (And.intro @kd_extract (And.intro @kd_makeSlice (And.intro @kd_buildSlice (And.intro @kd_build (And.intro @kd_makeFunc (And.intro @kd_slice (And.intro @kd_call (And.intro @kd_len (And.intro @kd_append (And.intro @vcDr_eq (And.intro @vcDk_t (And.intro @vcDk_f (And.intro @vcDl_t (And.intro @vcDl_f (And.intro @isL_nil (And.intro @isL_cons (And.intro @anyHd_nil (And.intro @anyHd_cons (And.intro @ilK_e (And.intro @ilK_q (And.intro @ilK_n (And.intro @ilK_t (And.intro @ahK_e (And.intro @ahK_q (And.intro @ahK_n (And.intro @ahK_t (And.intro @ilA_t (And.intro @ilA_f (And.intro @ap_append (And.intro @ap_box (And.intro @ap_store (And.intro @ap_makeMap (And.intro @ap_entryStore (And.intro @ap_mapUpdate (And.intro @ap_insert (And.intro @ap_range (And.intro @isE_nil (And.intro @isE_cons (And.intro @isK_e (And.intro @isK_q (And.intro @isK_n (And.intro @isK_t (And.intro @ordE_eq (And.intro @hdL_nil (And.intro @tlL_nil (And.intro @hdL_cons (And.intro @tlL_cons (And.intro @hdK_e (And.intro @hdK_q (And.intro @hdK_n (And.intro @hdK_t (And.intro @tlK_e (And.intro @tlK_q (And.intro @tlK_n (And.intro @tlK_t (And.intro @vcEnt_eq (And.intro @vcE_nil (And.intro @vcE_cons (And.intro @vcEe_mk (And.intro @vcEq_mk (And.intro @vcEn_mk (And.intro @vcEk_e (And.intro @vcEk_q (And.intro @vcEk_n (And.intro @vcEk_t (And.intro @enQ_mk (And.intro @enN_mk (And.intro @entR_cons (And.intro @enK_e (And.intro @enK_q (And.intro @enK_n (And.intro @hfB_al (And.intro @hfB_mk (And.intro @hfB_bs (And.intro @hfC_nil (And.intro @hfC_cons (And.intro @hfL_nil (And.intro @hfL_cons (And.intro @mget_ment (And.intro @mset_ment (And.intro @ke_move (And.intro @ke_assign (And.intro @ke_pick (And.intro @ke_alloc (And.intro @ke_box (And.intro @ke_load (And.intro @ke_store (And.intro @ke_binOp (And.intro @ke_unOp (And.intro @ke_fieldAddr (And.intro @ke_field (And.intro @ke_indexAddr (And.intro @ke_index (And.intro @ke_extract (And.intro @ke_makeSlice (And.intro @ke_buildSlice (And.intro @ke_build (And.intro @ke_makeFunc (And.intro @ke_slice (And.intro @ke_call (And.intro @ke_len (And.intro @ke_append (And.intro @ke_makeMap (And.intro @ke_lookup (And.intro @ke_mapEntry (And.intro @ke_entryStore (And.intro @ke_mapUpdate (And.intro @ke_insert (And.intro @ke_range @ke_entry))))))))))))))))))))))))))))))))))))))))))))))))))))))))))))))))))))))))))))))))))))))))))))))))))))))))))))))))))))))))))))))))))))))))))))))))))))))))))))))))))))))))))))))))))))))))))))))))))))))))))))))))))))))))))))))))))))))))))))))))))))))))))))))))))))))))))))))))))))))))))))))))))))))))))))))))))))))))))))))))))))))))))))))))))))))))))))))))))))))))))))))))))))))))))))))))))))))))))))))))))))))))))))))))))
def pvStd := And.intro @s_m1 (And.intro @s_m0 (And.intro @s_l1 (And.intro @s_l0 (And.intro @s_lm (And.intro @s_a1 (And.intro @s_a0 (And.intro @s_p0 (And.intro @s_p2 (And.intro @s_p1 (And.intro @s_t1 (And.intro @s_t0 (And.intro @s_tn (And.intro @s_d1 (And.intro @s_d0 (And.intro @s_dn (And.intro @s_g0 (And.intro @s_g1 (And.intro @s_e0 (And.intro @s_e1 (And.intro @s_et (And.intro @s_x0 (And.intro @s_x1 (And.intro @s_ob (And.intro @s_bq (And.intro @s_im (And.intro @s_i2 (And.intro @s_i3 (And.intro @s_ft (And.intro @s_tf (And.intro @s_ne (And.intro @s_nf (And.intro @s_nt (And.intro @s_oi (And.intro @s_lu (And.intro @s_10 (And.intro @s_nn (And.intro @s_lt (And.intro @s_mt (And.intro @s_z1 (And.intro @s_z0 (And.intro @s_eq (And.intro @Nat.zero_add (And.intro @Nat.add_zero (And.intro @Bool.and_true (And.intro @Bool.true_and (And.intro @Bool.and_self (And.intro @Bool.or_false (And.intro @Bool.or_true (And.intro @Bool.true_or (And.intro @Bool.false_or (And.intro @Bool.and_false (And.intro @Bool.false_and (And.intro @true_and (And.intro @and_true (And.intro @and_self (And.intro @true_or (And.intro @or_true (And.intro @Nat.lt_irrefl (And.intro @Nat.le_refl (And.intro @Nat.zero_le (And.intro @Nat.zero_lt_succ (And.intro @decide_true (And.intro @decide_false (And.intro @Bool.not_true @Bool.not_false))))))))))))))))))))))))))))))))))))))))))))))))))))))))))))))))
end Go.Pv

namespace Go.Pv
set_option linter.defProp false
section
variable {P : Program} {H : Heap}
def bbE (m : Option Ty) (x : Bool) (H : Heap) : Res := match m with
  | some r => ⟨(match r.k with | .bool => True | _ => False), .bool x, H⟩
  | none => noRes H
theorem x_be (t : TypeId) (c : Bool) (a b : Bool) : rBin P .eql t c (.bool a) (.bool b) H = bbE (mkTy P t) (a == b) H := by
  simp only [rBin, bbE]; cases mkTy P t <;> rfl
theorem x_bn (t : TypeId) (c : Bool) (a b : Bool) : rBin P .neq t c (.bool a) (.bool b) H = bbE (mkTy P t) (!(a == b)) H := by
  simp only [rBin, bbE]; cases mkTy P t <;> rfl
theorem x_bt (b : Bool) : (b == true) = b := by cases b <;> rfl
theorem x_bf (b : Bool) : (b == false) = !b := by cases b <;> rfl
theorem x_m (m : Option Ty) (r : Ty) (x : Bool) : bbE (some r) x H = ⟨(match r.k with | .bool => True | _ => False), .bool x, H⟩ := rfl
end
/-- A counting loop: the state behind n rounds. -/
def itr {α : Type} (f : Nat → α → α) : Nat → α → α
  | 0, s => s
  | n + 1, s => f n (itr f n s)
def pvX := And.intro @x_be (And.intro @x_bn (And.intro @x_bt (And.intro @x_bf @x_m)))

theorem get_bt (s : ByteArray) (i : Nat) (h : i < s.size) : ((s.get! i).toNat : Int) = bt s i := by
  unfold bt
  have h2 : i < s.data.size := h
  have e : s.get! i = s.data[i] := by
    show s.data[i]! = _
    rw [getElem!_pos s.data i h2]
  rw [e]
  have e2 : s.data.toList.getD (i : Int).toNat 0 = s.data[i] := by
    show s.data.toList.getD i 0 = _
    simp only [List.getD, Array.getElem?_toList, Array.getElem?_eq_getElem h2, Option.getD_some]
  rw [e2]
theorem decode_lo {s : ByteArray} {i : Nat} (h : i < s.size) (hb : bt s i < 128) : ((Utf8.decode s i).1 : Int) = bt s i ∧ (Utf8.decode s i).2 = 1 := by
  have hg := get_bt s i h
  unfold Utf8.decode
  have h1 : (s.get! (i + 0)).toNat < 0x80 := by rw [Nat.add_zero]; omega
  simp only [h1, if_true]
  exact ⟨by rw [Nat.add_zero]; exact hg, trivial⟩
theorem decode_hi {s : ByteArray} {i : Nat} (h : i < s.size) (hb : 128 ≤ bt s i) : 128 ≤ (Utf8.decode s i).1 := by
  have hg := get_bt s i h
  unfold Utf8.decode
  have h1 : ¬ (s.get! (i + 0)).toNat < 0x80 := by rw [Nat.add_zero]; omega
  simp only [h1, if_false, Utf8.runeError]
  repeat' split
  all_goals first
    | (simp only [ge_iff_le] at *; omega)
    | (rename_i hh; simp only [Bool.and_eq_true, decide_eq_true_eq, ge_iff_le] at hh; omega)
    | decide
theorem bt_nonneg (s : ByteArray) (i : Int) : 0 ≤ bt s i := by unfold bt; omega

theorem rep_I (n : Nat) : List.replicate n [PV.int .i64 0] = (List.replicate n (0 : Int)).map encI := by simp [encI]
theorem st_I (l : List Int) (i : Nat) (v : Int) : (l.map encI).set i (PV.int .i64 v :: List.drop 1 ((l.map encI).getD i [])) = (l.set i v).map encI := by
  apply List.ext_getElem?
  intro j
  rw [List.getElem?_set, List.getElem?_map, List.getElem?_map, List.getElem?_set]
  by_cases h : i = j
  · subst h
    by_cases h2 : i < l.length
    · simp [h2, encI, List.getD]
    · simp [h2]
  · simp [h]
theorem hb_I (m : Nat) (l : List Int) : ((l.map encI).all fun e => hbL m e) = true := by
  simp [List.all_eq_true, encI, hbL, hb]
/-- One more at a place. -/
def inc (l : List Int) (i : Int) : List Int := l.set i.toNat (IntKind.i64.wrap (l.getD i.toNat 0 + 1))
theorem inc_len (l : List Int) (i : Int) : (inc l i).length = l.length := by simp [inc]
theorem inc_len' (l : List Int) (i : Nat) (v : Int) : (l.set i v).length = l.length := by simp
theorem c_8 : ((8 : Nat) : Int) = 8 := rfl
theorem c_24 : ((24 : Nat) : Int) = 24 := rfl
def pvI := And.intro @c_8 <| And.intro @c_24 <| And.intro @rep_I (And.intro @st_I (And.intro @hb_I @inc_len'))
end Go.Pv

namespace Go.Pv
set_option linter.defProp false
theorem y_ro (h g sz a len : Nat) : ren h (.own g sz a len) = .own h sz a len := rfl
theorem y_rp (h g sz i off : Nat) : ren h (.ptr g sz i off) = .ptr h sz i off := rfl
theorem y_r0 : List.range 0 = [] := rfl
theorem y_r1 : List.range 1 = [0] := rfl
theorem y_r2 : List.range 2 = [0, 1] := rfl
theorem y_le {α : Type} (a : α) : (a :: []).length = 1 := rfl
theorem y_lr (n : Nat) (x : Int) : (List.replicate n x).length = n := by simp
def pvY := And.intro @y_ro (And.intro @y_rp (And.intro @y_r0 (And.intro @y_r1 (And.intro @y_r2 @y_lr))))
end Go.Pv

namespace Go.Pv
set_option linter.defProp false
theorem z_rb (n : Nat) : List.replicate n [PV.bool false] = (List.replicate n false).map encB := by simp [encB]
theorem z_sb (l : List Bool) (i : Nat) (v : Bool) : (l.map encB).set i (PV.bool v :: List.drop 1 ((l.map encB).getD i [])) = (l.set i v).map encB := by
  apply List.ext_getElem?
  intro j
  rw [List.getElem?_set, List.getElem?_map, List.getElem?_map, List.getElem?_set]
  by_cases h : i = j
  · subst h
    by_cases h2 : i < l.length
    · simp [h2, encB, List.getD]
    · simp [h2]
  · simp [h]
theorem z_hb (m : Nat) (l : List Bool) : ((l.map encB).all fun e => hbL m e) = true := by
  simp [List.all_eq_true, encB, hbL, hb]
section
variable (sel : List Nat)
theorem z_ri (k : IntKind) (n : Int) : rn sel (.int k n) = .int k n := by simp only [rn]
theorem z_rbo (b : Bool) : rn sel (.bool b) = .bool b := by simp only [rn]
theorem z_rs (b : ByteArray) : rn sel (.str b) = .str b := by simp only [rn]
theorem z_rn : rn sel .nil = .nil := by simp only [rn]
theorem z_rl (sz : Nat) (es : List (List PV)) : rn sel (.sl sz es) = .sl sz es := by simp only [rn]
theorem z_rr (cs : List PV) : rn sel (.ref cs) = .ref cs := by simp only [rn]
theorem z_ru : rn sel .undef = .undef := by simp only [rn]
theorem z_rp (h sz i off : Nat) : rn sel (.ptr h sz i off) = .ptr (sel.idxOf h) sz i off := by simp only [rn]
theorem z_ro (h sz a len : Nat) : rn sel (.own h sz a len) = .own (sel.idxOf h) sz a len := by simp only [rn]
theorem z_rm (h : Nat) : rn sel (.mp h) = .mp (sel.idxOf h) := by simp only [rn]
theorem z_rL0 : rnL sel [] = [] := by simp only [rnL]
theorem z_rL1 (p : PV) (r : List PV) : rnL sel (p :: r) = rn sel p :: rnL sel r := by simp only [rnL]
theorem z_ii (k : IntKind) (n : Int) : inS sel (.int k n) = true := by simp only [inS]
theorem z_ib (b : Bool) : inS sel (.bool b) = true := by simp only [inS]
theorem z_is (b : ByteArray) : inS sel (.str b) = true := by simp only [inS]
theorem z_in : inS sel .nil = true := by simp only [inS]
theorem z_il (sz : Nat) (es : List (List PV)) : inS sel (.sl sz es) = true := by simp only [inS]
theorem z_ir (cs : List PV) : inS sel (.ref cs) = true := by simp only [inS]
theorem z_ip (h sz i off : Nat) : inS sel (.ptr h sz i off) = sel.contains h := by simp only [inS]
theorem z_io (h sz a len : Nat) : inS sel (.own h sz a len) = sel.contains h := by simp only [inS]
theorem z_im (h : Nat) : inS sel (.mp h) = sel.contains h := by simp only [inS]
theorem z_iL0 : inSL sel [] = true := by simp only [inSL]
theorem z_iL1 (p : PV) (r : List PV) : inSL sel (p :: r) = (inS sel p && inSL sel r) := by simp only [inSL]
theorem z_iI (l : List Int) : ((l.map encI).all fun e => inSL sel e) = true := by simp [List.all_eq_true, encI, inSL, inS]
theorem z_iB (l : List Bool) : ((l.map encB).all fun e => inSL sel e) = true := by simp [List.all_eq_true, encB, inSL, inS]
theorem z_rI (l : List Int) : (l.map encI).map (rnL sel) = l.map encI := by simp [encI, rnL, rn, Function.comp_def]
theorem z_rB (l : List Bool) : (l.map encB).map (rnL sel) = l.map encB := by simp [encB, rnL, rn, Function.comp_def]
theorem z_br (T sz : Nat) (es : List (List PV)) : rnB sel (.rows T sz es) = .rows T sz (es.map (rnL sel)) := rfl
theorem z_bi (T sz : Nat) (es : List (List PV)) : inSB sel (.rows T sz es) = es.all fun e => inSL sel e := rfl
end
theorem z_x0 (a : Nat) (l : List Nat) : (a :: l).idxOf a = 0 := by simp
theorem z_x1 (a b : Nat) (l : List Nat) (h : decide (a = b) = false) : (a :: l).idxOf b = l.idxOf b + 1 := by
  have : ¬ a = b := by simpa using h
  have : (a == b) = false := by simpa using this
  simp [List.idxOf_cons, this]
theorem z_c0 (b : Nat) : ([] : List Nat).contains b = false := rfl
theorem z_c1 (a b : Nat) (l : List Nat) : (a :: l).contains b = (decide (b = a) || l.contains b) := by
  simp only [List.contains_cons]; congr 1
theorem z_s0 (H : Heap) : selH [] H = [] := rfl
theorem z_s1 (a : Nat) (l : List Nat) (H : Heap) : selH (a :: l) H = rnB (a :: l) (H.getD a .dead) :: l.map (fun h => rnB (a :: l) (H.getD h .dead)) := rfl
theorem z_nd : ([0, 1, 2] : List Nat).Nodup = True := by simp
theorem z_nd4 : ([0, 1, 4] : List Nat).Nodup = True := by simp
theorem z_nd3 : ([0, 1, 3] : List Nat).Nodup = True := by simp
theorem z_nd5 : ([0, 1, 5] : List Nat).Nodup = True := by simp
theorem z_nd6 : ([0, 1, 6] : List Nat).Nodup = True := by simp
def pvZ := And.intro @z_rb <| And.intro @z_sb <| And.intro @z_hb <| And.intro @z_ri <| And.intro @z_rbo <| And.intro @z_rs <| And.intro @z_rn <| And.intro @z_rl <| And.intro @z_rr <| And.intro @z_ru <| And.intro @z_rp <| And.intro @z_ro <| And.intro @z_rm <|
  And.intro @z_rL0 <| And.intro @z_rL1 <| And.intro @z_ii <| And.intro @z_ib <| And.intro @z_is <| And.intro @z_in <| And.intro @z_il <| And.intro @z_ir <| And.intro @z_ip <| And.intro @z_io <| And.intro @z_im <| And.intro @z_iL0 <| And.intro @z_iL1 <| And.intro @z_iI <|
  And.intro @z_iB <| And.intro @z_rI <| And.intro @z_rB <| And.intro @z_br <| And.intro @z_bi <| And.intro @z_x0 <| And.intro @z_c0 <| And.intro @z_c1 <| And.intro @z_s0 <| And.intro @z_s1 <| And.intro @z_nd <| And.intro @z_nd4 <| And.intro @z_nd3 <| And.intro @z_nd5 @z_nd6
/-- All but the first. -/
theorem z_dt (t : List Int) : List.take (t.length - 1) (List.drop 1 (t.map encI)) = t.tail.map encI := by
  cases t with
  | nil => rfl
  | cons x r =>
    simp only [List.length_cons, Nat.add_sub_cancel, List.map_cons, List.drop_succ_cons, List.drop_zero, List.tail_cons]
    exact List.take_of_length_le (by simp)
end Go.Pv

namespace Go.Pv
section
variable {P : Program} {d : Nat} {xs ys : Array Value} {f : Field} {fs : List Field} {a b : Value} {r s : Bool} {w : World}
theorem eqF_nil : (Op.eqFields d xs ys []).run P w = .ok true w := by simp [Op.eqFields]
theorem eqF_cons (hn : (f.name == "_") = false) (ha : (part f.type xs f.offset).run P w = .ok a w) (hb : (part f.type ys f.offset).run P w = .ok b w) (he : (Op.equalIn d f.type a b).run P w = .ok r w) (hr : (Op.eqFields d xs ys fs).run P w = .ok s w) : (Op.eqFields d xs ys (f :: fs)).run P w = .ok (r && s) w := by
  have hn' : f.name ≠ "_" := by simpa using hn
  rw [Op.eqFields]
  simp only [if_pos hn', Sem.run_bind, ha, hb, he, Result.andThen_ok]
  cases r
  · simp
  · simpa using hr
theorem eqF_struct {t : TypeId} {fa : Array Field} (hu : P.underlying t = some (.struct fa)) (hp : P.stoodInHeld t = false) (h : (Op.eqFields d xs ys fa.toList).run P w = .ok r w) : (Op.equalIn (d + 1) t (.agg xs) (.agg ys)).run P w = .ok r w := by
  have hf : P.fieldsOf t = fa := by simp [Program.fieldsOf, hu]
  rw [run_equalIn_struct (P := P) w d t xs ys (by rw [hf]; exact hu) hp, hf]
  exact h
theorem eqF_int {t : TypeId} {k : IntKind} (hu : P.underlying t = some (.int k)) (m n : Int) : (Op.equalIn (d + 1) t (.int k m) (.int k n)).run P w = .ok (m == n) w := by
  simp [Op.equalIn, run_underlying hu]
theorem eqF_bool {t : TypeId} (hu : P.underlying t = some .bool) (m n : Bool) : (Op.equalIn (d + 1) t (.bool m) (.bool n)).run P w = .ok (m == n) w := by
  simp [Op.equalIn, run_underlying hu]
theorem part_int {t : TypeId} {k : IntKind} (hu : P.underlying t = some (.int k)) {off : Nat} (hc : xs[off]? = some a) : (part t xs off).run P w = .ok a w := by
  simp [part, isAgg, run_underlying hu, hc]
theorem part_bool {t : TypeId} (hu : P.underlying t = some .bool) {off : Nat} (hc : xs[off]? = some a) : (part t xs off).run P w = .ok a w := by
  simp [part, isAgg, run_underlying hu, hc]
theorem part_agg {t : TypeId} {fa : Array Field} {q : Ty} (hu : P.underlying t = some (.struct fa)) (hq : mkTy P t = some q) {off n : Nat} (hn : q.sz = n) : (part t xs off).run P w = .ok (.agg (xs.extract off (off + n))) w := by
  subst hn
  simp [part, isAgg, run_underlying hu, run_sizeOfT hq]
end
end Go.Pv

namespace Go.Pv
variable {P : Program} {φ : FuncId → List PV → PV} {base : Nat} {Q : Exit → TEnv → Heap → Prop} {T : TEnv} {H : Heap}

theorem vcOps_mono {K K' : TEnv → Heap → Prop} (h : ∀ T H, K T H → K' T H) : ∀ (l : List POp) (T : TEnv) (H : Heap), vcOps P φ l T H K → vcOps P φ l T H K'
  | [], T, H, hv => h _ _ hv
  | o :: r, T, H, hv => by
    simp only [vcOps, vNext] at hv ⊢
    exact ⟨hv.1, hv.2.1, vcOps_mono h r _ _ hv.2.2⟩
/-- No step of an iterator stands first. -/
def noNx : List POp → Bool
  | [] => true
  | (_, o, _) :: _ => !nextB o
theorem vcReg_mono {K K' : TEnv → Heap → Prop} (h : ∀ T H, K T H → K' T H) (l : List POp) (hn : noNx l = true) (hv : vcReg P φ l T H K) : vcReg P φ l T H K' := by
  match l, hn, hv with
  | [], _, hv => exact vcOps_mono h _ _ _ hv
  | (d, o, g) :: r, hn, hv =>
    have : nextB o = false := by simpa [noNx] using hn
    simp only [vcReg, this, cond_false] at hv ⊢
    exact vcOps_mono h _ _ _ hv
theorem vcIf_mono {x : TV} {k1 k1' k2 k2' : Prop} (h1 : k1 → k1') (h2 : k2 → k2') (h : vcIf x k1 k2) : vcIf x k1' k2' := by
  unfold vcIf at h ⊢
  split at h
  · exact ⟨fun e => h1 (h.1 e), fun e => h2 (h.2 e)⟩
  · exact h
/-- The loop ends: its body does not matter. -/
theorem vc_exit {id e : Nat} {ops : Array Oper} {x : Operand} {rest : Code} (hn : noNx (prep ops) = true) (h : vc P φ base (.seq (.region id ops false) (.seq (.cond x .skip (.exit e)) (.label 0))) Q T H) :
    vc P φ base (.seq (.region id ops false) (.seq (.cond x .skip (.exit e)) rest)) Q T H := by
  simp only [vc] at h ⊢
  refine vcReg_mono (fun T H h => ?_) _ hn h
  simp only [thenC, vc] at h ⊢
  exact vcIf_mono (fun h => h.elim) (fun h => h) h
/-- The loop goes on: what follows it does not matter. -/
theorem vc_body {id e : Nat} {ops : Array Oper} {x : Operand} {rest : Code} (hn : noNx (prep ops) = true) (h : vc P φ base (.seq (.region id ops false) (.seq (.cond x .skip (.label 0)) rest)) Q T H) :
    vc P φ base (.seq (.region id ops false) (.seq (.cond x .skip (.exit e)) rest)) Q T H := by
  simp only [vc] at h ⊢
  refine vcReg_mono (fun T H h => ?_) _ hn h
  simp only [thenC, vc] at h ⊢
  exact vcIf_mono (fun h => h) (fun h => h.elim) h
theorem q_label (l : Nat) : vc P φ base (.label l) Q T H = False := by simp [vc]
end Go.Pv

namespace Go.Pv
open Go

/-- All blocks that are there; none is new. -/
def There (w : World) : Fr := fun t b => t = true ∧ b < w.heap.size
/-- Cells, and what they are, cell by cell. -/
def RL (w : World) (cs : List Value) (qs : List PV) : Prop := cs.length = qs.length ∧ ∀ i, i < qs.length → RelF (There w) w (cs.getD i Go.undef) (qs.getD i .undef)
theorem RL.nil {w : World} : RL w [] [] := ⟨rfl, fun i hi => absurd hi (Nat.not_lt_zero i)⟩
theorem RL.one {w : World} {v : Value} {q : PV} (h : RelF (There w) w v q) : RL w [v] [q] := by
  refine ⟨rfl, fun i hi => ?_⟩
  have : i = 0 := by simp at hi; omega
  subst this; exact h
theorem RL.app {w : World} {a b : List Value} {p q : List PV} (h1 : RL w a p) (h2 : RL w b q) : RL w (a ++ b) (p ++ q) := by
  obtain ⟨l1, r1⟩ := h1
  obtain ⟨l2, r2⟩ := h2
  refine ⟨by simp [l1, l2], fun i hi => ?_⟩
  rw [List.length_append] at hi
  simp only [List.getD]
  by_cases h : i < p.length
  · rw [List.getElem?_append_left (by omega), List.getElem?_append_left h]
    exact r1 i h
  · rw [List.getElem?_append_right (by omega), List.getElem?_append_right (by omega), l1]
    exact r2 (i - p.length) (by omega)
theorem RL.join {w : World} {cs : List Value} {o s : Nat} {p q : List PV} (h1 : RL w ((cs.drop o).take s) p) (h2 : RL w (cs.drop (o + s)) q) : RL w (cs.drop o) (p ++ q) := by
  have e : cs.drop o = (cs.drop o).take s ++ cs.drop (o + s) := by
    rw [← List.drop_drop, List.take_append_drop]
  rw [e]
  exact h1.app h2
theorem RL.done {w : World} {cs : List Value} {o : Nat} (h : cs.length = o) : RL w (cs.drop o) [] := by
  rw [List.drop_of_length_le (by omega)]; exact RL.nil

section
variable {H : Type} {enc : TypeId × Value → H} {P : Program} {w : World} {sp : Nat → Bool} {held : Bool} {S : TypeId → DataW H → Prop}
/-- No text and no row is too long, in any part. -/
structure Szd (P : Program) (S : TypeId → DataW H → Prop) : Prop where
  str : ∀ t bs, S t (.lit (.string bs)) → bs.length ≤ lenMax
  sl : ∀ t e el spr, P.underlying t = some (.slice e) → 0 < P.bytesOf e → S t (.slice el spr) → el.length ≤ lenMax ∧ ∀ d, d ∈ el → S e d
  st : ∀ t fs ps, P.underlying t = some (.struct fs) → S t (.agg ps) → ∀ (i : Nat) f d, fs[i]? = some f → ps[i]? = some d → S f.type d
def Opens (enc : TypeId × Value → H) (P : Program) (w : World) (sp : Nat → Bool) (held : Bool) (S : TypeId → DataW H → Prop) (t : TypeId) {α : Type} (f : α → List PV) : Prop :=
  ∀ fuel cs d ps, DataW.trod enc P w 0 sp held fuel t cs = some (d, ps) → S t d → ∃ x, RL w cs (f x)

theorem open_i {t : TypeId} (ht : P.underlying t = some (.int .i64)) : Opens enc P w sp held S t encI := by
  intro fuel cs d ps h _
  obtain ⟨n, rfl, _⟩ := DataW.trod_int ht h
  exact ⟨n, RL.one (.int _ _)⟩
theorem open_b {t : TypeId} (ht : P.underlying t = some .bool) : Opens enc P w sp held S t encB := by
  intro fuel cs d ps h _
  obtain ⟨b, rfl, _⟩ := DataW.trod_bool ht h
  exact ⟨b, RL.one (.bool _)⟩
theorem open_s (z : Szd P S) {t : TypeId} (ht : P.underlying t = some .string) : Opens enc P w sp held S t encS := by
  intro fuel cs d ps h hS
  obtain ⟨s, rfl, hx, _⟩ := DataW.trod_string ht h
  have hd : d = .lit (.string s.data.toList) := congrArg Prod.fst hx
  rw [hd] at hS
  have := z.str _ _ hS
  rw [Array.length_toList] at this
  exact ⟨s, RL.one (.str _ this)⟩
theorem open_st (z : Szd P S) {t : TypeId} {fs : Array Field} (ht : P.underlying t = some (.struct fs)) {fuel : Nat} {cs : List Value} {d : DataW H} {ps : List MemPlace} (h : DataW.trod enc P w 0 sp held fuel t cs = some (d, ps)) (hS : S t d) :
    cs.length = P.cellsOf t ∧ ∀ (i o ty : Nat) {α : Type} (g : α → List PV), (fs[i]?.map fun f => (f.offset, f.type)) = some (o, ty) → Opens enc P w sp held S ty g → ∃ x, RL w ((cs.drop o).take (P.cellsOf ty)) (g x) := by
  obtain ⟨xs, n, rfl, hx, hl, hxl, hf⟩ := DataW.trod_struct ht h
  refine ⟨hl, fun i o ty α g hi0 ho => ?_⟩
  obtain ⟨f, hi, e0⟩ := Option.map_eq_some_iff.1 hi0
  obtain ⟨rfl, rfl⟩ := Prod.mk.inj e0
  have hlt := (Array.getElem?_eq_some_iff.1 hi).1
  have e := hf i f hi
  have hx2 : xs[i]? = some xs[i] := List.getElem?_eq_getElem (by omega)
  rw [hx2] at e
  have hd : d = .agg (xs.map (·.1)) := congrArg Prod.fst hx
  rw [hd] at hS
  exact ho _ _ _ _ e (z.st t fs _ ht hS i f _ hi (by rw [List.getElem?_map, hx2]; rfl))
theorem open_sl (z : Szd P S) {t e : TypeId} {sz : Nat} (ht : P.underlying t = some (.slice e)) (hc : P.cellsOf e = sz) (hby : 0 < P.bytesOf e) (hsz : 0 < sz) {α : Type} [Inhabited α] (g : α → List PV) (ho : Opens enc P w sp held S e g) :
    Opens enc P w sp held S t (fun xs : List α => [.sl sz (xs.map g)]) := by
  intro fuel cs d ps h hS
  rcases Go.Deep.open_slice ht h with ⟨rfl, _⟩ | ⟨a, len, cap, m, n, D, Pl, rfl, hb, hlc, hm, hmm, hx, hel⟩
  · exact ⟨[], RL.one (.sl0 _ _ _)⟩
  have hd : d = .slice ((List.range len).map D) ((List.range (m - len)).map fun j => D (len + j)) := congrArg Prod.fst hx
  rw [hd] at hS
  obtain ⟨h1, h2⟩ := z.sl t e _ _ ht hby hS
  have hlm : len ≤ m := by rw [hmm]; split <;> omega
  have key : ∀ i, i < len → ∃ x, ∃ cs', w.cells? 0 (a.add (i * P.cellsOf e)) (P.cellsOf e) = some cs' ∧ RL w cs' (g x) := by
    intro i hi
    obtain ⟨cs', g1, g2⟩ := hel i (by omega)
    obtain ⟨x, hx⟩ := ho _ _ _ _ g2 (h2 _ (List.mem_map.2 ⟨i, List.mem_range.2 hi, rfl⟩))
    exact ⟨x, cs', g1, hx⟩
  have key2 : ∀ i, ∃ x : α, ∃ cs', i < len → w.cells? 0 (a.add (i * P.cellsOf e)) (P.cellsOf e) = some cs' ∧ RL w cs' (g x) := by
    intro i
    by_cases hi : i < len
    · obtain ⟨x, cs', hh⟩ := key i hi
      exact ⟨x, cs', fun _ => hh⟩
    · exact ⟨default, [], fun hh => absurd hh hi⟩
  let X : Nat → α := fun i => Classical.choose (key2 i)
  let C : Nat → List Value := fun i => Classical.choose (Classical.choose_spec (key2 i))
  have hX : ∀ i, i < len → w.cells? 0 (a.add (i * P.cellsOf e)) (P.cellsOf e) = some (C i) ∧ RL w (C i) (g (X i)) := fun i => Classical.choose_spec (Classical.choose_spec (key2 i))
  refine ⟨(List.range len).map X, RL.one ?_⟩
  by_cases h0 : len = 0
  · subst h0
    exact .sl0 _ _ _
  rw [List.length_map, List.length_range] at h1
  have hcell : ∀ i, i < len → (C i).length = sz ∧ ∀ j, j < sz → w.cell? ((a.add (i * sz)).add j) = (C i)[j]? := by
    intro i hi
    obtain ⟨_, g1, g2⟩ := World.cells?_some (hX i hi).1
    rw [hc] at g1 g2
    exact ⟨g1, g2⟩
  obtain ⟨b, off, spot⟩ := a
  have hfirst : w.cell? ⟨b, off, spot⟩ = (C 0)[0]? := by
    have := (hcell 0 (by omega)).2 0 hsz
    simpa [Addr.add] using this
  have hl0 := (hcell 0 (by omega)).1
  have hsome : ∃ v, w.cell? ⟨b, off, spot⟩ = some v := ⟨(C 0)[0], by rw [hfirst]; exact List.getElem?_eq_getElem (by omega)⟩
  obtain ⟨v0, hv0⟩ := hsome
  have hblk : b < w.heap.size ∧ spot = none := by
    unfold World.cell? at hv0
    split at hv0
    · rename_i c t' fr hh
      refine ⟨(Array.getElem?_eq_some_iff.1 hh).1, ?_⟩
      cases spot with
      | none => rfl
      | some s => simp at hv0
    · cases hv0
  obtain ⟨hblk, rfl⟩ := hblk
  have hadd : ∀ i j, ((⟨b, off, none⟩ : Addr).add i).add j = ⟨b, off + (i + j), none⟩ := by
    intro i j
    rw [Go.Deep.add_add]
    unfold Addr.add
    split
    · rename_i hh; rw [hh]; rfl
    · rfl
  have hrow : ∀ i, i < len → (((List.range len).map X).map g).getD i [] = g (X i) := by
    intro i hi
    simp [List.getD, hi]
  refine .sl b off len cap sz _ (fun i j => (C i).getD j Go.undef) ⟨rfl, hblk⟩ (by simp) hlc h1 (fun i hi => ?_) (fun i j hi hj => ?_) (fun i j hi hj => ?_)
  · rw [hrow i hi, ← (hX i hi).2.1]; exact (hcell i hi).1
  · have := (hcell i hi).2 j hj
    rw [hadd] at this
    rw [this, List.getD_eq_getElem?_getD]
    have hj' : j < (C i).length := by rw [(hcell i hi).1]; exact hj
    rw [List.getElem?_eq_getElem hj']; rfl
  · rw [hrow i hi]
    exact (hX i hi).2.2 j (by rw [← (hX i hi).2.1, (hcell i hi).1]; exact hj)
end
end Go.Pv
