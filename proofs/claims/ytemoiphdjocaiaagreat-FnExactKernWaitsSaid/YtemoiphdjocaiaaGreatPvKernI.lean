/-
  What the program's check of a kernel answers. Conditions: none.
-/
import Derived.Test.YtemoiphdjocaiaaGreatPvTy
import Derived.Test.YtemoiphdjocaiaaGreatPvKern
import Derived.Test.YtemoiphdjocaiaaGreatPvSimp
set_option linter.all false
set_option linter.unusedSimpArgs false
set_option linter.unusedVariables false
namespace Go.Proofs.YtemoiphdjocaiaaGreat
open Go.Pv
set_option linter.unusedSimpArgs false
set_option maxRecDepth 100000
set_option maxHeartbeats 4000000

theorem inB_of {n l h : Int} (x : inB n l h = true) : l ≤ n ∧ n ≤ h := by
  simp only [inB, Bool.and_eq_true, decide_eq_true_eq] at x
  omega
theorem placeHas_in {v : Vfs} {q : Spt} (hv : v.fss.length = 2) (h : placeHas v q = true) : (0 ≤ q.fs ∧ q.fs < (v.fss.length : Int)) ∧ 0 ≤ q.id ∧ q.id < ((v.fss.getD q.fs.toNat default).nodes.length : Int) := by
  simp only [placeHas, fsHas, Bool.and_eq_true] at h
  have h1 := inB_of h.1
  exact ⟨by omega, inB_bd h.2.1⟩
theorem nz_i (k : IntKind) (n : Int) : nilZ (.int k n) = .int k n := rfl
theorem nz_b (b : Bool) : nilZ (.bool b) = .bool b := rfl
theorem nz_s (n : Nat) : nilZ (.sl n []) = .nil := rfl
def Msp (es : ME) (f : Int → Bool) : Prop := (∀ a, mget (.bool false) [a] es = .bool (f a)) ∧ ∀ m, (es.all fun e => hb m e.2) = true
def Mop (es : ME) (f : Int → Int → Int) : Prop := (∀ a b, mget (.int .i64 0) [a, b] es = .int .i64 (f a b)) ∧ ∀ m, (es.all fun e => hb m e.2) = true
def spU (f : Int → Bool) (x : Int) : Int → Bool := fun a => bif decide (x = a) then true else f a
def opU (f : Int → Int → Int) (x y : Int) : Int → Int → Int := fun a b => bif decide (x = a) && decide (y = b) then IntKind.i64.wrap (f x y + 1) else f a b
theorem Msp.put {es : ME} {f : Int → Bool} (h : Msp es f) (x : Int) : Msp (mput [x] (.bool true) es) (spU f x) := by
  refine ⟨fun a => ?_, fun m => all_mput (hb m) _ _ _ (h.2 m) rfl⟩
  rw [mget_mput, h.1]
  by_cases hx : x = a <;> simp [spU, hx]
theorem Mop.put {es : ME} {f : Int → Int → Int} (h : Mop es f) (x y : Int) : Mop (mput [x, y] (.int .i64 (IntKind.i64.wrap (f x y + 1))) es) (opU f x y) := by
  refine ⟨fun a b => ?_, fun m => all_mput (hb m) _ _ _ (h.2 m) rfl⟩
  rw [mget_mput, h.1]
  by_cases hx : x = a <;> by_cases hy : y = b <;> simp [opU, hx, hy]
theorem Msp.nil : Msp [] (fun _ => false) := ⟨fun _ => rfl, fun _ => rfl⟩
theorem Mop.nil : Mop [] (fun _ _ => 0) := ⟨fun _ _ => rfl, fun _ => rfl⟩
def alN (p : Kern) (i : Nat) (n : Int) : Int := bif aliveP (p.procs.getD i default) then IntKind.i64.wrap (n + 1) else n
def rfR (p : Kern) (i j : Nat) (l : List Int) : List Int := bif decide ((p.procs.getD i default).fds.getD j 0 = -1) then l else inc l ((p.procs.getD i default).fds.getD j 0)
def rfF (p : Kern) (i : Nat) (l : List Int) : List Int := bif aliveP (p.procs.getD i default) then itr (rfR p i) (p.procs.getD i default).fds.length l else l
def spF (p : Kern) (i : Nat) (f : Int → Bool) : Int → Bool := bif aliveP (p.procs.getD i default) then spU f (p.procs.getD i default).space else f
def opF (p : Kern) (i : Nat) (f : Int → Int → Int) : Int → Int → Int := bif aliveP (p.procs.getD i default) then opU f (p.procs.getD i default).dir.fs (p.procs.getD i default).dir.id else f
def rfS (p : Kern) (i : Nat) : List Int := itr (rfF p) i (List.replicate 10 0)
def spS (p : Kern) (i : Nat) : Int → Bool := itr (spF p) i fun _ => false
def opS (p : Kern) (i : Nat) : Int → Int → Int := itr (opF p) i fun _ _ => 0
def prA (p : Kern) (i : Nat) : Bool := !procBare (p.procs.getD i default) || !decide ((p.procs.getD i default).parent = 0) || !decide ((p.procs.getD i default).code = 0) || !decide ((p.procs.getD i default).space = 0) || decide (taskAt p.queue.tasks i ≥ 0)
def prB (p : Kern) (i : Nat) : Bool := !procBare (p.procs.getD i default) || !inB (p.procs.getD i default).code 0 999 || !decide ((p.procs.getD i default).space = -1) || decide (taskAt p.queue.tasks i ≥ 0)
def prC0 (p : Kern) (i : Nat) : Bool := !decide ((p.procs.getD i default).code = 0) || !credOk (p.procs.getD i default).who || !spaceLive p.mem (p.procs.getD i default).space || spS p i (p.procs.getD i default).space || !decide (((p.procs.getD i default).fds.length : Int) = 5) || !sigsOk (p.procs.getD i default).sigs || !placeHas p.vfs (p.procs.getD i default).dir
def prC (p : Kern) (i : Nat) : Bool := prC0 p i || !decide ((vfsNode p.vfs (p.procs.getD i default).dir).kind = 2) || decide (taskAt p.queue.tasks i < 0) || !((p.queue.tasks.getD (taskAt p.queue.tasks i).toNat default).ready == decide ((p.procs.getD i default).state = 1))
def prD (x : Proc) : Bool := decide (x.state = 2) && !decide (x.on = -2) && !inB x.on 0 2 || !decide (x.state = 2) && !decide (x.on = -1)
def prFd (p : Kern) (i j : Nat) : Bool := bif decide ((p.procs.getD i default).fds.getD j 0 = -1) then true else !(!inB ((p.procs.getD i default).fds.getD j 0) 0 9 || decide ((p.files.getD ((p.procs.getD i default).fds.getD j 0).toNat default).refs = 0))
def prI (p : Kern) (i : Nat) : Bool := bif decide ((p.procs.getD i default).state = 0) then !prA p i else bif decide ((p.procs.getD i default).state = 4) then !prB p i else bif !aliveP (p.procs.getD i default) then false else bif prC p i then false else bif prD (p.procs.getD i default) then false else (List.range (p.procs.getD i default).fds.length).all (prFd p i)
def alM (p : Kern) (i : Nat) (n : Int) : Int := bif (p.mem.spaces.getD i default).live then IntKind.i64.wrap (n - 1) else n
def alS (p : Kern) : Int := itr (alM p) p.mem.spaces.length (itr (alN p) p.procs.length 0)
def tkI (p : Kern) (i : Nat) : Bool := !(!inB (p.queue.tasks.getD i default).id 0 4 || !aliveP (p.procs.getD (p.queue.tasks.getD i default).id.toNat default))
def fiA (p : Kern) (i : Nat) : Bool := !decide ((p.files.getD i default).refs = (rfS p 5).getD i 0) || decide ((p.files.getD i default).refs = 0) && !fileZero (p.files.getD i default)
def fiB (p : Kern) (f : File) : Bool := !placeHas p.vfs f.where_ || !inB f.pos 0 999 || decide ((vfsNode p.vfs f.where_).kind = 2) && (!f.read || f.write || f.end_)
def fiC (f : File) : Bool := !inB f.pipe 0 2 || !placeZero f.where_ || !decide (f.pos = 0) || f.end_ || (f.read == f.write)
def fiI (p : Kern) (i : Nat) : Bool := bif fiA p i then false else bif decide ((p.files.getD i default).refs = 0) then true else bif decide ((p.files.getD i default).pipe = -1) then !fiB p (p.files.getD i default) else !fiC (p.files.getD i default)
def rdI (p : Kern) (i : Nat) (l : List Int) : List Int := bif decide ((p.files.getD i default).refs = 0) then l else bif decide ((p.files.getD i default).pipe = -1) then l else bif (p.files.getD i default).read then inc l (p.files.getD i default).pipe else l
def wrI (p : Kern) (i : Nat) (l : List Int) : List Int := bif decide ((p.files.getD i default).refs = 0) then l else bif decide ((p.files.getD i default).pipe = -1) then l else bif (p.files.getD i default).read then l else inc l (p.files.getD i default).pipe
def opG (p : Kern) (i : Nat) (f : Int → Int → Int) : Int → Int → Int := bif decide ((p.files.getD i default).refs = 0) then f else bif decide ((p.files.getD i default).pipe = -1) then opU f (p.files.getD i default).where_.fs (p.files.getD i default).where_.id else f
def rdSI (p : Kern) (i : Nat) : List Int := itr (rdI p) i (List.replicate 3 0)
def wrSI (p : Kern) (i : Nat) : List Int := itr (wrI p) i (List.replicate 3 0)
def opT (p : Kern) (i : Nat) : Int → Int → Int := itr (opG p) i (opS p 5)
def piI (p : Kern) (i : Nat) : Bool := !(!pipeOk (p.pipes.getD i default) || !decide ((p.pipes.getD i default).readers = (rdSI p 10).getD i 0) || !decide ((p.pipes.getD i default).writers = (wrSI p 10).getD i 0))
def opM (p : Kern) : Int → Int → Int := bif decide (p.vfs.mount ≥ 0) then opU (opT p 10) 0 p.vfs.mount else opT p 10
def noI (p : Kern) (f i : Nat) : Bool := !!decide (((p.vfs.fss.getD f default).nodes.getD i default).opens = opM p f i)
def fsI (p : Kern) (f : Nat) : Bool := (List.range (p.vfs.fss.getD f default).nodes.length).all (noI p f)
def kernEndI (p : Kern) : Bool := (List.range p.procs.length).all (prI p) && ((List.range p.queue.tasks.length).all (tkI p) && (decide (alS p = 0) && ((List.range p.files.length).all (fiI p) && ((List.range p.pipes.length).all (piI p) && (List.range p.vfs.fss.length).all (fsI p)))))

def an73 : List PV → PV
  | [.agg p] => .bool (credOk (Cred.dec p))
  | _ => .undef
def an75 : List PV → PV
  | [.agg p] => .bool (sigsOk (Sigs.dec p))
  | _ => .undef
def kernBadI (p : Kern) : Bool := !memOkI p.mem || !vfsOkI p.vfs || !queueOk p.queue || !decide ((p.files.length : Int) = 10) || !decide ((p.pipes.length : Int) = 3) || !decide ((p.procs.length : Int) = 5) || !parentsOk p
def kernOkI (p : Kern) : Bool := !kernBadI p && kernEndI p
theorem kernBadI_facts {p : Kern} (h : kernBadI p = false) : memOkI p.mem = true ∧ vfsOkI p.vfs = true ∧ p.files.length = 10 ∧ p.pipes.length = 3 ∧ p.procs.length = 5 ∧ queueOk p.queue = true ∧ parentsOk p = true := by
  simp only [kernBadI, Bool.or_eq_false_iff, Bool.not_eq_false', decide_eq_true_eq] at h
  exact ⟨h.1.1.1.1.1.1, h.1.1.1.1.1.2, by omega, by omega, by omega, h.1.1.1.1.2, h.2⟩

theorem pc34 (h67 : ∀ m : Mem, PC Tryz.prog 67 [.agg [.sl 1 (m.ram.text.map encS), .sl 1 (m.ram.refs.map encI), .sl 1 (m.swap.text.map encS), .sl 1 (m.swap.refs.map encI), .sl 3 (m.spaces.map Space.enc), .int .i64 m.hand]] (.bool (memOkI m))) (p : Kern) : PC Tryz.prog 34 [.agg [.sl 1 (p.mem.ram.text.map encS), .sl 1 (p.mem.ram.refs.map encI), .sl 1 (p.mem.swap.text.map encS), .sl 1 (p.mem.swap.refs.map encI), .sl 3 (p.mem.spaces.map Space.enc), .int .i64 p.mem.hand, .sl 1 (p.vfs.fss.map Fs.enc), .int .i64 p.vfs.mount, .sl 8 (p.files.map File.enc), .sl 3 (p.pipes.map Pipe.enc), .sl 14 (p.procs.map Proc.enc), .sl 4 (p.queue.tasks.map Task.enc), .int .i64 p.queue.floor]] (.bool (kernOkI p)) := by
  refine PC.of_vc mixed (phiOf [(35, an35), (36, an36), (67, an67), (68, an68), (69, an69), (70, an70), (71, an71), (72, an72), (73, an73), (74, an74), (75, an75), (76, an76), (77, an77), (78, an78)]) Tryz.func34 (by kernel_rfl) (rfl : Tryz.f34.body = some _) Tryz.ntmps34 (by kernel_rfl) rfl (by kernel_rfl) Tryz.results34 fun hwf => ?_
  simp only [pvB, ↓pvP, pvDom, pvRr, pvMm, Nat.reduceAdd, Nat.reduceEqDiff, Nat.reduceLeDiff, Nat.reduceLT, Nat.reduceSub, reduceIte, reduceCtorEq, an35, pc35, an36, pc36, an67, h67, an68, pc68, an69, pc69', an70, an71, pc71, an72, pc72, an73, pc73, an74, pc74, an75, pc75, an76, an77, an78, pc78, pvI, Int.reduceToNat, Int.reduceLE, Int.reduceLT, Int.reduceMul, Int.reduceAdd, Int.reduceGT, Int.reduceGE, Int.reduceEq, pvY, Nat.reduceMul, x_be, x_bn, bbE, eqOk81, eqOk87, eqOk197]
  simp only [pvAll, pvStd, pvDom] at hwf
  refine ⟨fun h0 => pc70 p (by simp only [Bool.not_eq_true', Bool.or_eq_false_iff, Bool.not_eq_false', decide_eq_true_eq] at h0; omega), fun h0 => pre_bad (c := kernBadI p) h0, fun h0 => ?_⟩
  rw [show kernOkI p = kernEndI p from by unfold kernOkI; rw [show kernBadI p = false from h0]; rfl]
  obtain ⟨hm, hv, hfl, hpi, hp, hq, hpa⟩ := kernBadI_facts h0
  clear h0
  have hvl : p.vfs.fss.length = 2 := by
    have hv' := hv
    simp only [vfsOkI, vfsBadI, Bool.and_eq_true, Bool.not_eq_true', Bool.or_eq_false_iff, Bool.not_eq_false', decide_eq_true_eq] at hv'
    have := hv'.1.1.1
    omega
  refine .inl ⟨[1, 3, 4, 5, 6, 69, 70, 71], fun _ => 4, fun k vs H => ∃ (i : Nat) (l : List Int) (e1 e2 : ME) (f1 : Int → Bool) (f2 : Int → Int → Int), i ≤ p.procs.length ∧ k = p.procs.length - i ∧ vs = [.ptr 0 13 0 0, .own 1 1 0 10, .mp 2, .mp 3, .int .i64 (itr (alN p) i 0), .sl 14 (p.procs.map Proc.enc), .int .i64 p.procs.length, .int .i64 i] ∧ H = [.rows 57 13 [[.sl 1 (p.mem.ram.text.map encS), .sl 1 (p.mem.ram.refs.map encI), .sl 1 (p.mem.swap.text.map encS), .sl 1 (p.mem.swap.refs.map encI), .sl 3 (p.mem.spaces.map Space.enc), .int .i64 p.mem.hand, .sl 1 (p.vfs.fss.map Fs.enc), .int .i64 p.vfs.mount, .sl 8 (p.files.map File.enc), .sl 3 (p.pipes.map Pipe.enc), .sl 14 (p.procs.map Proc.enc), .sl 4 (p.queue.tasks.map Task.enc), .int .i64 p.queue.floor]], .rows 3 1 (l.map encI), .map false e1, .map true e2] ∧ l.length = 10 ∧ Msp e1 f1 ∧ Mop e2 f2 ∧ l = rfS p i ∧ f1 = spS p i ∧ f2 = opS p i ∧ ∀ j, j < i → prI p j = true, fun _ => Nat.zero_le _, ?_, ?_⟩
  · simp only [pvB, ↓pvP, pvDom, pvRr, pvMm, Nat.reduceAdd, Nat.reduceEqDiff, Nat.reduceLeDiff, Nat.reduceLT, Nat.reduceSub, reduceIte, reduceCtorEq, pvI, Int.reduceToNat, Int.reduceLE, Int.reduceLT, Int.reduceMul, Int.reduceAdd, Int.reduceGT, Int.reduceGE, Int.reduceEq, pvY, Nat.reduceMul, x_be, x_bn, bbE, eqOk81, eqOk87, eqOk197]
    exact ⟨_, 0, _, [], [], _, _, Nat.zero_le _, rfl, rfl, rfl, by simp, Msp.nil, Mop.nil, rfl, rfl, rfl, fun j hj => absurd hj (Nat.not_lt_zero j)⟩
  · rintro k vs H - ⟨i, l, e1, e2, f1, f2, hi, rfl, rfl, rfl, hlen, hm1, hm2, hl, hf1, hf2, hP⟩
    subst hl hf1 hf2
    have hsp := hm1.1
    have hop := hm2.1
    rcases Nat.lt_or_ge i p.procs.length with h1 | h1
    · refine vc_body (by rfl) ?_
      simp (maxSteps := 4000000) only [pvB, ↓pvP, pvDom, pvRr, pvMm, Nat.reduceAdd, Nat.reduceEqDiff, Nat.reduceLeDiff, Nat.reduceLT, Nat.reduceSub, reduceIte, reduceCtorEq, pvI, Int.reduceToNat, Int.reduceLE, Int.reduceLT, Int.reduceMul, Int.reduceAdd, Int.reduceGT, Int.reduceGE, Int.reduceEq, pvY, Nat.reduceMul, x_be, x_bn, bbE, eqOk81, eqOk87, eqOk197, an35, pc35, an36, pc36, an67, h67, an68, pc68, an69, pc69', an70, an71, pc71, an72, pc72, an73, pc73, an74, pc74, an75, pc75, an76, an77, an78, pc78, rBuild, nz_i, nz_b, nz_s, ↓List.append, q_bly, q_label, zok3, zok4, key3, key81, hsp, hop]
      have hw : i ≤ 140737488355328 := by omega
      have next : ∀ (ha : aliveP (p.procs.getD i default) = false) (hpr : prI p i = true), ((List.all e1 fun e => hb 4 e.snd) && List.all e2 fun e => hb 4 e.snd) = true ∧ alN p i (itr (alN p) i 0) = itr (alN p) i 0 ∧ rfS p (i + 1) = rfS p i ∧ spS p (i + 1) = spS p i ∧ opS p (i + 1) = opS p i ∧ ∀ j, j < i + 1 → prI p j = true := by
        intro ha hpr
        refine ⟨by rw [hm1.2, hm2.2]; rfl, by simp only [alN, ha, q_bf], ?_, ?_, ?_, all_next hP hpr⟩
        · show rfF p i (rfS p i) = _
          simp only [rfF, ha, q_bf]
        · show spF p i (spS p i) = _
          simp only [spF, ha, q_bf]
        · show opF p i (opS p i) = _
          simp only [opF, ha, q_bf]
      refine ⟨fun _ => ⟨in_of i h1, fun h2 => ⟨fun h3 => all_bad h1 ((bif_t h2).trans (congrArg not h3)), fun h3 => ?_⟩, fun h2 => ⟨fun h3 => ⟨fun h4 => all_bad h1 ((bif_f h2).trans ((bif_t h3).trans (congrArg not h4))), fun h4 => ?_⟩, fun h3 => ⟨fun h4 => all_bad h1 ((bif_f h2).trans ((bif_f h3).trans (bif_t h4))), fun h4 => ⟨fun _ => pc76 _ _ hvl, fun h => ?_, fun h => ?_, fun h5 => all_bad h1 ((bif_f h2).trans ((bif_f h3).trans ((bif_f h4).trans (bif_t (c := prC p i) h5)))), fun h5 => ⟨fun h6 => all_bad h1 ((bif_f h2).trans ((bif_f h3).trans ((bif_f h4).trans ((bif_f (c := prC p i) h5).trans (bif_t (c := prD (p.procs.getD i default)) h6))))), fun h6 => ⟨by omega, ?_⟩⟩⟩⟩⟩⟩, fun h => absurd (of_decide_eq_false h) (by omega)⟩
      · have ha : aliveP (p.procs.getD i default) = false := by have := of_decide_eq_true h2; unfold aliveP inB; rw [this]; rfl
        obtain ⟨n1, n2, n3, n4, n5, n6⟩ := next ha ((bif_t h2).trans (congrArg not h3))
        exact ⟨n1, _, by omega, i + 1, _, e1, e2, _, _, h1, rfl, by rw [w_add hw]; show _ = [_, _, _, _, PV.int IntKind.i64 (alN p i (itr (alN p) i 0)), _, _, _]; rw [n2], rfl, hlen, hm1, hm2, n3.symm, n4.symm, n5.symm, n6⟩
      · have ha : aliveP (p.procs.getD i default) = false := by have := of_decide_eq_true h3; unfold aliveP inB; rw [this]; rfl
        obtain ⟨n1, n2, n3, n4, n5, n6⟩ := next ha ((bif_f h2).trans ((bif_t h3).trans (congrArg not h4)))
        exact ⟨n1, _, by omega, i + 1, _, e1, e2, _, _, h1, rfl, by rw [w_add hw]; show _ = [_, _, _, _, PV.int IntKind.i64 (alN p i (itr (alN p) i 0)), _, _, _]; rw [n2], rfl, hlen, hm1, hm2, n3.symm, n4.symm, n5.symm, n6⟩
      · simp only [Bool.not_eq_true', Bool.or_eq_false_iff, Bool.not_eq_false'] at h
        have hh := placeHas_in hvl h.2
        exact pc77 _ _ hh.1 hh.2
      · simp only [Bool.not_eq_true', Bool.or_eq_false_iff, Bool.not_eq_false', decide_eq_false_iff_not] at h
        exact fnd_in (decide_eq_true (by have := h.2; unfold taskAt at this; omega))
      clear next
      have ha : aliveP (p.procs.getD i default) = true := nb_f h4
      have hm1' := hm1.put (p.procs.getD i default).space
      have hm2' := hm2.put (p.procs.getD i default).dir.fs (p.procs.getD i default).dir.id
      have hfl5 : (p.procs.getD i default).fds.length ≤ 140737488355328 := by
        have h5' := h5
        simp only [prC0, Bool.or_eq_false_iff, Bool.not_eq_false', decide_eq_true_eq] at h5'
        omega
      refine .inl ⟨[1, 3, 4, 5, 6, 69, 70, 71, 238, 239, 240], fun _ => 4, fun k vs H => ∃ (j : Nat) (l' : List Int), j ≤ (p.procs.getD i default).fds.length ∧ k = (p.procs.getD i default).fds.length - j ∧ vs = [.ptr 0 13 0 0, .own 1 1 0 10, .mp 2, .mp 3, .int .i64 (IntKind.i64.wrap (itr (alN p) i 0 + 1)), .sl 14 (p.procs.map Proc.enc), .int .i64 p.procs.length, .int .i64 i, .sl 1 ((p.procs.getD i default).fds.map encI), .int .i64 (p.procs.getD i default).fds.length, .int .i64 j] ∧ H = [.rows 57 13 [[.sl 1 (p.mem.ram.text.map encS), .sl 1 (p.mem.ram.refs.map encI), .sl 1 (p.mem.swap.text.map encS), .sl 1 (p.mem.swap.refs.map encI), .sl 3 (p.mem.spaces.map Space.enc), .int .i64 p.mem.hand, .sl 1 (p.vfs.fss.map Fs.enc), .int .i64 p.vfs.mount, .sl 8 (p.files.map File.enc), .sl 3 (p.pipes.map Pipe.enc), .sl 14 (p.procs.map Proc.enc), .sl 4 (p.queue.tasks.map Task.enc), .int .i64 p.queue.floor]], .rows 3 1 (l'.map encI), .map false (mput [(p.procs.getD i default).space] (.bool true) e1), .map true (mput [(p.procs.getD i default).dir.fs, (p.procs.getD i default).dir.id] (.int .i64 (IntKind.i64.wrap (opS p i (p.procs.getD i default).dir.fs (p.procs.getD i default).dir.id + 1))) e2)] ∧ l'.length = 10 ∧ l' = itr (rfR p i) j (rfS p i) ∧ ∀ x, x < j → prFd p i x = true, fun _ => Nat.zero_le _, ?_, ?_⟩
      · simp only [pvB, ↓pvP, pvDom, pvRr, pvMm, Nat.reduceAdd, Nat.reduceEqDiff, Nat.reduceLeDiff, Nat.reduceLT, Nat.reduceSub, reduceIte, reduceCtorEq, pvI, Int.reduceToNat, Int.reduceLE, Int.reduceLT, Int.reduceMul, Int.reduceAdd, Int.reduceGT, Int.reduceGE, Int.reduceEq, pvY, Nat.reduceMul, x_be, x_bn, bbE, eqOk81, eqOk87, eqOk197]
        exact ⟨by rw [hm1'.2, hm2'.2]; rfl, _, 0, _, Nat.zero_le _, rfl, rfl, rfl, hlen, rfl, fun j hj => absurd hj (Nat.not_lt_zero j)⟩
      · rintro k vs H - ⟨j, l', hj, rfl, rfl, rfl, hl', hll, hP2⟩
        rcases Nat.lt_or_ge j (p.procs.getD i default).fds.length with h7 | h7
        · refine vc_body (by rfl) ?_
          simp (maxSteps := 4000000) only [pvB, ↓pvP, pvDom, pvRr, pvMm, Nat.reduceAdd, Nat.reduceEqDiff, Nat.reduceLeDiff, Nat.reduceLT, Nat.reduceSub, reduceIte, reduceCtorEq, pvI, Int.reduceToNat, Int.reduceLE, Int.reduceLT, Int.reduceMul, Int.reduceAdd, Int.reduceGT, Int.reduceGE, Int.reduceEq, pvY, Nat.reduceMul, x_be, x_bn, bbE, eqOk81, eqOk87, eqOk197, an35, pc35, an36, pc36, an67, h67, an68, pc68, an69, pc69', an70, an71, pc71, an72, pc72, an73, pc73, an74, pc74, an75, pc75, an76, an77, an78, pc78, rBuild, nz_i, nz_b, nz_s, ↓List.append, q_bly, q_label, zok3, zok4, key3, key81, hsp, hop]
          exact ⟨fun _ => ⟨in_of j h7, fun h8 => ⟨by rw [hm1'.2, hm2'.2]; rfl, _, by omega, j + 1, _, h7, rfl, by rw [w_add (by omega)], rfl, hl', by show _ = rfR p i j (itr (rfR p i) j (rfS p i)); rw [← hll]; exact (bif_tI h8).symm, all_next hP2 (bif_t h8)⟩, fun h8 => ⟨fun h9 => by have := inB_of h9; omega, fun h9 => all_bad h1 ((bif_f h2).trans ((bif_f h3).trans ((bif_f h4).trans ((bif_f (c := prC p i) h5).trans ((bif_f (c := prD (p.procs.getD i default)) h6).trans (all_false h7 ((bif_f h8).trans (congrArg not h9)))))))), fun h9 => by
            have h9' := h9
            simp only [Bool.or_eq_false_iff, Bool.not_eq_false'] at h9'
            have hb := inB_of h9'.1
            have hb1 : 0 ≤ (p.procs.getD i default).fds.getD j 0 ∧ (p.procs.getD i default).fds.getD j 0 < ((10 : Nat) : Int) := by omega
            have hb2 : ((p.procs.getD i default).fds.getD j 0).toNat < l'.length := by omega
            exact ⟨hb1, hb2, hb1, hb2, by rw [hm1'.2, hm2'.2]; rfl, _, by omega, j + 1, _, h7, rfl, by rw [w_add (by omega)], rfl, by rw [inc_len']; exact hl', by show _ = rfR p i j (itr (rfR p i) j (rfS p i)); rw [← hll]; exact (bif_fI h8).symm, all_next hP2 ((bif_f h8).trans (congrArg not h9))⟩⟩⟩, fun h => absurd (of_decide_eq_false h) (by omega)⟩
        · refine vc_exit (by rfl) ?_
          simp (maxSteps := 4000000) only [pvB, ↓pvP, pvDom, pvRr, pvMm, Nat.reduceAdd, Nat.reduceEqDiff, Nat.reduceLeDiff, Nat.reduceLT, Nat.reduceSub, reduceIte, reduceCtorEq, pvI, Int.reduceToNat, Int.reduceLE, Int.reduceLT, Int.reduceMul, Int.reduceAdd, Int.reduceGT, Int.reduceGE, Int.reduceEq, pvY, Nat.reduceMul, x_be, x_bn, bbE, eqOk81, eqOk87, eqOk197, an35, pc35, an36, pc36, an67, h67, an68, pc68, an69, pc69', an70, an71, pc71, an72, pc72, an73, pc73, an74, pc74, an75, pc75, an76, an77, an78, pc78, rBuild, nz_i, nz_b, nz_s, ↓List.append, q_bly, q_label, zok3, zok4, key3, key81, hsp, hop]
          obtain rfl : j = (p.procs.getD i default).fds.length := by omega
          refine ⟨fun h => absurd (of_decide_eq_true h) (by omega), fun _ => ⟨by rw [hm1'.2, hm2'.2]; rfl, _, by omega, i + 1, _, _, _, _, _, h1, rfl, by rw [w_add hw]; show _ = [_, _, _, _, PV.int IntKind.i64 (alN p i (itr (alN p) i 0)), _, _, _]; simp only [alN, ha, q_bt], rfl, hl', hm1', hm2', ?_, ?_, ?_, all_next hP ((bif_f h2).trans ((bif_f h3).trans ((bif_f h4).trans ((bif_f (c := prC p i) h5).trans ((bif_f (c := prD (p.procs.getD i default)) h6).trans (all_true hP2))))))⟩⟩
          · rw [hll]
            show _ = rfF p i (rfS p i)
            simp only [rfF, ha, q_bt]
          · show _ = spF p i (spS p i)
            simp only [spF, ha, q_bt]
          · show _ = opF p i (opS p i)
            simp only [opF, ha, q_bt]
    · refine vc_exit (by rfl) ?_
      simp (maxSteps := 4000000) only [pvB, ↓pvP, pvDom, pvRr, pvMm, Nat.reduceAdd, Nat.reduceEqDiff, Nat.reduceLeDiff, Nat.reduceLT, Nat.reduceSub, reduceIte, reduceCtorEq, pvI, Int.reduceToNat, Int.reduceLE, Int.reduceLT, Int.reduceMul, Int.reduceAdd, Int.reduceGT, Int.reduceGE, Int.reduceEq, pvY, Nat.reduceMul, x_be, x_bn, bbE, eqOk81, eqOk87, eqOk197, an35, pc35, an36, pc36, an67, h67, an68, pc68, an69, pc69', an70, an71, pc71, an72, pc72, an73, pc73, an74, pc74, an75, pc75, an76, an77, an78, pc78, rBuild, nz_i, nz_b, nz_s, ↓List.append, q_bly, q_label, zok3, zok4, key3, key81, hop]
      obtain rfl : i = p.procs.length := by omega
      refine ⟨fun h => absurd (of_decide_eq_true h) (by omega), fun _ => ?_⟩
      rw [kernEndI, all_true hP, Bool.true_and]
      clear hP hi h1
      have hl5 : rfS p p.procs.length = rfS p 5 := by rw [hp]
      generalize rfS p p.procs.length = l at hl5 hlen
      subst hl5
      clear hsp
      refine .inl ⟨[1, 3, 5, 6, 268, 269, 270], fun _ => 4, fun k vs H => ∃ (i : Nat), i ≤ p.mem.spaces.length ∧ k = p.mem.spaces.length - i ∧ vs = [.ptr 0 13 0 0, .own 1 1 0 10, .mp 3, .int .i64 (itr (alM p) i (itr (alN p) p.procs.length 0)), .sl 3 (p.mem.spaces.map Space.enc), .int .i64 p.mem.spaces.length, .int .i64 i] ∧ H = [.rows 57 13 [[.sl 1 (p.mem.ram.text.map encS), .sl 1 (p.mem.ram.refs.map encI), .sl 1 (p.mem.swap.text.map encS), .sl 1 (p.mem.swap.refs.map encI), .sl 3 (p.mem.spaces.map Space.enc), .int .i64 p.mem.hand, .sl 1 (p.vfs.fss.map Fs.enc), .int .i64 p.vfs.mount, .sl 8 (p.files.map File.enc), .sl 3 (p.pipes.map Pipe.enc), .sl 14 (p.procs.map Proc.enc), .sl 4 (p.queue.tasks.map Task.enc), .int .i64 p.queue.floor]], .rows 3 1 ((rfS p 5).map encI), .map false e1, .map true e2], fun _ => Nat.zero_le _, ?_, ?_⟩
      · simp only [pvB, ↓pvP, pvDom, pvRr, pvMm, Nat.reduceAdd, Nat.reduceEqDiff, Nat.reduceLeDiff, Nat.reduceLT, Nat.reduceSub, reduceIte, reduceCtorEq, pvI, Int.reduceToNat, Int.reduceLE, Int.reduceLT, Int.reduceMul, Int.reduceAdd, Int.reduceGT, Int.reduceGE, Int.reduceEq, pvY, Nat.reduceMul, x_be, x_bn, bbE, eqOk81, eqOk87, eqOk197]
        exact ⟨by rw [hm1.2, hm2.2]; rfl, _, 0, Nat.zero_le _, rfl, rfl⟩
      · rintro k vs H - ⟨i, hi, rfl, rfl, rfl⟩
        rcases Nat.lt_or_ge i p.mem.spaces.length with h1 | h1
        · refine vc_body (by rfl) ?_
          simp (maxSteps := 4000000) only [pvB, ↓pvP, pvDom, pvRr, pvMm, Nat.reduceAdd, Nat.reduceEqDiff, Nat.reduceLeDiff, Nat.reduceLT, Nat.reduceSub, reduceIte, reduceCtorEq, pvI, Int.reduceToNat, Int.reduceLE, Int.reduceLT, Int.reduceMul, Int.reduceAdd, Int.reduceGT, Int.reduceGE, Int.reduceEq, pvY, Nat.reduceMul, x_be, x_bn, bbE, eqOk81, eqOk87, eqOk197, an35, pc35, an36, pc36, an67, h67, an68, pc68, an69, pc69', an70, an71, pc71, an72, pc72, an73, pc73, an74, pc74, an75, pc75, an76, an77, an78, pc78, rBuild, nz_i, nz_b, nz_s, ↓List.append, q_bly, q_label, zok3, zok4, key3, key81, hop]
          exact ⟨fun _ => ⟨in_of i h1, fun h2 => ⟨by rw [hm1.2, hm2.2]; rfl, _, by omega, i + 1, h1, rfl, by rw [w_add (by omega)]; simp only [itr, alM, h2, q_bt]⟩, fun h2 => ⟨by rw [hm1.2, hm2.2]; rfl, _, by omega, i + 1, h1, rfl, by rw [w_add (by omega)]; simp only [itr, alM, h2, q_bf]⟩⟩, fun h => absurd (of_decide_eq_false h) (by omega)⟩
        · refine vc_exit (by rfl) ?_
          simp (maxSteps := 4000000) only [pvB, ↓pvP, pvDom, pvRr, pvMm, Nat.reduceAdd, Nat.reduceEqDiff, Nat.reduceLeDiff, Nat.reduceLT, Nat.reduceSub, reduceIte, reduceCtorEq, pvI, Int.reduceToNat, Int.reduceLE, Int.reduceLT, Int.reduceMul, Int.reduceAdd, Int.reduceGT, Int.reduceGE, Int.reduceEq, pvY, Nat.reduceMul, x_be, x_bn, bbE, eqOk81, eqOk87, eqOk197, an35, pc35, an36, pc36, an67, h67, an68, pc68, an69, pc69', an70, an71, pc71, an72, pc72, an73, pc73, an74, pc74, an75, pc75, an76, an77, an78, pc78, rBuild, nz_i, nz_b, nz_s, ↓List.append, q_bly, q_label, zok3, zok4, key3, key81, hop]
          obtain rfl : i = p.mem.spaces.length := by omega
          refine ⟨fun h => absurd (of_decide_eq_true h) (by omega), fun _ => ?_⟩
          clear hi h1
          refine .inl ⟨[1, 3, 5, 6, 281, 282, 283], fun _ => 4, fun k vs H => ∃ (i : Nat), i ≤ p.queue.tasks.length ∧ k = p.queue.tasks.length - i ∧ vs = [.ptr 0 13 0 0, .own 1 1 0 10, .mp 3, .int .i64 (alS p), .sl 4 (p.queue.tasks.map Task.enc), .int .i64 p.queue.tasks.length, .int .i64 i] ∧ H = [.rows 57 13 [[.sl 1 (p.mem.ram.text.map encS), .sl 1 (p.mem.ram.refs.map encI), .sl 1 (p.mem.swap.text.map encS), .sl 1 (p.mem.swap.refs.map encI), .sl 3 (p.mem.spaces.map Space.enc), .int .i64 p.mem.hand, .sl 1 (p.vfs.fss.map Fs.enc), .int .i64 p.vfs.mount, .sl 8 (p.files.map File.enc), .sl 3 (p.pipes.map Pipe.enc), .sl 14 (p.procs.map Proc.enc), .sl 4 (p.queue.tasks.map Task.enc), .int .i64 p.queue.floor]], .rows 3 1 ((rfS p 5).map encI), .map false e1, .map true e2] ∧ ∀ j, j < i → tkI p j = true, fun _ => Nat.zero_le _, ?_, ?_⟩
          · simp only [pvB, ↓pvP, pvDom, pvRr, pvMm, Nat.reduceAdd, Nat.reduceEqDiff, Nat.reduceLeDiff, Nat.reduceLT, Nat.reduceSub, reduceIte, reduceCtorEq, pvI, Int.reduceToNat, Int.reduceLE, Int.reduceLT, Int.reduceMul, Int.reduceAdd, Int.reduceGT, Int.reduceGE, Int.reduceEq, pvY, Nat.reduceMul, x_be, x_bn, bbE, eqOk81, eqOk87, eqOk197]
            exact ⟨by rw [hm1.2, hm2.2]; rfl, _, 0, Nat.zero_le _, rfl, rfl, fun j hj => absurd hj (Nat.not_lt_zero j)⟩
          · rintro k vs H - ⟨i, hi, rfl, rfl, rfl, hP⟩
            rcases Nat.lt_or_ge i p.queue.tasks.length with h1 | h1
            · refine vc_body (by rfl) ?_
              simp (maxSteps := 4000000) only [pvB, ↓pvP, pvDom, pvRr, pvMm, Nat.reduceAdd, Nat.reduceEqDiff, Nat.reduceLeDiff, Nat.reduceLT, Nat.reduceSub, reduceIte, reduceCtorEq, pvI, Int.reduceToNat, Int.reduceLE, Int.reduceLT, Int.reduceMul, Int.reduceAdd, Int.reduceGT, Int.reduceGE, Int.reduceEq, pvY, Nat.reduceMul, x_be, x_bn, bbE, eqOk81, eqOk87, eqOk197, an35, pc35, an36, pc36, an67, h67, an68, pc68, an69, pc69', an70, an71, pc71, an72, pc72, an73, pc73, an74, pc74, an75, pc75, an76, an77, an78, pc78, rBuild, nz_i, nz_b, nz_s, ↓List.append, q_bly, q_label, zok3, zok4, key3, key81, hop]
              exact ⟨fun _ => ⟨in_of i h1, fun h2 => by have := inB_of h2; omega, fun h2 => all_bad h1 (congrArg not h2), fun h2 => ⟨by rw [hm1.2, hm2.2]; rfl, _, by omega, i + 1, h1, rfl, by rw [w_add (by omega)], all_next hP (congrArg not h2)⟩⟩, fun h => absurd (of_decide_eq_false h) (by omega)⟩
            · refine vc_exit (by rfl) ?_
              simp (maxSteps := 4000000) only [pvB, ↓pvP, pvDom, pvRr, pvMm, Nat.reduceAdd, Nat.reduceEqDiff, Nat.reduceLeDiff, Nat.reduceLT, Nat.reduceSub, reduceIte, reduceCtorEq, pvI, Int.reduceToNat, Int.reduceLE, Int.reduceLT, Int.reduceMul, Int.reduceAdd, Int.reduceGT, Int.reduceGE, Int.reduceEq, pvY, Nat.reduceMul, x_be, x_bn, bbE, eqOk81, eqOk87, eqOk197, an35, pc35, an36, pc36, an67, h67, an68, pc68, an69, pc69', an70, an71, pc71, an72, pc72, an73, pc73, an74, pc74, an75, pc75, an76, an77, an78, pc78, rBuild, nz_i, nz_b, nz_s, ↓List.append, q_bly, q_label, zok3, zok4, key3, key81, hop]
              obtain rfl : i = p.queue.tasks.length := by omega
              refine ⟨fun h => absurd (of_decide_eq_true h) (by omega), fun _ => ?_⟩
              rw [all_true hP, Bool.true_and]
              clear hP hi h1
              refine ⟨fun h => by rw [nb_t h]; exact Le.refl _, fun h => ?_⟩
              rw [nb_f h, Bool.true_and]
              clear h
              refine .inl ⟨[1, 3, 5, 16, 17, 307, 308, 309], fun _ => 6, fun k vs H => ∃ (i : Nat) (r w : List Int) (e1 : ME) (f1 : Int → Bool) (e2 : ME) (f2 : Int → Int → Int), i ≤ p.files.length ∧ k = p.files.length - i ∧ vs = [.ptr 0 13 0 0, .own 1 1 0 10, .mp 3, .own 4 1 0 3, .own 5 1 0 3, .sl 8 (p.files.map File.enc), .int .i64 p.files.length, .int .i64 i] ∧ H = [.rows 57 13 [[.sl 1 (p.mem.ram.text.map encS), .sl 1 (p.mem.ram.refs.map encI), .sl 1 (p.mem.swap.text.map encS), .sl 1 (p.mem.swap.refs.map encI), .sl 3 (p.mem.spaces.map Space.enc), .int .i64 p.mem.hand, .sl 1 (p.vfs.fss.map Fs.enc), .int .i64 p.vfs.mount, .sl 8 (p.files.map File.enc), .sl 3 (p.pipes.map Pipe.enc), .sl 14 (p.procs.map Proc.enc), .sl 4 (p.queue.tasks.map Task.enc), .int .i64 p.queue.floor]], .rows 3 1 ((rfS p 5).map encI), .map false e1, .map true e2, .rows 3 1 (r.map encI), .rows 3 1 (w.map encI)] ∧ r.length = 3 ∧ w.length = 3 ∧ Msp e1 f1 ∧ Mop e2 f2 ∧ r = rdSI p i ∧ w = wrSI p i ∧ f2 = opT p i ∧ ∀ j, j < i → fiI p j = true, fun _ => Nat.zero_le _, ?_, ?_⟩
              · simp only [pvB, ↓pvP, pvDom, pvRr, pvMm, Nat.reduceAdd, Nat.reduceEqDiff, Nat.reduceLeDiff, Nat.reduceLT, Nat.reduceSub, reduceIte, reduceCtorEq, pvI, Int.reduceToNat, Int.reduceLE, Int.reduceLT, Int.reduceMul, Int.reduceAdd, Int.reduceGT, Int.reduceGE, Int.reduceEq, pvY, Nat.reduceMul, x_be, x_bn, bbE, eqOk81, eqOk87, eqOk197]
                exact ⟨by rw [hm1.2, hm2.2]; rfl, _, 0, _, _, e1, _, e2, _, Nat.zero_le _, rfl, rfl, rfl, by simp, by simp, hm1, hm2, rfl, rfl, by rw [hp]; rfl, fun j hj => absurd hj (Nat.not_lt_zero j)⟩
              · rintro k vs H - ⟨i, r, w, e1, f1, e2, f2, hi, rfl, rfl, rfl, hrl, hwl, hm1, hm2, hr, hw, hf2, hP⟩
                subst hr hw hf2
                have hop := hm2.1
                rcases Nat.lt_or_ge i p.files.length with h1 | h1
                · refine vc_body (by rfl) ?_
                  simp (maxSteps := 4000000) only [pvB, ↓pvP, pvDom, pvRr, pvMm, Nat.reduceAdd, Nat.reduceEqDiff, Nat.reduceLeDiff, Nat.reduceLT, Nat.reduceSub, reduceIte, reduceCtorEq, pvI, Int.reduceToNat, Int.reduceLE, Int.reduceLT, Int.reduceMul, Int.reduceAdd, Int.reduceGT, Int.reduceGE, Int.reduceEq, pvY, Nat.reduceMul, x_be, x_bn, bbE, eqOk81, eqOk87, eqOk197, an35, pc35, an36, pc36, an67, h67, an68, pc68, an69, pc69', an70, an71, pc71, an72, pc72, an73, pc73, an74, pc74, an75, pc75, an76, an77, an78, pc78, rBuild, nz_i, nz_b, nz_s, ↓List.append, q_bly, q_label, zok3, zok4, key3, key81, hop]
                  refine ⟨fun _ => ⟨in_of i h1, ⟨by omega, by omega⟩, by omega, rfl, fun h2 => all_bad h1 (bif_t (c := fiA p i) h2), fun h2 => ⟨fun h3 => ?_, fun h3 => ⟨fun h4 => ⟨pc76 _ _ hvl, fun h => ?_, fun h5 => all_bad h1 ((bif_f (c := fiA p i) h2).trans ((bif_f h3).trans ((bif_t h4).trans (congrArg not h5)))), fun h5 => ⟨by omega, by rw [hm1.2, (hm2.put _ _).2]; rfl, ?_⟩⟩, fun h4 => ⟨fun h5 => all_bad h1 ((bif_f (c := fiA p i) h2).trans ((bif_f h3).trans ((bif_f h4).trans (congrArg not h5)))), fun h5 => ?_⟩⟩⟩⟩, fun h => absurd (of_decide_eq_false h) (by omega)⟩
                  · exact ⟨by rw [hm1.2, hm2.2]; rfl, _, by omega, i + 1, _, _, e1, f1, e2, _, h1, rfl, by rw [w_add (by omega)], rfl, hrl, hwl, hm1, hm2, by show _ = rdI p i (rdSI p i); simp only [rdI, h3, q_bt, q_bf] <;> rfl, by show _ = wrI p i (wrSI p i); simp only [wrI, h3, q_bt, q_bf] <;> rfl, by show _ = opG p i (opT p i); simp only [opG, h3, q_bt, q_bf] <;> rfl, all_next hP ((bif_f (c := fiA p i) h2).trans (bif_t h3))⟩
                  · simp only [Bool.not_eq_true', Bool.or_eq_false_iff, Bool.not_eq_false'] at h
                    have hh := placeHas_in hvl h.1
                    exact pc77 _ _ hh.1 hh.2
                  · exact ⟨_, by omega, i + 1, _, _, e1, f1, _, _, h1, rfl, by rw [w_add (by omega)], rfl, hrl, hwl, hm1, hm2.put _ _, by show _ = rdI p i (rdSI p i); simp only [rdI, h3, h4, q_bt, q_bf] <;> rfl, by show _ = wrI p i (wrSI p i); simp only [wrI, h3, h4, q_bt, q_bf] <;> rfl, by show _ = opG p i (opT p i); simp only [opG, h3, h4, q_bt, q_bf] <;> rfl, all_next hP ((bif_f (c := fiA p i) h2).trans ((bif_f h3).trans ((bif_t h4).trans (congrArg not h5))))⟩
                  · have hpb : 0 ≤ (p.files.getD i default).pipe ∧ (p.files.getD i default).pipe < ((3 : Nat) : Int) := by
                      have h5' := h5
                      simp only [Bool.or_eq_false_iff, Bool.not_eq_false'] at h5'
                      have := inB_of h5'.1.1.1.1
                      omega
                    have hpb2 : (p.files.getD i default).pipe.toNat < (rdSI p i).length := by omega
                    have hpb3 : (p.files.getD i default).pipe.toNat < (wrSI p i).length := by omega
                    have hfn : fiI p i = true := (bif_f (c := fiA p i) h2).trans ((bif_f h3).trans ((bif_f h4).trans (congrArg not h5)))
                    exact ⟨fun h6 => ⟨hpb, hpb2, hpb, hpb2, by rw [hm1.2, hm2.2]; rfl, _, by omega, i + 1, _, _, e1, f1, e2, _, h1, rfl, by rw [w_add (by omega)], rfl, by rw [inc_len']; exact hrl, hwl, hm1, hm2, by show _ = rdI p i (rdSI p i); simp only [rdI, h3, h4, h6, q_bt, q_bf] <;> rfl, by show _ = wrI p i (wrSI p i); simp only [wrI, h3, h4, h6, q_bt, q_bf] <;> rfl, by show _ = opG p i (opT p i); simp only [opG, h3, h4, h6, q_bt, q_bf] <;> rfl, all_next hP hfn⟩,
                      fun h6 => ⟨hpb, hpb3, hpb, hpb3, by rw [hm1.2, hm2.2]; rfl, _, by omega, i + 1, _, _, e1, f1, e2, _, h1, rfl, by rw [w_add (by omega)], rfl, hrl, by rw [inc_len']; exact hwl, hm1, hm2, by show _ = rdI p i (rdSI p i); simp only [rdI, h3, h4, h6, q_bt, q_bf] <;> rfl, by show _ = wrI p i (wrSI p i); simp only [wrI, h3, h4, h6, q_bt, q_bf] <;> rfl, by show _ = opG p i (opT p i); simp only [opG, h3, h4, h6, q_bt, q_bf] <;> rfl, all_next hP hfn⟩⟩
                · refine vc_exit (by rfl) ?_
                  simp (maxSteps := 4000000) only [pvB, ↓pvP, pvDom, pvRr, pvMm, Nat.reduceAdd, Nat.reduceEqDiff, Nat.reduceLeDiff, Nat.reduceLT, Nat.reduceSub, reduceIte, reduceCtorEq, pvI, Int.reduceToNat, Int.reduceLE, Int.reduceLT, Int.reduceMul, Int.reduceAdd, Int.reduceGT, Int.reduceGE, Int.reduceEq, pvY, Nat.reduceMul, x_be, x_bn, bbE, eqOk81, eqOk87, eqOk197, an35, pc35, an36, pc36, an67, h67, an68, pc68, an69, pc69', an70, an71, pc71, an72, pc72, an73, pc73, an74, pc74, an75, pc75, an76, an77, an78, pc78, rBuild, nz_i, nz_b, nz_s, ↓List.append, q_bly, q_label, zok3, zok4, key3, key81, hop]
                  obtain rfl : i = p.files.length := by omega
                  refine ⟨fun h => absurd (of_decide_eq_true h) (by omega), fun _ => ?_⟩
                  rw [all_true hP, Bool.true_and]
                  clear hP hi h1
                  rw [hfl] at hrl hwl hm2 hop ⊢
                  refine .inl ⟨[1, 5, 16, 17, 426, 427, 428], fun _ => 6, fun k vs H => ∃ (i : Nat), i ≤ p.pipes.length ∧ k = p.pipes.length - i ∧ vs = [.ptr 0 13 0 0, .mp 3, .own 4 1 0 3, .own 5 1 0 3, .sl 3 (p.pipes.map Pipe.enc), .int .i64 p.pipes.length, .int .i64 i] ∧ H = [.rows 57 13 [[.sl 1 (p.mem.ram.text.map encS), .sl 1 (p.mem.ram.refs.map encI), .sl 1 (p.mem.swap.text.map encS), .sl 1 (p.mem.swap.refs.map encI), .sl 3 (p.mem.spaces.map Space.enc), .int .i64 p.mem.hand, .sl 1 (p.vfs.fss.map Fs.enc), .int .i64 p.vfs.mount, .sl 8 (p.files.map File.enc), .sl 3 (p.pipes.map Pipe.enc), .sl 14 (p.procs.map Proc.enc), .sl 4 (p.queue.tasks.map Task.enc), .int .i64 p.queue.floor]], .rows 3 1 ((rfS p 5).map encI), .map false e1, .map true e2, .rows 3 1 ((rdSI p 10).map encI), .rows 3 1 ((wrSI p 10).map encI)] ∧ ∀ j, j < i → piI p j = true, fun _ => Nat.zero_le _, ?_, ?_⟩
                  · simp only [pvB, ↓pvP, pvDom, pvRr, pvMm, Nat.reduceAdd, Nat.reduceEqDiff, Nat.reduceLeDiff, Nat.reduceLT, Nat.reduceSub, reduceIte, reduceCtorEq, pvI, Int.reduceToNat, Int.reduceLE, Int.reduceLT, Int.reduceMul, Int.reduceAdd, Int.reduceGT, Int.reduceGE, Int.reduceEq, pvY, Nat.reduceMul, x_be, x_bn, bbE, eqOk81, eqOk87, eqOk197]
                    exact ⟨by rw [hm1.2, hm2.2]; rfl, _, 0, Nat.zero_le _, rfl, rfl, fun j hj => absurd hj (Nat.not_lt_zero j)⟩
                  · rintro k vs H - ⟨i, hi, rfl, rfl, rfl, hP⟩
                    rcases Nat.lt_or_ge i p.pipes.length with h1 | h1
                    · refine vc_body (by rfl) ?_
                      simp (maxSteps := 4000000) only [pvB, ↓pvP, pvDom, pvRr, pvMm, Nat.reduceAdd, Nat.reduceEqDiff, Nat.reduceLeDiff, Nat.reduceLT, Nat.reduceSub, reduceIte, reduceCtorEq, pvI, Int.reduceToNat, Int.reduceLE, Int.reduceLT, Int.reduceMul, Int.reduceAdd, Int.reduceGT, Int.reduceGE, Int.reduceEq, pvY, Nat.reduceMul, x_be, x_bn, bbE, eqOk81, eqOk87, eqOk197, an35, pc35, an36, pc36, an67, h67, an68, pc68, an69, pc69', an70, an71, pc71, an72, pc72, an73, pc73, an74, pc74, an75, pc75, an76, an77, an78, pc78, rBuild, nz_i, nz_b, nz_s, ↓List.append, q_bly, q_label, zok3, zok4, key3, key81, hop]
                      exact ⟨fun _ => ⟨in_of i h1, fun _ => ⟨by omega, by omega⟩, fun _ => by omega, fun _ => ⟨by omega, by omega⟩, fun _ => by omega, fun h2 => all_bad h1 (congrArg not h2), fun h2 => ⟨by rw [hm1.2, hm2.2]; rfl, _, by omega, i + 1, h1, rfl, by rw [w_add (by omega)], all_next hP (congrArg not h2)⟩⟩, fun h => absurd (of_decide_eq_false h) (by omega)⟩
                    · refine vc_exit (by rfl) ?_
                      simp (maxSteps := 4000000) only [pvB, ↓pvP, pvDom, pvRr, pvMm, Nat.reduceAdd, Nat.reduceEqDiff, Nat.reduceLeDiff, Nat.reduceLT, Nat.reduceSub, reduceIte, reduceCtorEq, pvI, Int.reduceToNat, Int.reduceLE, Int.reduceLT, Int.reduceMul, Int.reduceAdd, Int.reduceGT, Int.reduceGE, Int.reduceEq, pvY, Nat.reduceMul, x_be, x_bn, bbE, eqOk81, eqOk87, eqOk197, an35, pc35, an36, pc36, an67, h67, an68, pc68, an69, pc69', an70, an71, pc71, an72, pc72, an73, pc73, an74, pc74, an75, pc75, an76, an77, an78, pc78, rBuild, nz_i, nz_b, nz_s, ↓List.append, q_bly, q_label, zok3, zok4, key3, key81, hop]
                      obtain rfl : i = p.pipes.length := by omega
                      refine ⟨fun h => absurd (of_decide_eq_true h) (by omega), fun _ => ?_⟩
                      rw [all_true hP, Bool.true_and]
                      clear hP hi h1
                      have hm2' : Mop (bif decide (p.vfs.mount ≥ 0) then mput [0, p.vfs.mount] (.int .i64 (IntKind.i64.wrap (opT p 10 0 p.vfs.mount + 1))) e2 else e2) (opM p) := by
                        unfold opM
                        cases decide (p.vfs.mount ≥ 0)
                        · exact hm2
                        · exact hm2.put _ _
                      refine ⟨fun hmt => ?_, fun hmt => ?_⟩
                      · rw [bif_tI hmt] at hm2'
                        generalize mput [0, p.vfs.mount] (.int .i64 (IntKind.i64.wrap (opT p 10 0 p.vfs.mount + 1))) e2 = e3 at hm2' ⊢
                        have hop' := hm2'.1
                        refine ⟨by omega, ?_⟩
                        refine .inl ⟨[1, 5, 470, 471, 472], fun _ => 6, fun k vs H => ∃ (f : Nat), f ≤ p.vfs.fss.length ∧ k = p.vfs.fss.length - f ∧ vs = [.ptr 0 13 0 0, .mp 3, .sl 1 (p.vfs.fss.map Fs.enc), .int .i64 p.vfs.fss.length, .int .i64 f] ∧ H = [.rows 57 13 [[.sl 1 (p.mem.ram.text.map encS), .sl 1 (p.mem.ram.refs.map encI), .sl 1 (p.mem.swap.text.map encS), .sl 1 (p.mem.swap.refs.map encI), .sl 3 (p.mem.spaces.map Space.enc), .int .i64 p.mem.hand, .sl 1 (p.vfs.fss.map Fs.enc), .int .i64 p.vfs.mount, .sl 8 (p.files.map File.enc), .sl 3 (p.pipes.map Pipe.enc), .sl 14 (p.procs.map Proc.enc), .sl 4 (p.queue.tasks.map Task.enc), .int .i64 p.queue.floor]], .rows 3 1 ((rfS p 5).map encI), .map false e1, .map true e3, .rows 3 1 ((rdSI p 10).map encI), .rows 3 1 ((wrSI p 10).map encI)] ∧ ∀ j, j < f → fsI p j = true, fun _ => Nat.zero_le _, ?_, ?_⟩
                        · simp only [pvB, ↓pvP, pvDom, pvRr, pvMm, Nat.reduceAdd, Nat.reduceEqDiff, Nat.reduceLeDiff, Nat.reduceLT, Nat.reduceSub, reduceIte, reduceCtorEq, pvI, Int.reduceToNat, Int.reduceLE, Int.reduceLT, Int.reduceMul, Int.reduceAdd, Int.reduceGT, Int.reduceGE, Int.reduceEq, pvY, Nat.reduceMul, x_be, x_bn, bbE, eqOk81, eqOk87, eqOk197]
                          exact ⟨by rw [hm1.2, hm2'.2]; rfl, _, 0, Nat.zero_le _, rfl, rfl, fun j hj => absurd hj (Nat.not_lt_zero j)⟩
                        · rintro k vs H - ⟨f, hf, rfl, rfl, rfl, hP⟩
                          rcases Nat.lt_or_ge f p.vfs.fss.length with h1 | h1
                          · refine vc_body (by rfl) ?_
                            simp (maxSteps := 4000000) only [pvB, ↓pvP, pvDom, pvRr, pvMm, Nat.reduceAdd, Nat.reduceEqDiff, Nat.reduceLeDiff, Nat.reduceLT, Nat.reduceSub, reduceIte, reduceCtorEq, pvI, Int.reduceToNat, Int.reduceLE, Int.reduceLT, Int.reduceMul, Int.reduceAdd, Int.reduceGT, Int.reduceGE, Int.reduceEq, pvY, Nat.reduceMul, x_be, x_bn, bbE, eqOk81, eqOk87, eqOk197, an35, pc35, an36, pc36, an67, h67, an68, pc68, an69, pc69', an70, an71, pc71, an72, pc72, an73, pc73, an74, pc74, an75, pc75, an76, an77, an78, pc78, rBuild, nz_i, nz_b, nz_s, ↓List.append, q_bly, q_label, zok3, zok4, key3, key81, hop']
                            refine ⟨fun _ => ⟨in_of f h1, ?_⟩, fun h => absurd (of_decide_eq_false h) (by omega)⟩
                            have hnl : (p.vfs.fss.getD f default).nodes.length ≤ 140737488355328 := (hwf.2.2.2.2.2.1.2 _ (List.getD_eq_getElem?_getD (l := p.vfs.fss) (i := f) (a := default) ▸ by simp [h1])).1
                            refine .inl ⟨[1, 5, 470, 471, 472, 22, 478, 479, 480], fun _ => 6, fun k vs H => ∃ (i : Nat), i ≤ (p.vfs.fss.getD f default).nodes.length ∧ k = (p.vfs.fss.getD f default).nodes.length - i ∧ vs = [.ptr 0 13 0 0, .mp 3, .sl 1 (p.vfs.fss.map Fs.enc), .int .i64 p.vfs.fss.length, .int .i64 f, .int .i64 f, .sl 9 ((p.vfs.fss.getD f default).nodes.map Inode.enc), .int .i64 (p.vfs.fss.getD f default).nodes.length, .int .i64 i] ∧ H = [.rows 57 13 [[.sl 1 (p.mem.ram.text.map encS), .sl 1 (p.mem.ram.refs.map encI), .sl 1 (p.mem.swap.text.map encS), .sl 1 (p.mem.swap.refs.map encI), .sl 3 (p.mem.spaces.map Space.enc), .int .i64 p.mem.hand, .sl 1 (p.vfs.fss.map Fs.enc), .int .i64 p.vfs.mount, .sl 8 (p.files.map File.enc), .sl 3 (p.pipes.map Pipe.enc), .sl 14 (p.procs.map Proc.enc), .sl 4 (p.queue.tasks.map Task.enc), .int .i64 p.queue.floor]], .rows 3 1 ((rfS p 5).map encI), .map false e1, .map true e3, .rows 3 1 ((rdSI p 10).map encI), .rows 3 1 ((wrSI p 10).map encI)] ∧ ∀ j, j < i → noI p f j = true, fun _ => Nat.zero_le _, ?_, ?_⟩
                            · simp only [pvB, ↓pvP, pvDom, pvRr, pvMm, Nat.reduceAdd, Nat.reduceEqDiff, Nat.reduceLeDiff, Nat.reduceLT, Nat.reduceSub, reduceIte, reduceCtorEq, pvI, Int.reduceToNat, Int.reduceLE, Int.reduceLT, Int.reduceMul, Int.reduceAdd, Int.reduceGT, Int.reduceGE, Int.reduceEq, pvY, Nat.reduceMul, x_be, x_bn, bbE, eqOk81, eqOk87, eqOk197]
                              exact ⟨by rw [hm1.2, hm2'.2]; rfl, _, 0, Nat.zero_le _, rfl, rfl, fun j hj => absurd hj (Nat.not_lt_zero j)⟩
                            · rintro k vs H - ⟨i, hi, rfl, rfl, rfl, hP2⟩
                              rcases Nat.lt_or_ge i (p.vfs.fss.getD f default).nodes.length with h2 | h2
                              · refine vc_body (by rfl) ?_
                                simp (maxSteps := 4000000) only [pvB, ↓pvP, pvDom, pvRr, pvMm, Nat.reduceAdd, Nat.reduceEqDiff, Nat.reduceLeDiff, Nat.reduceLT, Nat.reduceSub, reduceIte, reduceCtorEq, pvI, Int.reduceToNat, Int.reduceLE, Int.reduceLT, Int.reduceMul, Int.reduceAdd, Int.reduceGT, Int.reduceGE, Int.reduceEq, pvY, Nat.reduceMul, x_be, x_bn, bbE, eqOk81, eqOk87, eqOk197, an35, pc35, an36, pc36, an67, h67, an68, pc68, an69, pc69', an70, an71, pc71, an72, pc72, an73, pc73, an74, pc74, an75, pc75, an76, an77, an78, pc78, rBuild, nz_i, nz_b, nz_s, ↓List.append, q_bly, q_label, zok3, zok4, key3, key81, hop']
                                exact ⟨fun _ => ⟨in_of i h2, fun h => all1_bad h1 (all_false h2 (congrArg not h)), fun h => ⟨by rw [hm1.2, hm2'.2]; rfl, _, by omega, i + 1, h2, rfl, by rw [w_add (by omega)], all_next hP2 (congrArg not h)⟩⟩, fun h => absurd (of_decide_eq_false h) (by omega)⟩
                              · refine vc_exit (by rfl) ?_
                                simp (maxSteps := 4000000) only [pvB, ↓pvP, pvDom, pvRr, pvMm, Nat.reduceAdd, Nat.reduceEqDiff, Nat.reduceLeDiff, Nat.reduceLT, Nat.reduceSub, reduceIte, reduceCtorEq, pvI, Int.reduceToNat, Int.reduceLE, Int.reduceLT, Int.reduceMul, Int.reduceAdd, Int.reduceGT, Int.reduceGE, Int.reduceEq, pvY, Nat.reduceMul, x_be, x_bn, bbE, eqOk81, eqOk87, eqOk197, an35, pc35, an36, pc36, an67, h67, an68, pc68, an69, pc69', an70, an71, pc71, an72, pc72, an73, pc73, an74, pc74, an75, pc75, an76, an77, an78, pc78, rBuild, nz_i, nz_b, nz_s, ↓List.append, q_bly, q_label, zok3, zok4, key3, key81, hop']
                                obtain rfl : i = (p.vfs.fss.getD f default).nodes.length := by omega
                                exact ⟨fun h => absurd (of_decide_eq_true h) (by omega), fun _ => ⟨by rw [hm1.2, hm2'.2]; rfl, _, by omega, f + 1, h1, rfl, by rw [w_add (by omega)], all_next hP (all_true hP2)⟩⟩
                          · refine vc_exit (by rfl) ?_
                            simp (maxSteps := 4000000) only [pvB, ↓pvP, pvDom, pvRr, pvMm, Nat.reduceAdd, Nat.reduceEqDiff, Nat.reduceLeDiff, Nat.reduceLT, Nat.reduceSub, reduceIte, reduceCtorEq, pvI, Int.reduceToNat, Int.reduceLE, Int.reduceLT, Int.reduceMul, Int.reduceAdd, Int.reduceGT, Int.reduceGE, Int.reduceEq, pvY, Nat.reduceMul, x_be, x_bn, bbE, eqOk81, eqOk87, eqOk197, an35, pc35, an36, pc36, an67, h67, an68, pc68, an69, pc69', an70, an71, pc71, an72, pc72, an73, pc73, an74, pc74, an75, pc75, an76, an77, an78, pc78, rBuild, nz_i, nz_b, nz_s, ↓List.append, q_bly, q_label, zok3, zok4, key3, key81, hop']
                            obtain rfl : f = p.vfs.fss.length := by omega
                            exact ⟨fun h => absurd (of_decide_eq_true h) (by omega), fun _ => all1_end hP⟩

                      · rw [bif_fI hmt] at hm2'
                        have hop' := hm2'.1
                        refine .inl ⟨[1, 5, 470, 471, 472], fun _ => 6, fun k vs H => ∃ (f : Nat), f ≤ p.vfs.fss.length ∧ k = p.vfs.fss.length - f ∧ vs = [.ptr 0 13 0 0, .mp 3, .sl 1 (p.vfs.fss.map Fs.enc), .int .i64 p.vfs.fss.length, .int .i64 f] ∧ H = [.rows 57 13 [[.sl 1 (p.mem.ram.text.map encS), .sl 1 (p.mem.ram.refs.map encI), .sl 1 (p.mem.swap.text.map encS), .sl 1 (p.mem.swap.refs.map encI), .sl 3 (p.mem.spaces.map Space.enc), .int .i64 p.mem.hand, .sl 1 (p.vfs.fss.map Fs.enc), .int .i64 p.vfs.mount, .sl 8 (p.files.map File.enc), .sl 3 (p.pipes.map Pipe.enc), .sl 14 (p.procs.map Proc.enc), .sl 4 (p.queue.tasks.map Task.enc), .int .i64 p.queue.floor]], .rows 3 1 ((rfS p 5).map encI), .map false e1, .map true e2, .rows 3 1 ((rdSI p 10).map encI), .rows 3 1 ((wrSI p 10).map encI)] ∧ ∀ j, j < f → fsI p j = true, fun _ => Nat.zero_le _, ?_, ?_⟩
                        · simp only [pvB, ↓pvP, pvDom, pvRr, pvMm, Nat.reduceAdd, Nat.reduceEqDiff, Nat.reduceLeDiff, Nat.reduceLT, Nat.reduceSub, reduceIte, reduceCtorEq, pvI, Int.reduceToNat, Int.reduceLE, Int.reduceLT, Int.reduceMul, Int.reduceAdd, Int.reduceGT, Int.reduceGE, Int.reduceEq, pvY, Nat.reduceMul, x_be, x_bn, bbE, eqOk81, eqOk87, eqOk197]
                          exact ⟨by rw [hm1.2, hm2'.2]; rfl, _, 0, Nat.zero_le _, rfl, rfl, fun j hj => absurd hj (Nat.not_lt_zero j)⟩
                        · rintro k vs H - ⟨f, hf, rfl, rfl, rfl, hP⟩
                          rcases Nat.lt_or_ge f p.vfs.fss.length with h1 | h1
                          · refine vc_body (by rfl) ?_
                            simp (maxSteps := 4000000) only [pvB, ↓pvP, pvDom, pvRr, pvMm, Nat.reduceAdd, Nat.reduceEqDiff, Nat.reduceLeDiff, Nat.reduceLT, Nat.reduceSub, reduceIte, reduceCtorEq, pvI, Int.reduceToNat, Int.reduceLE, Int.reduceLT, Int.reduceMul, Int.reduceAdd, Int.reduceGT, Int.reduceGE, Int.reduceEq, pvY, Nat.reduceMul, x_be, x_bn, bbE, eqOk81, eqOk87, eqOk197, an35, pc35, an36, pc36, an67, h67, an68, pc68, an69, pc69', an70, an71, pc71, an72, pc72, an73, pc73, an74, pc74, an75, pc75, an76, an77, an78, pc78, rBuild, nz_i, nz_b, nz_s, ↓List.append, q_bly, q_label, zok3, zok4, key3, key81, hop']
                            refine ⟨fun _ => ⟨in_of f h1, ?_⟩, fun h => absurd (of_decide_eq_false h) (by omega)⟩
                            have hnl : (p.vfs.fss.getD f default).nodes.length ≤ 140737488355328 := (hwf.2.2.2.2.2.1.2 _ (List.getD_eq_getElem?_getD (l := p.vfs.fss) (i := f) (a := default) ▸ by simp [h1])).1
                            refine .inl ⟨[1, 5, 470, 471, 472, 22, 478, 479, 480], fun _ => 6, fun k vs H => ∃ (i : Nat), i ≤ (p.vfs.fss.getD f default).nodes.length ∧ k = (p.vfs.fss.getD f default).nodes.length - i ∧ vs = [.ptr 0 13 0 0, .mp 3, .sl 1 (p.vfs.fss.map Fs.enc), .int .i64 p.vfs.fss.length, .int .i64 f, .int .i64 f, .sl 9 ((p.vfs.fss.getD f default).nodes.map Inode.enc), .int .i64 (p.vfs.fss.getD f default).nodes.length, .int .i64 i] ∧ H = [.rows 57 13 [[.sl 1 (p.mem.ram.text.map encS), .sl 1 (p.mem.ram.refs.map encI), .sl 1 (p.mem.swap.text.map encS), .sl 1 (p.mem.swap.refs.map encI), .sl 3 (p.mem.spaces.map Space.enc), .int .i64 p.mem.hand, .sl 1 (p.vfs.fss.map Fs.enc), .int .i64 p.vfs.mount, .sl 8 (p.files.map File.enc), .sl 3 (p.pipes.map Pipe.enc), .sl 14 (p.procs.map Proc.enc), .sl 4 (p.queue.tasks.map Task.enc), .int .i64 p.queue.floor]], .rows 3 1 ((rfS p 5).map encI), .map false e1, .map true e2, .rows 3 1 ((rdSI p 10).map encI), .rows 3 1 ((wrSI p 10).map encI)] ∧ ∀ j, j < i → noI p f j = true, fun _ => Nat.zero_le _, ?_, ?_⟩
                            · simp only [pvB, ↓pvP, pvDom, pvRr, pvMm, Nat.reduceAdd, Nat.reduceEqDiff, Nat.reduceLeDiff, Nat.reduceLT, Nat.reduceSub, reduceIte, reduceCtorEq, pvI, Int.reduceToNat, Int.reduceLE, Int.reduceLT, Int.reduceMul, Int.reduceAdd, Int.reduceGT, Int.reduceGE, Int.reduceEq, pvY, Nat.reduceMul, x_be, x_bn, bbE, eqOk81, eqOk87, eqOk197]
                              exact ⟨by rw [hm1.2, hm2'.2]; rfl, _, 0, Nat.zero_le _, rfl, rfl, fun j hj => absurd hj (Nat.not_lt_zero j)⟩
                            · rintro k vs H - ⟨i, hi, rfl, rfl, rfl, hP2⟩
                              rcases Nat.lt_or_ge i (p.vfs.fss.getD f default).nodes.length with h2 | h2
                              · refine vc_body (by rfl) ?_
                                simp (maxSteps := 4000000) only [pvB, ↓pvP, pvDom, pvRr, pvMm, Nat.reduceAdd, Nat.reduceEqDiff, Nat.reduceLeDiff, Nat.reduceLT, Nat.reduceSub, reduceIte, reduceCtorEq, pvI, Int.reduceToNat, Int.reduceLE, Int.reduceLT, Int.reduceMul, Int.reduceAdd, Int.reduceGT, Int.reduceGE, Int.reduceEq, pvY, Nat.reduceMul, x_be, x_bn, bbE, eqOk81, eqOk87, eqOk197, an35, pc35, an36, pc36, an67, h67, an68, pc68, an69, pc69', an70, an71, pc71, an72, pc72, an73, pc73, an74, pc74, an75, pc75, an76, an77, an78, pc78, rBuild, nz_i, nz_b, nz_s, ↓List.append, q_bly, q_label, zok3, zok4, key3, key81, hop']
                                exact ⟨fun _ => ⟨in_of i h2, fun h => all1_bad h1 (all_false h2 (congrArg not h)), fun h => ⟨by rw [hm1.2, hm2'.2]; rfl, _, by omega, i + 1, h2, rfl, by rw [w_add (by omega)], all_next hP2 (congrArg not h)⟩⟩, fun h => absurd (of_decide_eq_false h) (by omega)⟩
                              · refine vc_exit (by rfl) ?_
                                simp (maxSteps := 4000000) only [pvB, ↓pvP, pvDom, pvRr, pvMm, Nat.reduceAdd, Nat.reduceEqDiff, Nat.reduceLeDiff, Nat.reduceLT, Nat.reduceSub, reduceIte, reduceCtorEq, pvI, Int.reduceToNat, Int.reduceLE, Int.reduceLT, Int.reduceMul, Int.reduceAdd, Int.reduceGT, Int.reduceGE, Int.reduceEq, pvY, Nat.reduceMul, x_be, x_bn, bbE, eqOk81, eqOk87, eqOk197, an35, pc35, an36, pc36, an67, h67, an68, pc68, an69, pc69', an70, an71, pc71, an72, pc72, an73, pc73, an74, pc74, an75, pc75, an76, an77, an78, pc78, rBuild, nz_i, nz_b, nz_s, ↓List.append, q_bly, q_label, zok3, zok4, key3, key81, hop']
                                obtain rfl : i = (p.vfs.fss.getD f default).nodes.length := by omega
                                exact ⟨fun h => absurd (of_decide_eq_true h) (by omega), fun _ => ⟨by rw [hm1.2, hm2'.2]; rfl, _, by omega, f + 1, h1, rfl, by rw [w_add (by omega)], all_next hP (all_true hP2)⟩⟩
                          · refine vc_exit (by rfl) ?_
                            simp (maxSteps := 4000000) only [pvB, ↓pvP, pvDom, pvRr, pvMm, Nat.reduceAdd, Nat.reduceEqDiff, Nat.reduceLeDiff, Nat.reduceLT, Nat.reduceSub, reduceIte, reduceCtorEq, pvI, Int.reduceToNat, Int.reduceLE, Int.reduceLT, Int.reduceMul, Int.reduceAdd, Int.reduceGT, Int.reduceGE, Int.reduceEq, pvY, Nat.reduceMul, x_be, x_bn, bbE, eqOk81, eqOk87, eqOk197, an35, pc35, an36, pc36, an67, h67, an68, pc68, an69, pc69', an70, an71, pc71, an72, pc72, an73, pc73, an74, pc74, an75, pc75, an76, an77, an78, pc78, rBuild, nz_i, nz_b, nz_s, ↓List.append, q_bly, q_label, zok3, zok4, key3, key81, hop']
                            obtain rfl : f = p.vfs.fss.length := by omega
                            exact ⟨fun h => absurd (of_decide_eq_true h) (by omega), fun _ => all1_end hP⟩


end Go.Proofs.YtemoiphdjocaiaaGreat
