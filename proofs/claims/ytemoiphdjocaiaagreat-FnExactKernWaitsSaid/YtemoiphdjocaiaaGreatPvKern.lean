/-
  What the reference's checks of memory and of a kernel answer. Conditions: none.
-/
import Derived.Test.YtemoiphdjocaiaaGreatPvTy
import Derived.Test.YtemoiphdjocaiaaGreatPvFs
import Derived.Test.YtemoiphdjocaiaaGreatPvEnds
import Derived.Test.YtemoiphdjocaiaaGreatPvProc
set_option linter.all false
set_option linter.unusedSimpArgs false
set_option linter.unusedVariables false
namespace Go.Proofs.YtemoiphdjocaiaaGreat
open Go.Pv
set_option linter.unusedSimpArgs false
set_option maxRecDepth 100000
set_option maxHeartbeats 4000000

def an141 : List PV → PV
  | [.agg p] => .bool (pagesOk (Pages.dec p))
  | _ => .undef
def an116 : List PV → PV
  | [.agg p] => .bool (pagesOk (Pages.dec p))
  | _ => .undef
def memBad (m : Mem) : Bool := !pagesOk m.ram || !pagesOk m.swap || !decide ((m.ram.refs.length : Int) = 12) || !decide ((m.swap.refs.length : Int) = 12) || !decide ((m.spaces.length : Int) = 5) || !inB m.hand 0 11
def slotIn (m : Mem) (i k : Nat) : Bool := !(!decide ((slotAt m i k).kind = 0) && !inB (slotAt m i k).at_ 0 (IntKind.i64.wrap (12 - 1)))
def spOk (m : Mem) (i : Nat) : Bool := spaceOk (m.spaces.getD i default) && (List.range (m.spaces.getD i default).slots.length).all (slotIn m i)
def ramAt (m : Mem) (i : Nat) : Bool := !(!decide (toldW m 1 i = m.ram.refs.getD i 0) || !aloneW m 1 i)
def swpAt (m : Mem) (i : Nat) : Bool := !(!decide (toldW m 2 i = m.swap.refs.getD i 0) || !aloneW m 2 i)
def memOk (m : Mem) : Bool := !memBad m && ((List.range 5).all (spOk m) && ((List.range 12).all (ramAt m) && (List.range 12).all (swpAt m)))
def an98 : List PV → PV
  | [.agg m] => .bool (memOk (Mem.dec m))
  | _ => .undef

theorem pc98 (m : Mem) : PC Tryz.prog 98 [.agg [.sl 1 (m.ram.text.map encS), .sl 1 (m.ram.refs.map encI), .sl 1 (m.swap.text.map encS), .sl 1 (m.swap.refs.map encI), .sl 3 (m.spaces.map Space.enc), .int .i64 m.hand]] (.bool (memOk m)) := by
  refine PC.of_vc mixed (phiOf [(26, an26), (141, an141), (142, an142), (143, an143), (144, an144)]) Tryz.func98 (by kernel_rfl) (rfl : Tryz.f98.body = some _) Tryz.ntmps98 (by kernel_rfl) rfl (by kernel_rfl) Tryz.results98 fun hwf => ?_
  simp only [pvB, ↓pvP, pvDom, simprocAttr, an26, pc26, an141, pc141, an142, pc142, an143, pc143, an144, pc144, pvI, pvY]
  simp only [pvAll, pvStd, pvDom] at hwf
  have hwS := hwf.2.2.2.2.2
  clear hwf
  refine ⟨fun h0 => pre_bad (c := memBad m) h0, fun h0 => ?_⟩
  rw [show memOk m = ((List.range 5).all (spOk m) && ((List.range 12).all (ramAt m) && (List.range 12).all (swpAt m))) from by unfold memOk; rw [show memBad m = false from h0]; rfl]
  have hl : m.ram.refs.length = 12 ∧ m.swap.refs.length = 12 ∧ m.spaces.length = 5 := by
    simp only [Bool.or_eq_false_iff, Bool.not_eq_false', decide_eq_true_eq] at h0
    omega
  refine .inl ⟨[1, 3], fun _ => 1, fun k vs H => ∃ (i : Nat), i ≤ 5 ∧ k = 5 - i ∧ vs = [.ptr 0 6 0 0, .int .i64 i] ∧ H = [.rows 46 6 [[.sl 1 (m.ram.text.map encS), .sl 1 (m.ram.refs.map encI), .sl 1 (m.swap.text.map encS), .sl 1 (m.swap.refs.map encI), .sl 3 (m.spaces.map Space.enc), .int .i64 m.hand]]] ∧ ∀ j, j < i → spOk m j = true, fun _ => Nat.zero_le _, ?_, ?_⟩
  · simp only [pvB, ↓pvP, pvDom, simprocAttr, pvI, pvY]
    exact ⟨_, 0, Nat.zero_le _, rfl, rfl, fun j hj => absurd hj (Nat.not_lt_zero j)⟩
  · rintro k vs H - ⟨i, hi, rfl, rfl, rfl, hP⟩
    simp only [pvB, ↓pvP, pvDom, simprocAttr, pvI, pvY, an142, pc142]
    refine ⟨fun h1 => ?_, fun h1 => ?_⟩
    · have h1 : i < 5 := by have := of_decide_eq_true h1; omega
      refine ⟨in_of i (by omega), fun h2 => all_bad h1 ?_, fun h2 => ?_⟩
      · unfold spOk; rw [nb_t h2]; rfl
      have hs : (m.spaces.getD i default).slots.length ≤ 140737488355328 := (hwS (m.spaces.getD i default) (by simp [List.getD, show i < m.spaces.length by omega])).2.1
      refine .inl ⟨[1, 3, 4], fun _ => 1, fun k vs H => ∃ (j : Nat), j ≤ (m.spaces.getD i default).slots.length ∧ k = (m.spaces.getD i default).slots.length - j ∧ vs = [.ptr 0 6 0 0, .int .i64 i, .int .i64 j] ∧ H = [.rows 46 6 [[.sl 1 (m.ram.text.map encS), .sl 1 (m.ram.refs.map encI), .sl 1 (m.swap.text.map encS), .sl 1 (m.swap.refs.map encI), .sl 3 (m.spaces.map Space.enc), .int .i64 m.hand]]] ∧ ∀ x, x < j → slotIn m i x = true, fun _ => Nat.zero_le _, ?_, ?_⟩
      · simp only [pvB, ↓pvP, pvDom, simprocAttr, pvI, pvY]
        exact ⟨_, 0, Nat.zero_le _, rfl, rfl, fun j hj => absurd hj (Nat.not_lt_zero j)⟩
      · rintro k vs H - ⟨j, hj, rfl, rfl, rfl, hPj⟩
        simp only [pvB, ↓pvP, pvDom, simprocAttr, pvI, pvY, an26, pc26]
        refine ⟨in_of i (by omega), fun h3 => ?_, fun h3 => ?_⟩
        · have h3 := dlt h3
          have hbad : ∀ h : (!decide ((slotAt m i j).kind = 0) && !inB (slotAt m i j).at_ 0 (IntKind.i64.wrap (12 - 1))) = true, Le (PV.bool false) (PV.bool ((List.range 5).all (spOk m) && ((List.range 12).all (ramAt m) && (List.range 12).all (swpAt m)))) := fun h => by
            refine all_bad h1 ?_
            unfold spOk
            rw [all_false (P := slotIn m i) h3 (congrArg not h), Bool.and_false]
          exact ⟨in_of i (by omega), in_of j h3, fun _ => ⟨fun h => hbad h, fun h => ⟨_, by omega, j + 1, h3, rfl, by rw [w_add (by omega)], all_next hPj (congrArg not h)⟩⟩, fun _ => ⟨fun h => hbad h, fun h => ⟨_, by omega, j + 1, h3, rfl, by rw [w_add (by omega)], all_next hPj (congrArg not h)⟩⟩⟩
        · obtain rfl := dge h3 hj
          exact ⟨_, by omega, i + 1, h1, rfl, by rw [w_add (by omega)], all_next hP (by unfold spOk; rw [nb_f h2, all_true hPj]; rfl)⟩
    · obtain rfl : i = 5 := by have := of_decide_eq_false h1; omega
      rw [all_true hP, Bool.true_and]
      refine .inl ⟨[1, 7], fun _ => 1, fun k vs H => ∃ (i : Nat), i ≤ 12 ∧ k = 12 - i ∧ vs = [.ptr 0 6 0 0, .int .i64 i] ∧ H = [.rows 46 6 [[.sl 1 (m.ram.text.map encS), .sl 1 (m.ram.refs.map encI), .sl 1 (m.swap.text.map encS), .sl 1 (m.swap.refs.map encI), .sl 3 (m.spaces.map Space.enc), .int .i64 m.hand]]] ∧ ∀ j, j < i → ramAt m j = true, fun _ => Nat.zero_le _, ?_, ?_⟩
      · simp only [pvB, ↓pvP, pvDom, simprocAttr, pvI, pvY]
        exact ⟨_, 0, Nat.zero_le _, rfl, rfl, fun j hj => absurd hj (Nat.not_lt_zero j)⟩
      · rintro k vs H - ⟨i, hi, rfl, rfl, rfl, hP⟩
        simp only [pvB, ↓pvP, pvDom, simprocAttr, pvI, pvY, an143, pc143, an144, pc144]
        refine ⟨fun h2 => ?_, fun h2 => ?_⟩
        · have h2 : i < 12 := by have := of_decide_eq_true h2; omega
          exact ⟨in_of i (by omega), fun h => all_bad h2 (congrArg not h), fun h => ⟨_, by omega, i + 1, h2, rfl, by rw [w_add (by omega)], all_next hP (congrArg not h)⟩⟩
        · obtain rfl : i = 12 := by have := of_decide_eq_false h2; omega
          rw [all_true hP, Bool.true_and]
          refine .inl ⟨[1, 8], fun _ => 1, fun k vs H => ∃ (i : Nat), i ≤ 12 ∧ k = 12 - i ∧ vs = [.ptr 0 6 0 0, .int .i64 i] ∧ H = [.rows 46 6 [[.sl 1 (m.ram.text.map encS), .sl 1 (m.ram.refs.map encI), .sl 1 (m.swap.text.map encS), .sl 1 (m.swap.refs.map encI), .sl 3 (m.spaces.map Space.enc), .int .i64 m.hand]]] ∧ ∀ j, j < i → swpAt m j = true, fun _ => Nat.zero_le _, ?_, ?_⟩
          · simp only [pvB, ↓pvP, pvDom, simprocAttr, pvI, pvY]
            exact ⟨_, 0, Nat.zero_le _, rfl, rfl, fun j hj => absurd hj (Nat.not_lt_zero j)⟩
          · rintro k vs H - ⟨i, hi, rfl, rfl, rfl, hP⟩
            simp only [pvB, ↓pvP, pvDom, simprocAttr, pvI, pvY, an143, pc143, an144, pc144]
            refine ⟨fun h2 => ?_, fun h2 => ?_⟩
            · have h2 : i < 12 := by have := of_decide_eq_true h2; omega
              exact ⟨in_of i (by omega), fun h => all1_bad h2 (congrArg not h), fun h => ⟨_, by omega, i + 1, h2, rfl, by rw [w_add (by omega)], all_next hP (congrArg not h)⟩⟩
            · obtain rfl : i = 12 := by have := of_decide_eq_false h2; omega
              exact all1_end hP

end Go.Proofs.YtemoiphdjocaiaaGreat

namespace Go.Proofs.YtemoiphdjocaiaaGreat
open Go.Pv
set_option linter.unusedSimpArgs false
set_option maxRecDepth 100000
set_option maxHeartbeats 4000000

def an100 : List PV → PV
  | [.agg p] => .bool (queueOk (Queue.dec p))
  | _ => .undef
def an69 : List PV → PV
  | [.agg p] => .bool (queueOk (Queue.dec p))
  | _ => .undef
def kernBad (p : Kern) : Bool := !memOk p.mem || !vfsOk p.vfs || !decide ((p.files.length : Int) = 10) || !decide ((p.pipes.length : Int) = 3) || !decide ((p.procs.length : Int) = 5) || !queueOk p.queue
def kernEnd (p : Kern) : Bool := treeOk p && fdsOk p && endsOk p && spacesOk p
def kernOk (p : Kern) : Bool := !kernBad p && ((List.range 10).all (fun i => fileOk p.vfs (p.files.getD i default)) && ((List.range 3).all (fun i => pipeOk (p.pipes.getD i default)) && ((List.range 5).all (procOk p) && kernEnd p)))
def an57 : List PV → PV
  | [.agg p] => .bool (kernOk (Kern.dec p))
  | _ => .undef
theorem memOk_len {m : Mem} (h : memOk m = true) : m.ram.refs.length = 12 ∧ m.swap.refs.length = 12 ∧ m.spaces.length = 5 := by
  simp only [memOk, Bool.and_eq_true, Bool.not_eq_true', memBad, Bool.or_eq_false_iff, Bool.not_eq_false', decide_eq_true_eq] at h
  have := h.1
  omega
theorem vfsOk_facts {v : Vfs} (h : vfsOk v = true) : v.fss.length = 2 ∧ (v.fss.getD 0 default).nodes.length = 10 ∧ (v.fss.getD 1 default).nodes.length = 10 ∧ -1 ≤ v.mount ∧ v.mount < 10 := by
  simp only [vfsOk, Bool.and_eq_true, Bool.not_eq_true', vfsBad, Bool.or_eq_false_iff, Bool.not_eq_false', decide_eq_true_eq, inB] at h
  have h := h.1
  exact ⟨by omega, fsOk_len h.1.1.1.2, fsOk_len h.1.1.2, by omega, by omega⟩
theorem kernBad_facts {p : Kern} (h : kernBad p = false) : memOk p.mem = true ∧ vfsOk p.vfs = true ∧ p.files.length = 10 ∧ p.pipes.length = 3 ∧ p.procs.length = 5 ∧ queueOk p.queue = true := by
  simp only [kernBad, Bool.or_eq_false_iff, Bool.not_eq_false', decide_eq_true_eq] at h
  exact ⟨h.1.1.1.1.1, h.1.1.1.1.2, by omega, by omega, by omega, h.2⟩
theorem place_facts {v : Vfs} (hv : vfsOk v = true) {q : Spt} (h : placeOk v q = true) : (q.fs = 0 ∨ q.fs = 1) ∧ 0 ≤ q.id ∧ q.id < 10 := by
  have hv := vfsOk_facts hv
  have hp := placeOk_in (by rw [h]; rfl : (!placeOk v q) = false)
  rw [hv.1] at hp
  have hfs : q.fs = 0 ∨ q.fs = 1 := by omega
  refine ⟨hfs, hp.2.1, ?_⟩
  rcases hfs with h | h
  · have := hp.2.2
    rw [h] at this
    have e : (v.fss.getD (Int.toNat 0) default).nodes.length = 10 := hv.2.1
    rw [e] at this; exact this
  · have := hp.2.2
    rw [h] at this
    have e : (v.fss.getD (Int.toNat 1) default).nodes.length = 10 := hv.2.2.1
    rw [e] at this; exact this
theorem file_facts {v : Vfs} (hv : vfsOk v = true) {f : File} (h : fileOk v f = true) : (f.where_.fs = 0 ∨ f.where_.fs = 1) ∧ (decide (f.refs = 0) = false → decide (f.pipe < 0) = true → 0 ≤ f.where_.id ∧ f.where_.id < 10) ∧ (decide (f.refs = 0) = false → f.pipe < 3) := by
  unfold fileOk at h
  cases h0 : decide (f.refs = 0) with
  | true =>
    rw [h0] at h
    simp only [cond_true, fileZero, Bool.and_eq_true, beq_iff_eq] at h
    exact ⟨.inl h.2.1, (fun e => by cases e), (fun e => by cases e)⟩
  | false =>
    rw [h0, cond_false] at h
    cases h1 : (decide (f.refs < 0) || !inB f.pipe (-1) 2 || !inB f.pos 0 999) with
    | true => rw [h1] at h; cases h
    | false =>
      rw [h1, cond_false] at h
      simp only [Bool.or_eq_false_iff, Bool.not_eq_false', inB, Bool.and_eq_true, decide_eq_true_eq] at h1
      cases h2 : decide (f.pipe ≥ 0) with
      | true =>
        rw [h2] at h
        simp only [cond_true, Bool.and_eq_true, beq_iff_eq] at h
        have h2 := of_decide_eq_true h2
        refine ⟨.inl h.1.1.1.1, fun _ e => ?_, fun _ => by omega⟩
        have := of_decide_eq_true e
        omega
      | false =>
        rw [h2, cond_false] at h
        cases h3 : placeOk v f.where_ with
        | false => rw [h3] at h; cases h
        | true =>
          have := place_facts hv h3
          exact ⟨this.1, fun _ _ => this.2, fun _ => by omega⟩
theorem bare_facts {x : Proc} (h : procBare x = true) : x.fds.length = 0 ∧ x.dir.fs = 0 := by
  simp only [procBare, Bool.and_eq_true, decide_eq_true_eq, placeZero, beq_iff_eq] at h
  have := h.1.1.1.1.1.2
  exact ⟨by omega, h.1.2.1⟩
/-- What a valid process is known by. -/
structure ProcF (p : Kern) (n : Nat) : Prop where
  par : 0 ≤ (p.procs.getD n default).parent ∧ (p.procs.getD n default).parent < (p.procs.length : Int)
  fdl : (p.procs.getD n default).fds.length ≤ 5
  fd : ∀ j, j < (p.procs.getD n default).fds.length → (p.procs.getD n default).fds.getD j 0 < 10
  dir : (p.procs.getD n default).dir.fs = 0 ∨ (p.procs.getD n default).dir.fs = 1
  id : aliveP (p.procs.getD n default) = true → 0 ≤ (p.procs.getD n default).dir.id ∧ (p.procs.getD n default).dir.id < 10
  sp : aliveP (p.procs.getD n default) = true → 0 ≤ (p.procs.getD n default).space ∧ (p.procs.getD n default).space < 5
theorem proc_facts {p : Kern} (hv : vfsOk p.vfs = true) (hm : memOk p.mem = true) (hp : p.procs.length = 5) {n : Nat} (h : procOk p n = true) : ProcF p n := by
  unfold procOk at h
  cases h0 : decide ((p.procs.getD n default).state = 0) with
  | true =>
    rw [h0] at h
    simp only [cond_true, procOut, Bool.and_eq_true, decide_eq_true_eq] at h
    have hb := bare_facts h.1.1.1.1
    have hs := of_decide_eq_true h0
    have ha : aliveP (p.procs.getD n default) = false := by unfold aliveP inB; rw [hs]; rfl
    exact ⟨by omega, by omega, fun j hj => by omega, .inl hb.2, fun e => by (rw [ha] at e; cases e), fun e => by (rw [ha] at e; cases e)⟩
  | false =>
    rw [h0, cond_false] at h
    cases h1 : procBad1 p n with
    | true => rw [h1] at h; cases h
    | false =>
      rw [h1, cond_false] at h
      simp only [procBad1, Bool.or_eq_false_iff, Bool.not_eq_false'] at h1
      have hpar := inB_bd h1.1.1.1
      cases h2 : decide ((p.procs.getD n default).state = 4) with
      | true =>
        rw [h2] at h
        simp only [cond_true, procGone, Bool.and_eq_true, decide_eq_true_eq] at h
        have hb := bare_facts h.1.1.1
        have hs := of_decide_eq_true h2
        have ha : aliveP (p.procs.getD n default) = false := by unfold aliveP inB; rw [hs]; rfl
        exact ⟨hpar, by omega, fun j hj => by omega, .inl hb.2, fun e => by (rw [ha] at e; cases e), fun e => by (rw [ha] at e; cases e)⟩
      | false =>
        rw [h2, cond_false] at h
        cases h3 : procBad2 p n with
        | true => rw [h3] at h; cases h
        | false =>
          rw [h3, cond_false, Bool.and_eq_true] at h
          simp only [procBad2, procBad0, Bool.or_eq_false_iff, Bool.not_eq_false', decide_eq_true_eq] at h3
          have hpl := place_facts hv h3.1.2
          have hsl := h3.1.1.1.1.2
          simp only [spaceLive, Bool.and_eq_true] at hsl
          have hsp := inB_bd hsl.1
          rw [(memOk_len hm).2.2] at hsp
          have hl : (p.procs.getD n default).fds.length = 5 := by have := h3.1.1.1.2; omega
          refine ⟨hpar, by omega, fun j hj => ?_, hpl.1, fun _ => hpl.2, fun _ => hsp⟩
          have := List.all_eq_true.1 h.1 j (List.mem_range.2 (by omega))
          simp only [procFd, Bool.not_eq_true', Bool.or_eq_false_iff, Bool.not_eq_false', inB, Bool.and_eq_true, decide_eq_true_eq] at this
          have := this.1
          omega

theorem pc57 (p : Kern) : PC Tryz.prog 57 [.agg [.sl 1 (p.mem.ram.text.map encS), .sl 1 (p.mem.ram.refs.map encI), .sl 1 (p.mem.swap.text.map encS), .sl 1 (p.mem.swap.refs.map encI), .sl 3 (p.mem.spaces.map Space.enc), .int .i64 p.mem.hand, .sl 1 (p.vfs.fss.map Fs.enc), .int .i64 p.vfs.mount, .sl 8 (p.files.map File.enc), .sl 3 (p.pipes.map Pipe.enc), .sl 14 (p.procs.map Proc.enc), .sl 4 (p.queue.tasks.map Task.enc), .int .i64 p.queue.floor]] (.bool (kernOk p)) := by
  refine PC.of_vc mixed (phiOf [(98, an98), (99, an99), (100, an100), (101, an101), (102, an102), (103, an103), (104, an104), (105, an105), (106, an106), (107, an107)]) Tryz.func57 (by kernel_rfl) (rfl : Tryz.f57.body = some _) Tryz.ntmps57 (by kernel_rfl) rfl (by kernel_rfl) Tryz.results57 fun hwf => ?_
  simp only [pvB, ↓pvP, pvDom, Nat.reduceAdd, Nat.reduceEqDiff, Nat.reduceLeDiff, Nat.reduceLT, Nat.reduceSub, reduceIte, reduceCtorEq, an98, pc98, an99, pc99, an100, pc100, an101, pc101, an102, pc102, an103, pc103, an104, pc104, an105, pc105, an106, pc106, an107, pc107, pvI, Int.reduceToNat, Int.reduceLE, Int.reduceLT, Int.reduceMul, Int.reduceAdd, Int.reduceGT, Int.reduceGE, Int.reduceEq, pvY, Nat.reduceMul]
  clear hwf
  refine ⟨fun h0 => pre_bad (c := kernBad p) h0, fun h0 => ?_⟩
  rw [show kernOk p = ((List.range 10).all (fun i => fileOk p.vfs (p.files.getD i default)) && ((List.range 3).all (fun i => pipeOk (p.pipes.getD i default)) && ((List.range 5).all (procOk p) && kernEnd p))) from by unfold kernOk; rw [show kernBad p = false from h0]; rfl]
  obtain ⟨hm, hv, hfl, hpi, hp, hq⟩ := kernBad_facts h0
  refine .inl ⟨[1, 3], fun _ => 1, fun k vs H => ∃ (i : Nat), i ≤ 10 ∧ k = 10 - i ∧ vs = [.ptr 0 13 0 0, .int .i64 i] ∧ H = [.rows 57 13 [[.sl 1 (p.mem.ram.text.map encS), .sl 1 (p.mem.ram.refs.map encI), .sl 1 (p.mem.swap.text.map encS), .sl 1 (p.mem.swap.refs.map encI), .sl 3 (p.mem.spaces.map Space.enc), .int .i64 p.mem.hand, .sl 1 (p.vfs.fss.map Fs.enc), .int .i64 p.vfs.mount, .sl 8 (p.files.map File.enc), .sl 3 (p.pipes.map Pipe.enc), .sl 14 (p.procs.map Proc.enc), .sl 4 (p.queue.tasks.map Task.enc), .int .i64 p.queue.floor]]] ∧ ∀ j, j < i → (fun i => fileOk p.vfs (p.files.getD i default)) j = true, fun _ => Nat.zero_le _, ?_, ?_⟩
  · simp only [pvB, ↓pvP, pvDom, Nat.reduceAdd, Nat.reduceEqDiff, Nat.reduceLeDiff, Nat.reduceLT, Nat.reduceSub, reduceIte, reduceCtorEq, pvI, Int.reduceToNat, Int.reduceLE, Int.reduceLT, Int.reduceMul, Int.reduceAdd, Int.reduceGT, Int.reduceGE, Int.reduceEq, pvY, Nat.reduceMul]
    exact ⟨_, 0, Nat.zero_le _, rfl, rfl, fun j hj => absurd hj (Nat.not_lt_zero j)⟩
  rintro k vs H - ⟨i, hi, rfl, rfl, rfl, hP⟩
  rcases Nat.lt_or_ge i 10 with h1 | h1
  · simp only [pvB, ↓pvP, pvDom, Nat.reduceAdd, Nat.reduceEqDiff, Nat.reduceLeDiff, Nat.reduceLT, Nat.reduceSub, reduceIte, reduceCtorEq, pvI, Int.reduceToNat, Int.reduceLE, Int.reduceLT, Int.reduceMul, Int.reduceAdd, Int.reduceGT, Int.reduceGE, Int.reduceEq, pvY, Nat.reduceMul, an101, pc101]
    exact ⟨fun _ => ⟨in_of i (by omega), fun h2 => all_bad h1 (nb_t h2), fun h2 => ⟨_, by omega, i + 1, h1, rfl, by rw [w_add (by omega)], all_next hP (nb_f h2)⟩⟩, fun h => absurd (of_decide_eq_false h) (by omega)⟩
  obtain rfl : i = 10 := by omega
  rw [all_true hP, Bool.true_and]
  simp only [pvB, ↓pvP, pvDom, Nat.reduceAdd, Nat.reduceEqDiff, Nat.reduceLeDiff, Nat.reduceLT, Nat.reduceSub, reduceIte, reduceCtorEq, pvI, Int.reduceToNat, Int.reduceLE, Int.reduceLT, Int.reduceMul, Int.reduceAdd, Int.reduceGT, Int.reduceGE, Int.reduceEq, pvY, Nat.reduceMul]
  refine ⟨fun h => absurd (of_decide_eq_true h) (by omega), fun _ => ?_⟩
  have hPF : ∀ i, i < 10 → fileOk p.vfs (p.files.getD i default) = true := hP
  clear hP hi
  refine .inl ⟨[1, 4], fun _ => 1, fun k vs H => ∃ (i : Nat), i ≤ 3 ∧ k = 3 - i ∧ vs = [.ptr 0 13 0 0, .int .i64 i] ∧ H = [.rows 57 13 [[.sl 1 (p.mem.ram.text.map encS), .sl 1 (p.mem.ram.refs.map encI), .sl 1 (p.mem.swap.text.map encS), .sl 1 (p.mem.swap.refs.map encI), .sl 3 (p.mem.spaces.map Space.enc), .int .i64 p.mem.hand, .sl 1 (p.vfs.fss.map Fs.enc), .int .i64 p.vfs.mount, .sl 8 (p.files.map File.enc), .sl 3 (p.pipes.map Pipe.enc), .sl 14 (p.procs.map Proc.enc), .sl 4 (p.queue.tasks.map Task.enc), .int .i64 p.queue.floor]]] ∧ ∀ j, j < i → (fun i => pipeOk (p.pipes.getD i default)) j = true, fun _ => Nat.zero_le _, ?_, ?_⟩
  · simp only [pvB, ↓pvP, pvDom, Nat.reduceAdd, Nat.reduceEqDiff, Nat.reduceLeDiff, Nat.reduceLT, Nat.reduceSub, reduceIte, reduceCtorEq, pvI, Int.reduceToNat, Int.reduceLE, Int.reduceLT, Int.reduceMul, Int.reduceAdd, Int.reduceGT, Int.reduceGE, Int.reduceEq, pvY, Nat.reduceMul]
    exact ⟨_, 0, Nat.zero_le _, rfl, rfl, fun j hj => absurd hj (Nat.not_lt_zero j)⟩
  rintro k vs H - ⟨i, hi, rfl, rfl, rfl, hP⟩
  rcases Nat.lt_or_ge i 3 with h1 | h1
  · simp only [pvB, ↓pvP, pvDom, Nat.reduceAdd, Nat.reduceEqDiff, Nat.reduceLeDiff, Nat.reduceLT, Nat.reduceSub, reduceIte, reduceCtorEq, pvI, Int.reduceToNat, Int.reduceLE, Int.reduceLT, Int.reduceMul, Int.reduceAdd, Int.reduceGT, Int.reduceGE, Int.reduceEq, pvY, Nat.reduceMul, an102, pc102]
    exact ⟨fun _ => ⟨in_of i (by omega), fun h2 => all_bad h1 (nb_t h2), fun h2 => ⟨_, by omega, i + 1, h1, rfl, by rw [w_add (by omega)], all_next hP (nb_f h2)⟩⟩, fun h => absurd (of_decide_eq_false h) (by omega)⟩
  obtain rfl : i = 3 := by omega
  rw [all_true hP, Bool.true_and]
  simp only [pvB, ↓pvP, pvDom, Nat.reduceAdd, Nat.reduceEqDiff, Nat.reduceLeDiff, Nat.reduceLT, Nat.reduceSub, reduceIte, reduceCtorEq, pvI, Int.reduceToNat, Int.reduceLE, Int.reduceLT, Int.reduceMul, Int.reduceAdd, Int.reduceGT, Int.reduceGE, Int.reduceEq, pvY, Nat.reduceMul]
  refine ⟨fun h => absurd (of_decide_eq_true h) (by omega), fun _ => ?_⟩
  clear hP hi
  refine .inl ⟨[1, 5], fun _ => 1, fun k vs H => ∃ (i : Nat), i ≤ 5 ∧ k = 5 - i ∧ vs = [.ptr 0 13 0 0, .int .i64 i] ∧ H = [.rows 57 13 [[.sl 1 (p.mem.ram.text.map encS), .sl 1 (p.mem.ram.refs.map encI), .sl 1 (p.mem.swap.text.map encS), .sl 1 (p.mem.swap.refs.map encI), .sl 3 (p.mem.spaces.map Space.enc), .int .i64 p.mem.hand, .sl 1 (p.vfs.fss.map Fs.enc), .int .i64 p.vfs.mount, .sl 8 (p.files.map File.enc), .sl 3 (p.pipes.map Pipe.enc), .sl 14 (p.procs.map Proc.enc), .sl 4 (p.queue.tasks.map Task.enc), .int .i64 p.queue.floor]]] ∧ ∀ j, j < i → (procOk p) j = true, fun _ => Nat.zero_le _, ?_, ?_⟩
  · simp only [pvB, ↓pvP, pvDom, Nat.reduceAdd, Nat.reduceEqDiff, Nat.reduceLeDiff, Nat.reduceLT, Nat.reduceSub, reduceIte, reduceCtorEq, pvI, Int.reduceToNat, Int.reduceLE, Int.reduceLT, Int.reduceMul, Int.reduceAdd, Int.reduceGT, Int.reduceGE, Int.reduceEq, pvY, Nat.reduceMul]
    exact ⟨_, 0, Nat.zero_le _, rfl, rfl, fun j hj => absurd hj (Nat.not_lt_zero j)⟩
  rintro k vs H - ⟨i, hi, rfl, rfl, rfl, hP⟩
  rcases Nat.lt_or_ge i 5 with h1 | h1
  · have h103 := pc103 p i (by omega) hfl
    simp only [pvB, ↓pvP, pvDom, Nat.reduceAdd, Nat.reduceEqDiff, Nat.reduceLeDiff, Nat.reduceLT, Nat.reduceSub, reduceIte, reduceCtorEq, pvI, Int.reduceToNat, Int.reduceLE, Int.reduceLT, Int.reduceMul, Int.reduceAdd, Int.reduceGT, Int.reduceGE, Int.reduceEq, pvY, Nat.reduceMul, an103, h103, toNat_nat]
    exact ⟨fun _ => ⟨fun h2 => all_bad h1 (nb_t h2), fun h2 => ⟨_, by omega, i + 1, h1, rfl, by rw [w_add (by omega)], all_next hP (nb_f h2)⟩⟩, fun h => absurd (of_decide_eq_false h) (by omega)⟩
  obtain rfl : i = 5 := by omega
  rw [all_true hP, Bool.true_and]
  
  have pf : ∀ i, i < 5 → ProcF p i := fun i hi => proc_facts hv hm hp (hP i hi)
  have vf := vfsOk_facts hv
  have dflt : ∀ i, ¬ i < 5 → p.procs.getD i default = default := fun i hi => by simp [List.getD, show ¬ i < p.procs.length by omega]
  have dfltF : ∀ i, ¬ i < 10 → p.files.getD i default = default := fun i hi => by simp [List.getD, show ¬ i < p.files.length by omega]
  have h104 := pc104 p hp fun i hi => (pf i (by omega)).par
  have h105 := pc105 p hp hfl (fun i hi => (pf i (by omega)).fdl) (fun i j hi hj => (pf i (by omega)).fd j hj)
  have h106 := pc106 p hp hfl hpi vf.1 vf.2.1 vf.2.2.1 vf.2.2.2.2 (fun i => by
      by_cases hi : i < 10
      · exact (file_facts hv (hPF i hi)).1
      · rw [dfltF i hi]; exact .inl rfl)
    (fun i hi => (file_facts hv (hPF i hi)).2.1) (fun i hi => (file_facts hv (hPF i hi)).2.2)
    (fun i => by
      by_cases hi : i < 5
      · exact (pf i hi).dir
      · rw [dflt i hi]; exact .inl rfl)
    (fun i hi => (pf i hi).id)
  have h107 := pc107 p hp (memOk_len hm).2.2 fun i hi => (pf i (by omega)).sp
  simp only [pvB, ↓pvP, pvDom, Nat.reduceAdd, Nat.reduceEqDiff, Nat.reduceLeDiff, Nat.reduceLT, Nat.reduceSub, reduceIte, reduceCtorEq, pvI, Int.reduceToNat, Int.reduceLE, Int.reduceLT, Int.reduceMul, Int.reduceAdd, Int.reduceGT, Int.reduceGE, Int.reduceEq, pvY, Nat.reduceMul, an103, an104, an105, an106, an107, h104, h105, h106, h107]
  exact ⟨fun h => absurd (of_decide_eq_true h) (by omega), fun _ => Le.refl _⟩

end Go.Proofs.YtemoiphdjocaiaaGreat

namespace Go.Proofs.YtemoiphdjocaiaaGreat
open Go.Pv
set_option linter.unusedSimpArgs false
set_option maxRecDepth 100000
set_option maxHeartbeats 4000000

theorem zok3 : ZeroOk Tryz.prog 3 (.int .i64 0) := ⟨.int .i64 0, fun w => by kernel_rfl, fun σ F w => .frz (.int _ _)⟩
theorem zok4 : ZeroOk Tryz.prog 4 (.bool false) := ⟨.bool false, fun w => by kernel_rfl, fun σ F w => .frz (.bool _)⟩
theorem zok200 : ZeroOk Tryz.prog 200 .nil := ⟨.slice none 0 0, fun w => by kernel_rfl, fun σ F w => .frz .nil⟩
theorem key3 : KeyT Tryz.prog 3 false := keyT_int Tryz.underlying3
theorem chk3 (e : Bool) (n : Nat) (a : Int) (w : World) : (Instr.checkKey e (n + 1) 3 (.int .i64 a)).run Tryz.prog w = .ok () w := by
  unfold Instr.checkKey
  simp [run_underlying Tryz.underlying3]
theorem key81 : KeyT Tryz.prog 81 true := by
  refine keyT_two Tryz.underlying81 (.inl ⟨_, rfl⟩) (fun a b e w => ?_) fun w a b a' b' => ?_
  · have e1 : (10000 : Nat) = 9998 + 1 + 1 := rfl
    rw [e1]
    unfold Instr.checkKey
    have p0 : (part 3 #[Value.int IntKind.i64 a, Value.int IntKind.i64 b] 0).run Tryz.prog w = .ok (.int .i64 a) w := part_int Tryz.underlying3 rfl
    have p1 : (part 3 #[Value.int IntKind.i64 a, Value.int IntKind.i64 b] 1).run Tryz.prog w = .ok (.int .i64 b) w := part_int Tryz.underlying3 rfl
    simp only [kv, if_true, List.map, Sem.run_bind, run_underlying Tryz.underlying81, Result.andThen_ok]
    rw [← Array.forIn_toList]
    simp [p0, p1, chk3]
  · obtain ⟨_, us, vs, h1, h2, h3⟩ := eqOk81 a b a' b'
    simp only [concL, concV, Option.some.injEq] at h1 h2
    subst h1 h2
    exact h3 w
theorem sz3 (w : World) : (sizeOf 3).run Tryz.prog w = .ok 1 w := run_sizeOfT ty3 w
theorem eqi3 (n : Nat) (a b : Int) (w : World) : (Op.equalIn (n + 1) 3 (.int .i64 a) (.int .i64 b)).run Tryz.prog w = .ok (a == b) w := eqF_int Tryz.underlying3 a b
theorem key199 : KeyT Tryz.prog 199 true := by
  refine keyT_two Tryz.underlying199 (.inr ⟨_, _, rfl⟩) (fun a b e w => ?_) fun w a b a' b' => ?_
  · have e1 : (10000 : Nat) = 9998 + 1 + 1 := rfl
    rw [e1]
    unfold Instr.checkKey
    have p0 : (part 3 #[Value.int IntKind.i64 a, Value.int IntKind.i64 b] 0).run Tryz.prog w = .ok (.int .i64 a) w := part_int Tryz.underlying3 rfl
    have p1 : (part 3 #[Value.int IntKind.i64 a, Value.int IntKind.i64 b] 1).run Tryz.prog w = .ok (.int .i64 b) w := part_int Tryz.underlying3 rfl
    simp only [kv, if_true, List.map, Sem.run_bind, run_underlying Tryz.underlying199, Result.andThen_ok]
    simp [sz3, p0, p1, chk3, List.range'_succ]
  · have p0 : ∀ c d : Int, (part 3 #[Value.int IntKind.i64 c, Value.int IntKind.i64 d] 0).run Tryz.prog w = .ok (.int .i64 c) w := fun c d => part_int Tryz.underlying3 rfl
    have p1 : ∀ c d : Int, (part 3 #[Value.int IntKind.i64 c, Value.int IntKind.i64 d] 1).run Tryz.prog w = .ok (.int .i64 d) w := fun c d => part_int Tryz.underlying3 rfl
    have e1 : (10000 : Nat) = 9998 + 1 + 1 := rfl
    have hd : Op.equal 199 (kv true [a, b]) (kv true [a', b']) = Op.equalIn (9998 + 1 + 1) 199 (kv true [a, b]) (kv true [a', b']) := rfl
    rw [hd]
    unfold Op.equalIn
    simp only [kv, if_true, List.map, Sem.run_bind, run_underlying Tryz.underlying199, Result.andThen_ok, sz3]
    by_cases h1 : a = a'
    · by_cases h2 : b = b'
      · simp [p0, p1, eqi3, List.range'_succ, h1, h2]
      · simp [p0, p1, eqi3, List.range'_succ, h1, h2]
    · simp [p0, p1, eqi3, List.range'_succ, h1]
end Go.Proofs.YtemoiphdjocaiaaGreat

namespace Go.Proofs.YtemoiphdjocaiaaGreat
open Go.Pv
set_option linter.unusedSimpArgs false
set_option maxRecDepth 100000
set_option maxHeartbeats 4000000

abbrev Tell := Int → Int → List (Bool × Bool)
def tellU (T : Tell) (x y : Int) (v : Bool × Bool) : Tell := fun a b => bif decide (x = a) && decide (y = b) then T x y ++ [v] else T a b
def spB (m : Mem) (i : Nat) : Space := m.spaces.getD i default
def msC (m : Mem) (i k : Nat) : Bool := decide ((slotAt m i k).kind = 0) || decide (areaIdx (spB m i).areas k < 0)
def msS (m : Mem) (i k : Nat) : Bool := bif msC m i k then slotZero (slotAt m i k) else
  bif (decide ((slotAt m i k).kind = 1) && !pagesHas m.ram (slotAt m i k).at_) then false else
  bif (decide ((slotAt m i k).kind = 2) && !pagesHas m.swap (slotAt m i k).at_) then false else
  bif !inB (slotAt m i k).kind 1 2 then false else !(sharedI (spB m i) k && !(slotAt m i k).own)
def tlS (m : Mem) (i k : Nat) (T : Tell) : Tell := bif msC m i k then T else tellU T (slotAt m i k).kind (slotAt m i k).at_ ((slotAt m i k).own, sharedI (spB m i) k)
def tlF (m : Mem) (i : Nat) (T : Tell) : Tell := bif !(spB m i).live then T else itr (tlS m i) (spB m i).slots.length T
def tlA (m : Mem) (i : Nat) : Tell := itr (tlF m) i fun _ _ => []
def spI (m : Mem) (i : Nat) : Bool := bif !(spB m i).live then !(decide (((spB m i).areas.length : Int) > 0) || decide (((spB m i).slots.length : Int) > 0)) else
  bif (!areasOk (spB m i).areas || !decide (((spB m i).slots.length : Int) = 16)) then false else (List.range (spB m i).slots.length).all (msS m i)
def prOk (l : List (Bool × Bool)) (i j : Nat) : Bool := !(!decide ((i : Int) = j) && (l.getD i default).1 && !((l.getD i default).2 && (l.getD j default).2))
def atOk (l : List (Bool × Bool)) (r : Int) : Bool := bif !decide ((l.length : Int) = r) then false else (List.range l.length).all fun i => (List.range l.length).all (prOk l i)
def kdOk (m : Mem) (g : Pages) (kind : Int) : Bool := (List.range g.refs.length).all fun a => atOk (tlA m m.spaces.length kind a) (g.refs.getD a 0)
def memBadI (m : Mem) : Bool := !pagesOk m.ram || !decide ((m.ram.refs.length : Int) = 12) || !pagesOk m.swap || !decide ((m.swap.refs.length : Int) = 12) || !decide ((m.spaces.length : Int) = 5) || !inB m.hand 0 11
def memOkI (m : Mem) : Bool := !memBadI m && ((List.range m.spaces.length).all (spI m) && (kdOk m m.ram 1 && kdOk m m.swap 2))
def an67 : List PV → PV
  | [.agg p] => .bool (memOkI (Mem.dec p))
  | _ => .undef

end Go.Proofs.YtemoiphdjocaiaaGreat
