/-
  What the function on open ends answers. Conditions: none.
-/
import Derived.Test.YtemoiphdjocaiaaGreatPvTy
import Derived.Test.YtemoiphdjocaiaaGreatPvProc
import Derived.Test.YtemoiphdjocaiaaGreatPvSimp
set_option linter.all false
set_option linter.unusedSimpArgs false
set_option linter.unusedVariables false
namespace Go.Proofs.YtemoiphdjocaiaaGreat
open Go.Pv
set_option linter.unusedSimpArgs false
set_option maxRecDepth 100000
set_option maxHeartbeats 4000000

theorem all1_bad {P : Nat → Bool} {n i : Nat} (h1 : i < n) (h : P i = false) : Le (PV.bool false) (PV.bool ((List.range n).all P)) := by
  have := all_bad (r := true) h1 h
  rwa [Bool.and_true] at this
theorem all1_end {P : Nat → Bool} {n : Nat} (hP : ∀ j, j < n → P j = true) : Le (PV.bool true) (PV.bool ((List.range n).all P)) := by
  have := all_end (r := true) hP
  rwa [Bool.and_true] at this
def rdF (p : Kern) (i : Nat) (l : List Int) : List Int := let f := p.files.getD i default; bif decide (f.refs = 0) then l else bif decide (f.pipe < 0) then l else bif f.read then inc l f.pipe else l
def wrF (p : Kern) (i : Nat) (l : List Int) : List Int := let f := p.files.getD i default; bif decide (f.refs = 0) then l else bif decide (f.pipe < 0) then l else bif f.read then l else inc l f.pipe
def o0F (p : Kern) (i : Nat) (l : List Int) : List Int := let f := p.files.getD i default; bif decide (f.refs = 0) then l else bif decide (f.pipe < 0) then (bif decide (f.where_.fs = 0) then inc l f.where_.id else l) else l
def o1F (p : Kern) (i : Nat) (l : List Int) : List Int := let f := p.files.getD i default; bif decide (f.refs = 0) then l else bif decide (f.pipe < 0) then (bif decide (f.where_.fs = 0) then l else inc l f.where_.id) else l
def d0F (p : Kern) (i : Nat) (l : List Int) : List Int := let x := p.procs.getD i default; bif aliveP x then (bif decide (x.dir.fs = 0) then inc l x.dir.id else l) else l
def d1F (p : Kern) (i : Nat) (l : List Int) : List Int := let x := p.procs.getD i default; bif aliveP x then (bif decide (x.dir.fs = 0) then l else inc l x.dir.id) else l
def rdL (p : Kern) : List Int := itr (rdF p) 10 (List.replicate 3 0)
def wrL (p : Kern) : List Int := itr (wrF p) 10 (List.replicate 3 0)
def o0L (p : Kern) : List Int := itr (o0F p) 10 (List.replicate 10 0)
def o1L (p : Kern) : List Int := itr (o1F p) 10 (List.replicate 10 0)
def d0L (p : Kern) : List Int := itr (d0F p) p.procs.length (o0L p)
def d1L (p : Kern) : List Int := itr (d1F p) p.procs.length (o1L p)
def m0L (p : Kern) : List Int := bif decide (p.vfs.mount > 0) then inc (d0L p) p.vfs.mount else d0L p
def pipesAt (p : Kern) (i : Nat) : Bool := !(!decide ((p.pipes.getD i default).readers = (rdL p).getD i 0) || !decide ((p.pipes.getD i default).writers = (wrL p).getD i 0))
def nodesAt (p : Kern) (i : Nat) : Bool := !(!decide (((p.vfs.fss.getD 0 default).nodes.getD i default).opens = (m0L p).getD i 0) || !decide (((p.vfs.fss.getD 1 default).nodes.getD i default).opens = (d1L p).getD i 0))
def endsOk (p : Kern) : Bool := (List.range 3).all (pipesAt p) && ((List.range 10).all (nodesAt p) && true)
def an106 : List PV → PV
  | [.agg k] => .bool (endsOk (Kern.dec k))
  | _ => .undef

theorem pc106 (p : Kern) (hp : p.procs.length = 5) (hfl : p.files.length = 10) (hpi : p.pipes.length = 3) (hv : p.vfs.fss.length = 2) (hn0 : (p.vfs.fss.getD 0 default).nodes.length = 10) (hn1 : (p.vfs.fss.getD 1 default).nodes.length = 10) (hm : p.vfs.mount < 10) (hfs : ∀ i, (p.files.getD i default).where_.fs = 0 ∨ (p.files.getD i default).where_.fs = 1) (hfi : ∀ i, i < 10 → decide ((p.files.getD i default).refs = 0) = false → decide ((p.files.getD i default).pipe < 0) = true → 0 ≤ (p.files.getD i default).where_.id ∧ (p.files.getD i default).where_.id < 10) (hfp : ∀ i, i < 10 → decide ((p.files.getD i default).refs = 0) = false → (p.files.getD i default).pipe < 3) (hds : ∀ i, (p.procs.getD i default).dir.fs = 0 ∨ (p.procs.getD i default).dir.fs = 1) (hdi : ∀ i, i < 5 → aliveP (p.procs.getD i default) = true → 0 ≤ (p.procs.getD i default).dir.id ∧ (p.procs.getD i default).dir.id < 10) : PC Tryz.prog 106 [.agg [.sl 1 (p.mem.ram.text.map encS), .sl 1 (p.mem.ram.refs.map encI), .sl 1 (p.mem.swap.text.map encS), .sl 1 (p.mem.swap.refs.map encI), .sl 3 (p.mem.spaces.map Space.enc), .int .i64 p.mem.hand, .sl 1 (p.vfs.fss.map Fs.enc), .int .i64 p.vfs.mount, .sl 8 (p.files.map File.enc), .sl 3 (p.pipes.map Pipe.enc), .sl 14 (p.procs.map Proc.enc), .sl 4 (p.queue.tasks.map Task.enc), .int .i64 p.queue.floor]] (.bool (endsOk p)) := by
  refine PC.of_vc mixed (phiOf [(58, an58)]) Tryz.func106 (by kernel_rfl) (rfl : Tryz.f106.body = some _) Tryz.ntmps106 (by kernel_rfl) rfl (by kernel_rfl) Tryz.results106 fun hwf => ?_
  simp only [pvB, ↓pvP, pvDom, pvRr, Nat.reduceAdd, Nat.reduceEqDiff, Nat.reduceLeDiff, Nat.reduceLT, Nat.reduceSub, reduceIte, reduceCtorEq, an58, pc58, pvI, Int.reduceToNat, Int.reduceLE, Int.reduceLT, Int.reduceMul, Int.reduceAdd, pvY, Nat.reduceMul]
  clear hwf
  refine .inl ⟨[1, 3, 4, 5, 6], fun _ => 6, fun k vs H => ∃ (i : Nat) (r w a b : List Int), i ≤ 10 ∧ k = 10 - i ∧ vs = [.ptr 0 13 0 0, .own 1 1 0 3, .own 2 1 0 3, .own 5 1 0 2, .int .i64 i] ∧ H = [.rows 57 13 [[.sl 1 (p.mem.ram.text.map encS), .sl 1 (p.mem.ram.refs.map encI), .sl 1 (p.mem.swap.text.map encS), .sl 1 (p.mem.swap.refs.map encI), .sl 3 (p.mem.spaces.map Space.enc), .int .i64 p.mem.hand, .sl 1 (p.vfs.fss.map Fs.enc), .int .i64 p.vfs.mount, .sl 8 (p.files.map File.enc), .sl 3 (p.pipes.map Pipe.enc), .sl 14 (p.procs.map Proc.enc), .sl 4 (p.queue.tasks.map Task.enc), .int .i64 p.queue.floor]], .rows 3 1 (r.map encI), .rows 3 1 (w.map encI), .rows 3 1 (a.map encI), .rows 3 1 (b.map encI), .rows 23 1 [[.own 3 1 0 10], [.own 4 1 0 10]]] ∧ r = itr (rdF p) i (List.replicate 3 0) ∧ w = itr (wrF p) i (List.replicate 3 0) ∧ a = itr (o0F p) i (List.replicate 10 0) ∧ b = itr (o1F p) i (List.replicate 10 0) ∧ r.length = 3 ∧ w.length = 3 ∧ a.length = 10 ∧ b.length = 10, fun _ => Nat.zero_le _, ?_, ?_⟩
  · simp only [pvB, ↓pvP, pvDom, pvRr, Nat.reduceAdd, Nat.reduceEqDiff, Nat.reduceLeDiff, Nat.reduceLT, Nat.reduceSub, reduceIte, reduceCtorEq, pvI, Int.reduceToNat, Int.reduceLE, Int.reduceLT, Int.reduceMul, Int.reduceAdd, pvY, Nat.reduceMul]
    exact ⟨_, 0, _, _, _, _, Nat.zero_le _, rfl, rfl, rfl, rfl, rfl, rfl, rfl, by simp, by simp, by simp, by simp⟩
  · rintro k vs H - ⟨i, r, w, a, b, hi, rfl, rfl, rfl, hr, hw, ha, hb, lr, lw, la, lb⟩
    have hi2 : i ≤ 140737488355328 := by omega
    rcases Nat.lt_or_ge i 10 with h1 | h1
    · rcases hfs i with h0 | h0
      · have h0' : decide ((p.files.getD i default).where_.fs = 0) = true := decide_eq_true h0
        simp only [pvB, ↓pvP, pvDom, pvRr, Nat.reduceAdd, Nat.reduceEqDiff, Nat.reduceLeDiff, Nat.reduceLT, Nat.reduceSub, reduceIte, reduceCtorEq, pvI, Int.reduceToNat, Int.reduceLE, Int.reduceLT, Int.reduceMul, Int.reduceAdd, pvY, Nat.reduceMul, h0]
        refine ⟨fun _ => ⟨in_of i (by omega), fun h2 => ?_, fun h2 => ⟨fun h3 => ?_, fun h3 => ⟨fun h4 => ?_, fun h4 => ?_⟩⟩⟩, fun h => absurd (of_decide_eq_false h) (by omega)⟩
        · exact ⟨_, by omega, i + 1, r, w, a, b, h1, rfl, by rw [w_add hi2], rfl, by show _ = rdF p i (itr (rdF p) i _); rw [← hr]; simp only [rdF, h2, q_bt, q_bf] <;> rfl, by show _ = wrF p i (itr (wrF p) i _); rw [← hw]; simp only [wrF, h2, q_bt, q_bf] <;> rfl, by show _ = o0F p i (itr (o0F p) i _); rw [← ha]; simp only [o0F, h2, q_bt, q_bf] <;> rfl, by show _ = o1F p i (itr (o1F p) i _); rw [← hb]; simp only [o1F, h2, q_bt, q_bf] <;> rfl, lr, lw, la, lb⟩
        · have hb1 := hfi i h1 h2 h3
          have hb2 : (0 ≤ (p.files.getD i default).where_.id ∧ (p.files.getD i default).where_.id < ((10 : Nat) : Int)) := ⟨hb1.1, hb1.2⟩
          have hb3 : ((p.files.getD i default).where_.id).toNat < a.length := by omega
          exact ⟨by decide, by decide, hb2, hb3, hb2, hb3, _, by omega, i + 1, r, w, _, b, h1, rfl, by rw [w_add hi2], rfl, by show _ = rdF p i (itr (rdF p) i _); rw [← hr]; simp only [rdF, h2, h3, h0', q_bt, q_bf] <;> rfl, by show _ = wrF p i (itr (wrF p) i _); rw [← hw]; simp only [wrF, h2, h3, h0', q_bt, q_bf] <;> rfl, by show _ = o0F p i (itr (o0F p) i _); rw [← ha]; simp only [o0F, h2, h3, h0', q_bt, q_bf] <;> rfl, by show _ = o1F p i (itr (o1F p) i _); rw [← hb]; simp only [o1F, h2, h3, h0', q_bt, q_bf] <;> rfl, lr, lw, by rw [inc_len']; exact la, lb⟩
        · have hb1 := hfp i h1 h2
          have hb0 := of_decide_eq_false h3
          have hb2 : (0 ≤ (p.files.getD i default).pipe ∧ (p.files.getD i default).pipe < ((3 : Nat) : Int)) := ⟨by omega, hb1⟩
          have hb3 : ((p.files.getD i default).pipe).toNat < r.length := by omega
          exact ⟨hb2, hb3, hb2, hb3, _, by omega, i + 1, _, w, a, b, h1, rfl, by rw [w_add hi2], rfl, by show _ = rdF p i (itr (rdF p) i _); rw [← hr]; simp only [rdF, h2, h3, h4, q_bt, q_bf] <;> rfl, by show _ = wrF p i (itr (wrF p) i _); rw [← hw]; simp only [wrF, h2, h3, h4, q_bt, q_bf] <;> rfl, by show _ = o0F p i (itr (o0F p) i _); rw [← ha]; simp only [o0F, h2, h3, h4, q_bt, q_bf] <;> rfl, by show _ = o1F p i (itr (o1F p) i _); rw [← hb]; simp only [o1F, h2, h3, h4, q_bt, q_bf] <;> rfl, by rw [inc_len']; exact lr, lw, la, lb⟩
        · have hb1 := hfp i h1 h2
          have hb0 := of_decide_eq_false h3
          have hb2 : (0 ≤ (p.files.getD i default).pipe ∧ (p.files.getD i default).pipe < ((3 : Nat) : Int)) := ⟨by omega, hb1⟩
          have hb3 : ((p.files.getD i default).pipe).toNat < w.length := by omega
          exact ⟨hb2, hb3, hb2, hb3, _, by omega, i + 1, r, _, a, b, h1, rfl, by rw [w_add hi2], rfl, by show _ = rdF p i (itr (rdF p) i _); rw [← hr]; simp only [rdF, h2, h3, h4, q_bt, q_bf] <;> rfl, by show _ = wrF p i (itr (wrF p) i _); rw [← hw]; simp only [wrF, h2, h3, h4, q_bt, q_bf] <;> rfl, by show _ = o0F p i (itr (o0F p) i _); rw [← ha]; simp only [o0F, h2, h3, h4, q_bt, q_bf] <;> rfl, by show _ = o1F p i (itr (o1F p) i _); rw [← hb]; simp only [o1F, h2, h3, h4, q_bt, q_bf] <;> rfl, lr, by rw [inc_len']; exact lw, la, lb⟩
      · have h0' : decide ((p.files.getD i default).where_.fs = 0) = false := decide_eq_false (by omega)
        simp only [pvB, ↓pvP, pvDom, pvRr, Nat.reduceAdd, Nat.reduceEqDiff, Nat.reduceLeDiff, Nat.reduceLT, Nat.reduceSub, reduceIte, reduceCtorEq, pvI, Int.reduceToNat, Int.reduceLE, Int.reduceLT, Int.reduceMul, Int.reduceAdd, pvY, Nat.reduceMul, h0]
        refine ⟨fun _ => ⟨in_of i (by omega), fun h2 => ?_, fun h2 => ⟨fun h3 => ?_, fun h3 => ⟨fun h4 => ?_, fun h4 => ?_⟩⟩⟩, fun h => absurd (of_decide_eq_false h) (by omega)⟩
        · exact ⟨_, by omega, i + 1, r, w, a, b, h1, rfl, by rw [w_add hi2], rfl, by show _ = rdF p i (itr (rdF p) i _); rw [← hr]; simp only [rdF, h2, q_bt, q_bf] <;> rfl, by show _ = wrF p i (itr (wrF p) i _); rw [← hw]; simp only [wrF, h2, q_bt, q_bf] <;> rfl, by show _ = o0F p i (itr (o0F p) i _); rw [← ha]; simp only [o0F, h2, q_bt, q_bf] <;> rfl, by show _ = o1F p i (itr (o1F p) i _); rw [← hb]; simp only [o1F, h2, q_bt, q_bf] <;> rfl, lr, lw, la, lb⟩
        · have hb1 := hfi i h1 h2 h3
          have hb2 : (0 ≤ (p.files.getD i default).where_.id ∧ (p.files.getD i default).where_.id < ((10 : Nat) : Int)) := ⟨hb1.1, hb1.2⟩
          have hb3 : ((p.files.getD i default).where_.id).toNat < b.length := by omega
          exact ⟨by decide, by decide, hb2, hb3, hb2, hb3, _, by omega, i + 1, r, w, a, _, h1, rfl, by rw [w_add hi2], rfl, by show _ = rdF p i (itr (rdF p) i _); rw [← hr]; simp only [rdF, h2, h3, h0', q_bt, q_bf] <;> rfl, by show _ = wrF p i (itr (wrF p) i _); rw [← hw]; simp only [wrF, h2, h3, h0', q_bt, q_bf] <;> rfl, by show _ = o0F p i (itr (o0F p) i _); rw [← ha]; simp only [o0F, h2, h3, h0', q_bt, q_bf] <;> rfl, by show _ = o1F p i (itr (o1F p) i _); rw [← hb]; simp only [o1F, h2, h3, h0', q_bt, q_bf] <;> rfl, lr, lw, la, by rw [inc_len']; exact lb⟩
        · have hb1 := hfp i h1 h2
          have hb0 := of_decide_eq_false h3
          have hb2 : (0 ≤ (p.files.getD i default).pipe ∧ (p.files.getD i default).pipe < ((3 : Nat) : Int)) := ⟨by omega, hb1⟩
          have hb3 : ((p.files.getD i default).pipe).toNat < r.length := by omega
          exact ⟨hb2, hb3, hb2, hb3, _, by omega, i + 1, _, w, a, b, h1, rfl, by rw [w_add hi2], rfl, by show _ = rdF p i (itr (rdF p) i _); rw [← hr]; simp only [rdF, h2, h3, h4, q_bt, q_bf] <;> rfl, by show _ = wrF p i (itr (wrF p) i _); rw [← hw]; simp only [wrF, h2, h3, h4, q_bt, q_bf] <;> rfl, by show _ = o0F p i (itr (o0F p) i _); rw [← ha]; simp only [o0F, h2, h3, h4, q_bt, q_bf] <;> rfl, by show _ = o1F p i (itr (o1F p) i _); rw [← hb]; simp only [o1F, h2, h3, h4, q_bt, q_bf] <;> rfl, by rw [inc_len']; exact lr, lw, la, lb⟩
        · have hb1 := hfp i h1 h2
          have hb0 := of_decide_eq_false h3
          have hb2 : (0 ≤ (p.files.getD i default).pipe ∧ (p.files.getD i default).pipe < ((3 : Nat) : Int)) := ⟨by omega, hb1⟩
          have hb3 : ((p.files.getD i default).pipe).toNat < w.length := by omega
          exact ⟨hb2, hb3, hb2, hb3, _, by omega, i + 1, r, _, a, b, h1, rfl, by rw [w_add hi2], rfl, by show _ = rdF p i (itr (rdF p) i _); rw [← hr]; simp only [rdF, h2, h3, h4, q_bt, q_bf] <;> rfl, by show _ = wrF p i (itr (wrF p) i _); rw [← hw]; simp only [wrF, h2, h3, h4, q_bt, q_bf] <;> rfl, by show _ = o0F p i (itr (o0F p) i _); rw [← ha]; simp only [o0F, h2, h3, h4, q_bt, q_bf] <;> rfl, by show _ = o1F p i (itr (o1F p) i _); rw [← hb]; simp only [o1F, h2, h3, h4, q_bt, q_bf] <;> rfl, lr, by rw [inc_len']; exact lw, la, lb⟩
    · obtain rfl : i = 10 := by omega
      simp only [pvB, ↓pvP, pvDom, pvRr, Nat.reduceAdd, Nat.reduceEqDiff, Nat.reduceLeDiff, Nat.reduceLT, Nat.reduceSub, reduceIte, reduceCtorEq, pvI, Int.reduceToNat, Int.reduceLE, Int.reduceLT, Int.reduceMul, Int.reduceAdd, pvY, Nat.reduceMul]
      refine ⟨fun h => absurd (of_decide_eq_true h) (by omega), fun _ => ?_⟩
      have hr : r = rdL p := hr
      have hw : w = wrL p := hw
      have ha : a = o0L p := ha
      have hb : b = o1L p := hb
      subst hr hw ha hb
      refine .inl ⟨[1, 3, 4, 5, 8], fun _ => 6, fun k vs H => ∃ (i : Nat) (a b : List Int), i ≤ p.procs.length ∧ k = p.procs.length - i ∧ vs = [.ptr 0 13 0 0, .own 1 1 0 3, .own 2 1 0 3, .own 5 1 0 2, .int .i64 i] ∧ H = [.rows 57 13 [[.sl 1 (p.mem.ram.text.map encS), .sl 1 (p.mem.ram.refs.map encI), .sl 1 (p.mem.swap.text.map encS), .sl 1 (p.mem.swap.refs.map encI), .sl 3 (p.mem.spaces.map Space.enc), .int .i64 p.mem.hand, .sl 1 (p.vfs.fss.map Fs.enc), .int .i64 p.vfs.mount, .sl 8 (p.files.map File.enc), .sl 3 (p.pipes.map Pipe.enc), .sl 14 (p.procs.map Proc.enc), .sl 4 (p.queue.tasks.map Task.enc), .int .i64 p.queue.floor]], .rows 3 1 ((rdL p).map encI), .rows 3 1 ((wrL p).map encI), .rows 3 1 (a.map encI), .rows 3 1 (b.map encI), .rows 23 1 [[.own 3 1 0 10], [.own 4 1 0 10]]] ∧ a = itr (d0F p) i (o0L p) ∧ b = itr (d1F p) i (o1L p) ∧ a.length = 10 ∧ b.length = 10, fun _ => Nat.zero_le _, ?_, ?_⟩
      · simp only [pvB, ↓pvP, pvDom, pvRr, Nat.reduceAdd, Nat.reduceEqDiff, Nat.reduceLeDiff, Nat.reduceLT, Nat.reduceSub, reduceIte, reduceCtorEq, pvI, Int.reduceToNat, Int.reduceLE, Int.reduceLT, Int.reduceMul, Int.reduceAdd, pvY, Nat.reduceMul]
        exact ⟨_, 0, _, _, Nat.zero_le _, rfl, rfl, rfl, rfl, rfl, la, lb⟩
      · rintro k vs H - ⟨i, a, b, hi, rfl, rfl, rfl, ha, hb, la, lb⟩
        have hi2 : i ≤ 140737488355328 := by omega
        rcases Nat.lt_or_ge i p.procs.length with h1 | h1
        · rcases hds i with h0 | h0
          · have h0' : decide ((p.procs.getD i default).dir.fs = 0) = true := decide_eq_true h0
            simp only [pvB, ↓pvP, pvDom, pvRr, Nat.reduceAdd, Nat.reduceEqDiff, Nat.reduceLeDiff, Nat.reduceLT, Nat.reduceSub, reduceIte, reduceCtorEq, pvI, Int.reduceToNat, Int.reduceLE, Int.reduceLT, Int.reduceMul, Int.reduceAdd, pvY, Nat.reduceMul, an58, pc58]
            simp only [pvB, ↓pvP, pvDom, pvRr, Nat.reduceAdd, Nat.reduceEqDiff, Nat.reduceLeDiff, Nat.reduceLT, Nat.reduceSub, reduceIte, reduceCtorEq, pvI, Int.reduceToNat, Int.reduceLE, Int.reduceLT, Int.reduceMul, Int.reduceAdd, pvY, Nat.reduceMul, h0]
            refine ⟨fun _ => ⟨in_of i (by omega), fun h2 => ?_, fun h2 => ?_⟩, fun h => absurd (of_decide_eq_false h) (by omega)⟩
            · have hb1 := hdi i (by omega) h2
              have hb2 : (0 ≤ (p.procs.getD i default).dir.id ∧ (p.procs.getD i default).dir.id < ((10 : Nat) : Int)) := ⟨hb1.1, hb1.2⟩
              have hb3 : ((p.procs.getD i default).dir.id).toNat < a.length := by omega
              exact ⟨by decide, by decide, hb2, hb3, hb2, hb3, _, by omega, i + 1, _, b, h1, rfl, by rw [w_add hi2], rfl, by show _ = d0F p i (itr (d0F p) i _); rw [← ha]; simp only [d0F, h2, h0', q_bt, q_bf] <;> rfl, by show _ = d1F p i (itr (d1F p) i _); rw [← hb]; simp only [d1F, h2, h0', q_bt, q_bf] <;> rfl, by rw [inc_len']; exact la, lb⟩
            · exact ⟨_, by omega, i + 1, a, b, h1, rfl, by rw [w_add hi2], rfl, by show _ = d0F p i (itr (d0F p) i _); rw [← ha]; simp only [d0F, h2, q_bt, q_bf] <;> rfl, by show _ = d1F p i (itr (d1F p) i _); rw [← hb]; simp only [d1F, h2, q_bt, q_bf] <;> rfl, la, lb⟩
          · have h0' : decide ((p.procs.getD i default).dir.fs = 0) = false := decide_eq_false (by omega)
            simp only [pvB, ↓pvP, pvDom, pvRr, Nat.reduceAdd, Nat.reduceEqDiff, Nat.reduceLeDiff, Nat.reduceLT, Nat.reduceSub, reduceIte, reduceCtorEq, pvI, Int.reduceToNat, Int.reduceLE, Int.reduceLT, Int.reduceMul, Int.reduceAdd, pvY, Nat.reduceMul, an58, pc58]
            simp only [pvB, ↓pvP, pvDom, pvRr, Nat.reduceAdd, Nat.reduceEqDiff, Nat.reduceLeDiff, Nat.reduceLT, Nat.reduceSub, reduceIte, reduceCtorEq, pvI, Int.reduceToNat, Int.reduceLE, Int.reduceLT, Int.reduceMul, Int.reduceAdd, pvY, Nat.reduceMul, h0]
            refine ⟨fun _ => ⟨in_of i (by omega), fun h2 => ?_, fun h2 => ?_⟩, fun h => absurd (of_decide_eq_false h) (by omega)⟩
            · have hb1 := hdi i (by omega) h2
              have hb2 : (0 ≤ (p.procs.getD i default).dir.id ∧ (p.procs.getD i default).dir.id < ((10 : Nat) : Int)) := ⟨hb1.1, hb1.2⟩
              have hb3 : ((p.procs.getD i default).dir.id).toNat < b.length := by omega
              exact ⟨by decide, by decide, hb2, hb3, hb2, hb3, _, by omega, i + 1, a, _, h1, rfl, by rw [w_add hi2], rfl, by show _ = d0F p i (itr (d0F p) i _); rw [← ha]; simp only [d0F, h2, h0', q_bt, q_bf] <;> rfl, by show _ = d1F p i (itr (d1F p) i _); rw [← hb]; simp only [d1F, h2, h0', q_bt, q_bf] <;> rfl, la, by rw [inc_len']; exact lb⟩
            · exact ⟨_, by omega, i + 1, a, b, h1, rfl, by rw [w_add hi2], rfl, by show _ = d0F p i (itr (d0F p) i _); rw [← ha]; simp only [d0F, h2, q_bt, q_bf] <;> rfl, by show _ = d1F p i (itr (d1F p) i _); rw [← hb]; simp only [d1F, h2, q_bt, q_bf] <;> rfl, la, lb⟩
        · obtain rfl : i = p.procs.length := by omega
          have ha : a = d0L p := ha
          have hb : b = d1L p := hb
          subst ha hb
          simp only [pvB, ↓pvP, pvDom, pvRr, Nat.reduceAdd, Nat.reduceEqDiff, Nat.reduceLeDiff, Nat.reduceLT, Nat.reduceSub, reduceIte, reduceCtorEq, pvI, Int.reduceToNat, Int.reduceLE, Int.reduceLT, Int.reduceMul, Int.reduceAdd, pvY, Nat.reduceMul, an58, pc58]
          refine ⟨fun h => absurd (of_decide_eq_true h) (by omega), fun _ => ⟨fun hmt => ?_, fun hmt => ?_⟩⟩
          · have hm0 : m0L p = inc (d0L p) p.vfs.mount := by unfold m0L; exact bif_tI hmt
            have hm1 := of_decide_eq_true hmt
            have hb2 : (0 ≤ p.vfs.mount ∧ p.vfs.mount < ((10 : Nat) : Int)) := ⟨by omega, by omega⟩
            have hb3 : p.vfs.mount.toNat < (d0L p).length := by omega
            have lm : (m0L p).length = 10 := by rw [hm0, inc_len]; exact la
            refine ⟨by decide, by decide, hb2, hb3, hb2, hb3, ?_⟩
            refine .inl ⟨[1, 3, 4, 5, 10], fun _ => 6, fun k vs H => ∃ (i : Nat), i ≤ 3 ∧ k = 3 - i ∧ vs = [.ptr 0 13 0 0, .own 1 1 0 3, .own 2 1 0 3, .own 5 1 0 2, .int .i64 i] ∧ H = [.rows 57 13 [[.sl 1 (p.mem.ram.text.map encS), .sl 1 (p.mem.ram.refs.map encI), .sl 1 (p.mem.swap.text.map encS), .sl 1 (p.mem.swap.refs.map encI), .sl 3 (p.mem.spaces.map Space.enc), .int .i64 p.mem.hand, .sl 1 (p.vfs.fss.map Fs.enc), .int .i64 p.vfs.mount, .sl 8 (p.files.map File.enc), .sl 3 (p.pipes.map Pipe.enc), .sl 14 (p.procs.map Proc.enc), .sl 4 (p.queue.tasks.map Task.enc), .int .i64 p.queue.floor]], .rows 3 1 ((rdL p).map encI), .rows 3 1 ((wrL p).map encI), .rows 3 1 ((m0L p).map encI), .rows 3 1 ((d1L p).map encI), .rows 23 1 [[.own 3 1 0 10], [.own 4 1 0 10]]] ∧ ∀ x, x < i → pipesAt p x = true, fun _ => Nat.zero_le _, ?_, ?_⟩
            · simp only [pvB, ↓pvP, pvDom, pvRr, Nat.reduceAdd, Nat.reduceEqDiff, Nat.reduceLeDiff, Nat.reduceLT, Nat.reduceSub, reduceIte, reduceCtorEq, pvI, Int.reduceToNat, Int.reduceLE, Int.reduceLT, Int.reduceMul, Int.reduceAdd, pvY, Nat.reduceMul]
              exact ⟨_, 0, Nat.zero_le _, rfl, rfl, by rw [hm0] <;> rfl, fun j hj => absurd hj (Nat.not_lt_zero j)⟩
            · rintro k vs H - ⟨i, hi, rfl, rfl, rfl, hP⟩
              simp only [pvB, ↓pvP, pvDom, pvRr, Nat.reduceAdd, Nat.reduceEqDiff, Nat.reduceLeDiff, Nat.reduceLT, Nat.reduceSub, reduceIte, reduceCtorEq, pvI, Int.reduceToNat, Int.reduceLE, Int.reduceLT, Int.reduceMul, Int.reduceAdd, pvY, Nat.reduceMul]
              refine ⟨fun h2 => ?_, fun h2 => ?_⟩
              · have h2 : i < 3 := by have := of_decide_eq_true h2; omega
                have hc : (0 : Int) ≤ (i : Int) ∧ (i : Int) < ((3 : Nat) : Int) := ⟨by omega, by omega⟩
                exact ⟨in_of i (by omega), hc, by omega, fun _ => in_of i (by omega), fun _ => hc, fun _ => by omega, fun h => all_bad h2 (congrArg not h), fun h => ⟨_, by omega, i + 1, h2, rfl, by rw [w_add (by omega)], all_next hP (congrArg not h)⟩⟩
              · obtain rfl : i = 3 := by have := of_decide_eq_false h2; omega
                have eA : (List.range 3).all (pipesAt p) = true := List.all_eq_true.2 fun j hj => hP j (List.mem_range.1 hj)
                rw [endsOk, eA, Bool.true_and]
                refine .inl ⟨[1, 3, 4, 5, 11], fun _ => 6, fun k vs H => ∃ (i : Nat), i ≤ 10 ∧ k = 10 - i ∧ vs = [.ptr 0 13 0 0, .own 1 1 0 3, .own 2 1 0 3, .own 5 1 0 2, .int .i64 i] ∧ H = [.rows 57 13 [[.sl 1 (p.mem.ram.text.map encS), .sl 1 (p.mem.ram.refs.map encI), .sl 1 (p.mem.swap.text.map encS), .sl 1 (p.mem.swap.refs.map encI), .sl 3 (p.mem.spaces.map Space.enc), .int .i64 p.mem.hand, .sl 1 (p.vfs.fss.map Fs.enc), .int .i64 p.vfs.mount, .sl 8 (p.files.map File.enc), .sl 3 (p.pipes.map Pipe.enc), .sl 14 (p.procs.map Proc.enc), .sl 4 (p.queue.tasks.map Task.enc), .int .i64 p.queue.floor]], .rows 3 1 ((rdL p).map encI), .rows 3 1 ((wrL p).map encI), .rows 3 1 ((m0L p).map encI), .rows 3 1 ((d1L p).map encI), .rows 23 1 [[.own 3 1 0 10], [.own 4 1 0 10]]] ∧ ∀ x, x < i → nodesAt p x = true, fun _ => Nat.zero_le _, ?_, ?_⟩
                · simp only [pvB, ↓pvP, pvDom, pvRr, Nat.reduceAdd, Nat.reduceEqDiff, Nat.reduceLeDiff, Nat.reduceLT, Nat.reduceSub, reduceIte, reduceCtorEq, pvI, Int.reduceToNat, Int.reduceLE, Int.reduceLT, Int.reduceMul, Int.reduceAdd, pvY, Nat.reduceMul]
                  exact ⟨_, 0, Nat.zero_le _, rfl, rfl, fun j hj => absurd hj (Nat.not_lt_zero j)⟩
                · rintro k vs H - ⟨i, hi, rfl, rfl, rfl, hP⟩
                  simp only [pvB, ↓pvP, pvDom, pvRr, Nat.reduceAdd, Nat.reduceEqDiff, Nat.reduceLeDiff, Nat.reduceLT, Nat.reduceSub, reduceIte, reduceCtorEq, pvI, Int.reduceToNat, Int.reduceLE, Int.reduceLT, Int.reduceMul, Int.reduceAdd, pvY, Nat.reduceMul]
                  refine ⟨fun h2 => ?_, fun h2 => ?_⟩
                  · have h2 : i < 10 := by have := of_decide_eq_true h2; omega
                    have hc : (0 : Int) ≤ (i : Int) ∧ (i : Int) < ((10 : Nat) : Int) := ⟨by omega, by omega⟩
                    exact ⟨by omega, in_of i (by omega), by decide, hc, by omega, fun _ => by omega, fun _ => in_of i (by omega), fun _ => by decide, fun _ => hc, fun _ => by omega, fun h => all1_bad h2 (congrArg not h), fun h => ⟨_, by omega, i + 1, h2, rfl, by rw [w_add (by omega)], all_next hP (congrArg not h)⟩⟩
                  · obtain rfl : i = 10 := by have := of_decide_eq_false h2; omega
                    exact all1_end hP
          · have hm0 : m0L p = d0L p := by unfold m0L; exact bif_fI hmt
            have lm : (m0L p).length = 10 := by rw [hm0]; exact la
            refine .inl ⟨[1, 3, 4, 5, 10], fun _ => 6, fun k vs H => ∃ (i : Nat), i ≤ 3 ∧ k = 3 - i ∧ vs = [.ptr 0 13 0 0, .own 1 1 0 3, .own 2 1 0 3, .own 5 1 0 2, .int .i64 i] ∧ H = [.rows 57 13 [[.sl 1 (p.mem.ram.text.map encS), .sl 1 (p.mem.ram.refs.map encI), .sl 1 (p.mem.swap.text.map encS), .sl 1 (p.mem.swap.refs.map encI), .sl 3 (p.mem.spaces.map Space.enc), .int .i64 p.mem.hand, .sl 1 (p.vfs.fss.map Fs.enc), .int .i64 p.vfs.mount, .sl 8 (p.files.map File.enc), .sl 3 (p.pipes.map Pipe.enc), .sl 14 (p.procs.map Proc.enc), .sl 4 (p.queue.tasks.map Task.enc), .int .i64 p.queue.floor]], .rows 3 1 ((rdL p).map encI), .rows 3 1 ((wrL p).map encI), .rows 3 1 ((m0L p).map encI), .rows 3 1 ((d1L p).map encI), .rows 23 1 [[.own 3 1 0 10], [.own 4 1 0 10]]] ∧ ∀ x, x < i → pipesAt p x = true, fun _ => Nat.zero_le _, ?_, ?_⟩
            · simp only [pvB, ↓pvP, pvDom, pvRr, Nat.reduceAdd, Nat.reduceEqDiff, Nat.reduceLeDiff, Nat.reduceLT, Nat.reduceSub, reduceIte, reduceCtorEq, pvI, Int.reduceToNat, Int.reduceLE, Int.reduceLT, Int.reduceMul, Int.reduceAdd, pvY, Nat.reduceMul]
              exact ⟨_, 0, Nat.zero_le _, rfl, rfl, by rw [hm0] <;> rfl, fun j hj => absurd hj (Nat.not_lt_zero j)⟩
            · rintro k vs H - ⟨i, hi, rfl, rfl, rfl, hP⟩
              simp only [pvB, ↓pvP, pvDom, pvRr, Nat.reduceAdd, Nat.reduceEqDiff, Nat.reduceLeDiff, Nat.reduceLT, Nat.reduceSub, reduceIte, reduceCtorEq, pvI, Int.reduceToNat, Int.reduceLE, Int.reduceLT, Int.reduceMul, Int.reduceAdd, pvY, Nat.reduceMul]
              refine ⟨fun h2 => ?_, fun h2 => ?_⟩
              · have h2 : i < 3 := by have := of_decide_eq_true h2; omega
                have hc : (0 : Int) ≤ (i : Int) ∧ (i : Int) < ((3 : Nat) : Int) := ⟨by omega, by omega⟩
                exact ⟨in_of i (by omega), hc, by omega, fun _ => in_of i (by omega), fun _ => hc, fun _ => by omega, fun h => all_bad h2 (congrArg not h), fun h => ⟨_, by omega, i + 1, h2, rfl, by rw [w_add (by omega)], all_next hP (congrArg not h)⟩⟩
              · obtain rfl : i = 3 := by have := of_decide_eq_false h2; omega
                have eA : (List.range 3).all (pipesAt p) = true := List.all_eq_true.2 fun j hj => hP j (List.mem_range.1 hj)
                rw [endsOk, eA, Bool.true_and]
                refine .inl ⟨[1, 3, 4, 5, 11], fun _ => 6, fun k vs H => ∃ (i : Nat), i ≤ 10 ∧ k = 10 - i ∧ vs = [.ptr 0 13 0 0, .own 1 1 0 3, .own 2 1 0 3, .own 5 1 0 2, .int .i64 i] ∧ H = [.rows 57 13 [[.sl 1 (p.mem.ram.text.map encS), .sl 1 (p.mem.ram.refs.map encI), .sl 1 (p.mem.swap.text.map encS), .sl 1 (p.mem.swap.refs.map encI), .sl 3 (p.mem.spaces.map Space.enc), .int .i64 p.mem.hand, .sl 1 (p.vfs.fss.map Fs.enc), .int .i64 p.vfs.mount, .sl 8 (p.files.map File.enc), .sl 3 (p.pipes.map Pipe.enc), .sl 14 (p.procs.map Proc.enc), .sl 4 (p.queue.tasks.map Task.enc), .int .i64 p.queue.floor]], .rows 3 1 ((rdL p).map encI), .rows 3 1 ((wrL p).map encI), .rows 3 1 ((m0L p).map encI), .rows 3 1 ((d1L p).map encI), .rows 23 1 [[.own 3 1 0 10], [.own 4 1 0 10]]] ∧ ∀ x, x < i → nodesAt p x = true, fun _ => Nat.zero_le _, ?_, ?_⟩
                · simp only [pvB, ↓pvP, pvDom, pvRr, Nat.reduceAdd, Nat.reduceEqDiff, Nat.reduceLeDiff, Nat.reduceLT, Nat.reduceSub, reduceIte, reduceCtorEq, pvI, Int.reduceToNat, Int.reduceLE, Int.reduceLT, Int.reduceMul, Int.reduceAdd, pvY, Nat.reduceMul]
                  exact ⟨_, 0, Nat.zero_le _, rfl, rfl, fun j hj => absurd hj (Nat.not_lt_zero j)⟩
                · rintro k vs H - ⟨i, hi, rfl, rfl, rfl, hP⟩
                  simp only [pvB, ↓pvP, pvDom, pvRr, Nat.reduceAdd, Nat.reduceEqDiff, Nat.reduceLeDiff, Nat.reduceLT, Nat.reduceSub, reduceIte, reduceCtorEq, pvI, Int.reduceToNat, Int.reduceLE, Int.reduceLT, Int.reduceMul, Int.reduceAdd, pvY, Nat.reduceMul]
                  refine ⟨fun h2 => ?_, fun h2 => ?_⟩
                  · have h2 : i < 10 := by have := of_decide_eq_true h2; omega
                    have hc : (0 : Int) ≤ (i : Int) ∧ (i : Int) < ((10 : Nat) : Int) := ⟨by omega, by omega⟩
                    exact ⟨by omega, in_of i (by omega), by decide, hc, by omega, fun _ => by omega, fun _ => in_of i (by omega), fun _ => by decide, fun _ => hc, fun _ => by omega, fun h => all1_bad h2 (congrArg not h), fun h => ⟨_, by omega, i + 1, h2, rfl, by rw [w_add (by omega)], all_next hP (congrArg not h)⟩⟩
                  · obtain rfl : i = 10 := by have := of_decide_eq_false h2; omega
                    exact all1_end hP

end Go.Proofs.YtemoiphdjocaiaaGreat
