/-
  What KernPoll answers, in both forms. Conditions: none.
-/
import Derived.Test.YtemoiphdjocaiaaGreatPvTy
import Derived.Test.YtemoiphdjocaiaaGreatPvReady
set_option linter.all false
set_option linter.unusedSimpArgs false
set_option linter.unusedVariables false
namespace Go.Proofs.YtemoiphdjocaiaaGreat
open Go.Pv
set_option linter.unusedSimpArgs false
set_option maxRecDepth 100000
set_option maxHeartbeats 4000000

def pollOk (p : Kern) (n : Int) (i : Nat) : Bool := !krBad p n i && (rdA p (fiOf p n i) && rdB p (fiOf p n i))
def pollL (p : Kern) (n : Int) : Nat → List Int
  | 0 => []
  | k + 1 => bif pollOk p n k then pollL p n k ++ [(k : Int)] else pollL p n k
theorem pollL_len (p : Kern) (n : Int) : ∀ k, (pollL p n k).length ≤ k
  | 0 => Nat.le_refl _
  | k + 1 => by
    have := pollL_len p n k
    simp only [pollL]
    cases pollOk p n k with
    | false => exact Nat.le_succ_of_le this
    | true =>
      show (pollL p n k ++ [_]).length ≤ _
      rw [List.length_append]; simp; exact this
def pollP (p : Kern) (n : Int) : PV := bif isK p n then .tup [.sl 1 ((pollL p n 5).map encI), .bool true] else .tup [.sl 1 [], .bool false]
theorem kb7 (p : Kern) (n : Int) : (!kernOk p || !inB n 0 4 || !aliveP (p.procs.getD n.toNat default)) = !isK p n := by
  unfold isK
  cases hk : kernOk p with
  | false => rfl
  | true =>
    rw [wlit _ 4 (by omega) (by omega) (by have := kern_len hk; omega)]
    cases inB n 0 4 <;> cases aliveP (p.procs.getD n.toNat default) <;> rfl
/-- The same; the list is new. -/
def pollPI (p : Kern) (n : Int) : PV := bif isK p n then .tup [.fs 1 ((pollL p n 5).map encI), .bool true] else .tup [.nil, .bool false]
def an11 : List PV → PV
  | [.agg p, .int _ n] => pollP (Kern.dec p) n
  | _ => .undef
def an12 : List PV → PV
  | [.agg p, .int _ n] => pollPI (Kern.dec p) n
  | _ => .undef
/-- The heap while a list is made. -/
structure OL (b : Blk) (H : Heap) (o : Nat) (l : List Int) : Prop where
  ne : o ≠ 0
  box : H[0]? = some b
  row : H[o]? = some (.rows 3 1 (l.map encI))
  all : ∀ k, H.length ≤ k → H.all (hbB k) = true
theorem OL.first {b : Blk} (hb : ∀ k, hbB k b = true) : OL b [b, .rows 3 1 []] 1 [] := ⟨by omega, rfl, rfl, fun k _ => by simp only [List.all_cons, List.all_nil, hb]; rfl⟩
theorem hb_rows (k : Nat) (l : List Int) : hbB k (.rows 3 1 (l.map encI)) = true := by
  show ((l.map encI).all fun e => hbL k e) = true
  exact hb_I k l
theorem OL.app {b : Blk} {H : Heap} {o : Nat} {l : List Int} (h : OL b H o l) (i : Int) (c : Blk) (hc : ∀ k, hbB k c = true) : OL b (H.set o .dead ++ [c, .rows 3 1 (l.map encI ++ [[.int .i64 i]])]) (H.length + 1) (l ++ [i]) := by
  have hl := (List.getElem?_eq_some_iff.1 h.box).1
  refine ⟨by omega, ?_, ?_, fun k hk => ?_⟩
  · rw [y_gk (by rw [List.length_set]; exact hl), y_ne h.ne]; exact h.box
  · rw [y_sgn, List.map_append]; rfl
  · rw [List.length_append, List.length_set] at hk
    have e : l.map encI ++ [[PV.int .i64 i]] = (l ++ [i]).map encI := by rw [List.map_append]; rfl
    rw [e, List.all_append, all_set (h.all k (by omega)) rfl]
    simp only [List.all_cons, List.all_nil, hc, hb_rows]
    rfl
theorem OL.more {b : Blk} {H : Heap} {o : Nat} {l : List Int} (h : OL b H o l) {R : Heap} (hR : ∀ k, R.all (hbB k) = true) : OL b (H ++ R) o l := by
  have hl := (List.getElem?_eq_some_iff.1 h.box).1
  have hl2 := (List.getElem?_eq_some_iff.1 h.row).1
  refine ⟨h.ne, by rw [y_gk hl]; exact h.box, by rw [y_gk hl2]; exact h.row, fun k hk => ?_⟩
  rw [List.length_append] at hk
  rw [List.all_append, h.all k (by omega), hR]; rfl
theorem ol_E {c : Nat → List (List PV) → PV} (l : List Int) (H : Heap) (m : Nat) : List.map (fun e => List.map (expo c H (m + 1)) e) (List.take l.length (l.map encI)) = l.map encI := by
  have e : l.length = (l.map encI).length := by simp
  rw [e, List.take_length]
  rw [List.map_map]
  exact List.map_congr_left fun a _ => rfl

theorem krP_bad' {p : Kern} {n d : Int} (h : krBad p n d = true) : krP p n d = .tup [.bool false, .bool false, .bool false] := by
  unfold krP; rw [h]; rfl

theorem pc11 (p : Kern) (n : Int) : PC Tryz.prog 11 [.agg [.sl 1 (p.mem.ram.text.map encS), .sl 1 (p.mem.ram.refs.map encI), .sl 1 (p.mem.swap.text.map encS), .sl 1 (p.mem.swap.refs.map encI), .sl 3 (p.mem.spaces.map Space.enc), .int .i64 p.mem.hand, .sl 1 (p.vfs.fss.map Fs.enc), .int .i64 p.vfs.mount, .sl 8 (p.files.map File.enc), .sl 3 (p.pipes.map Pipe.enc), .sl 14 (p.procs.map Proc.enc), .sl 4 (p.queue.tasks.map Task.enc), .int .i64 p.queue.floor], .int .i64 n] (pollP p n) := by
  refine PC.of_vc mixed (phiOf [(25, an25), (7, an7)]) Tryz.func11 (by kernel_rfl) (rfl : Tryz.f11.body = some _) Tryz.ntmps11 (by kernel_rfl) rfl (by kernel_rfl) Tryz.results11 fun hwf => ?_
  clear hwf
  simp (maxSteps := 4000000) only [pvB, ↓pvP, pvDom, pvRr, pvLl, Nat.reduceAdd, Nat.reduceEqDiff, Nat.reduceLeDiff, Nat.reduceLT, Nat.reduceSub, reduceIte, reduceCtorEq, an25, pc25, an7, pc7, pvI, Int.reduceToNat, Int.reduceLE, Int.reduceLT, Int.reduceMul, Int.reduceAdd, Int.reduceGT, Int.reduceGE, Int.reduceEq, pvY, Nat.reduceMul, x_be, x_bn, bbE, rAppN, nilZ, y_gn, y_gl, y_sgn, y_sgl, y_ssgn, y_ssgl, y_gk, y_sn, y_sl, y_ssn, y_sk, y_ls, y_as, y_eq, y_tl, y_tf, y_ha, y_dr, y_sdr, y_ssdr, y_stf, y_sstf]
  refine ⟨fun h => by rw [pollP, nb_t h]; exact Le.refl _, fun h => ?_⟩
  rw [show pollP p n = .tup [.sl 1 ((pollL p n 5).map encI), .bool true] from by rw [pollP, nb_f h]; rfl]
  refine .inl ⟨[1, 2, 6, 7], fun H => H.length, fun k vs H => ∃ (i o : Nat), i ≤ 5 ∧ k = 5 - i ∧ vs = [.int .i64 n, .ptr 0 13 0 0, .own o 1 0 (pollL p n i).length, .int .i64 i] ∧ OL (.rows 57 13 [[.sl 1 (p.mem.ram.text.map encS), .sl 1 (p.mem.ram.refs.map encI), .sl 1 (p.mem.swap.text.map encS), .sl 1 (p.mem.swap.refs.map encI), .sl 3 (p.mem.spaces.map Space.enc), .int .i64 p.mem.hand, .sl 1 (p.vfs.fss.map Fs.enc), .int .i64 p.vfs.mount, .sl 8 (p.files.map File.enc), .sl 3 (p.pipes.map Pipe.enc), .sl 14 (p.procs.map Proc.enc), .sl 4 (p.queue.tasks.map Task.enc), .int .i64 p.queue.floor]]) H o (pollL p n i), fun _ => Nat.zero_le _, ?_, ?_⟩
  · simp (maxSteps := 4000000) only [pvB, ↓pvP, pvDom, pvRr, pvLl, Nat.reduceAdd, Nat.reduceEqDiff, Nat.reduceLeDiff, Nat.reduceLT, Nat.reduceSub, reduceIte, reduceCtorEq, an25, pc25, an7, pc7, pvI, Int.reduceToNat, Int.reduceLE, Int.reduceLT, Int.reduceMul, Int.reduceAdd, Int.reduceGT, Int.reduceGE, Int.reduceEq, pvY, Nat.reduceMul, x_be, x_bn, bbE, rAppN, nilZ, y_gn, y_gl, y_sgn, y_sgl, y_ssgn, y_ssgl, y_gk, y_sn, y_sl, y_ssn, y_sk, y_ls, y_as, y_eq, y_tl, y_tf, y_ha, y_dr, y_sdr, y_ssdr, y_stf, y_sstf]
    exact ⟨_, 0, 1, by omega, rfl, rfl, OL.first fun k => rfl⟩
  · rintro k vs H - ⟨i, o, hi, rfl, rfl, hO⟩
    have hbox := hO.box
    have hrow := hO.row
    have hne := hO.ne
    have hne' : 0 ≠ o := Ne.symm hne
    have hl0 := (List.getElem?_eq_some_iff.1 hbox).1
    have hol := (List.getElem?_eq_some_iff.1 hrow).1
    have hln := pollL_len p n i
    rcases Nat.lt_or_ge i 5 with h1 | h1
    · cases hb : krBad p n i with
      | true =>
        have hk := krP_bad' hb
        have h7 := pc7 p n i
        rw [hk] at h7
        simp (maxSteps := 4000000) only [pvB, ↓pvP, pvDom, pvRr, pvLl, Nat.reduceAdd, Nat.reduceEqDiff, Nat.reduceLeDiff, Nat.reduceLT, Nat.reduceSub, reduceIte, reduceCtorEq, an25, pc25, an7, h7, pvI, Int.reduceToNat, Int.reduceLE, Int.reduceLT, Int.reduceMul, Int.reduceAdd, Int.reduceGT, Int.reduceGE, Int.reduceEq, pvY, Nat.reduceMul, x_be, x_bn, bbE, rAppN, nilZ, y_gn, y_gl, y_sgn, y_sgl, y_ssgn, y_ssgl, y_gk, y_sn, y_sl, y_ssn, y_sk, y_ls, y_as, y_eq, y_tl, y_tf, y_ha, y_dr, y_sdr, y_ssdr, y_stf, y_sstf, hl0, hbox, hrow, hol, y_ne, hne, hne', hk]
        have e : pollL p n (i + 1) = pollL p n i := by simp only [pollL, pollOk, hb, Bool.not_true, Bool.false_and, cond_false]
        exact ⟨fun _ => ⟨hO.all _ (Nat.le_refl _), _, by omega, i + 1, o, h1, rfl, by rw [w_add (by omega), e], by rw [e]; exact hO⟩, fun h => absurd (of_decide_eq_false h) (by omega)⟩
      | false =>
        have hk := krP_ok hb
        have h7 := pc7 p n i
        rw [hk] at h7
        simp (maxSteps := 4000000) only [pvB, ↓pvP, pvDom, pvRr, pvLl, Nat.reduceAdd, Nat.reduceEqDiff, Nat.reduceLeDiff, Nat.reduceLT, Nat.reduceSub, reduceIte, reduceCtorEq, an25, pc25, an7, h7, pvI, Int.reduceToNat, Int.reduceLE, Int.reduceLT, Int.reduceMul, Int.reduceAdd, Int.reduceGT, Int.reduceGE, Int.reduceEq, pvY, Nat.reduceMul, x_be, x_bn, bbE, rAppN, nilZ, y_gn, y_gl, y_sgn, y_sgl, y_ssgn, y_ssgl, y_gk, y_sn, y_sl, y_ssn, y_sk, y_ls, y_as, y_eq, y_tl, y_tf, y_ha, y_dr, y_sdr, y_ssdr, y_stf, y_sstf, hl0, hbox, hrow, hol, y_ne, hne, hne', hk]
        refine ⟨fun _ => ⟨fun h2 => ?_, fun h2 => ?_⟩, fun h => absurd (of_decide_eq_false h) (by omega)⟩
        · have e : pollL p n (i + 1) = pollL p n i ++ [(i : Int)] := by simp only [pollL, pollOk, hb, h2, Bool.not_false, Bool.true_and, cond_true]
          have hA := hO.app i (.rows 3 1 [[.int .i64 i]]) fun k => rfl
          exact ⟨⟨by omega, by omega, by omega⟩, by simp, hA.all _ (by simp), _, by omega, i + 1, _, h1, rfl, by rw [w_add (by omega), e, List.length_append]; rfl, by rw [e]; exact hA⟩
        · have e : pollL p n (i + 1) = pollL p n i := by simp only [pollL, pollOk, hb, h2, Bool.not_false, Bool.true_and, cond_false]
          exact ⟨hO.all _ (Nat.le_refl _), _, by omega, i + 1, o, h1, rfl, by rw [w_add (by omega), e], by rw [e]; exact hO⟩
    · obtain rfl : i = 5 := by omega
      simp (maxSteps := 4000000) only [pvB, ↓pvP, pvDom, pvRr, pvLl, Nat.reduceAdd, Nat.reduceEqDiff, Nat.reduceLeDiff, Nat.reduceLT, Nat.reduceSub, reduceIte, reduceCtorEq, an25, an7, pvI, Int.reduceToNat, Int.reduceLE, Int.reduceLT, Int.reduceMul, Int.reduceAdd, Int.reduceGT, Int.reduceGE, Int.reduceEq, pvY, Nat.reduceMul, x_be, x_bn, bbE, rAppN, nilZ, y_gn, y_gl, y_sgn, y_sgl, y_ssgn, y_ssgl, y_gk, y_sn, y_sl, y_ssn, y_sk, y_ls, y_as, y_eq, y_tl, y_tf, y_ha, y_dr, y_sdr, y_ssdr, y_stf, y_sstf, hl0, hbox, hrow, hol, y_ne, hne, hne']
      refine ⟨fun h => absurd (of_decide_eq_true h) (by omega), fun _ => ?_⟩
      rw [ol_E]
      exact Le.refl _

theorem pc12 (p : Kern) (n : Int) : PC Tryz.prog 12 [.agg [.sl 1 (p.mem.ram.text.map encS), .sl 1 (p.mem.ram.refs.map encI), .sl 1 (p.mem.swap.text.map encS), .sl 1 (p.mem.swap.refs.map encI), .sl 3 (p.mem.spaces.map Space.enc), .int .i64 p.mem.hand, .sl 1 (p.vfs.fss.map Fs.enc), .int .i64 p.vfs.mount, .sl 8 (p.files.map File.enc), .sl 3 (p.pipes.map Pipe.enc), .sl 14 (p.procs.map Proc.enc), .sl 4 (p.queue.tasks.map Task.enc), .int .i64 p.queue.floor], .int .i64 n] (pollPI p n) := by
  refine PC.of_vcF mixed (phiOf [(34, an34), (35, an35), (36, an36), (9, an9)]) Tryz.func12 (by kernel_rfl) (rfl : Tryz.f12.body = some _) Tryz.ntmps12 (by kernel_rfl) rfl (by kernel_rfl) Tryz.results12 fun hwf => ?_
  clear hwf
  simp (maxSteps := 4000000) only [pvB, ↓pvP, pvDom, pvRr, pvLl, Nat.reduceAdd, Nat.reduceEqDiff, Nat.reduceLeDiff, Nat.reduceLT, Nat.reduceSub, reduceIte, reduceCtorEq, an34, pc34', an35, pc35, an36, pc36, an9, pc9, pvI, Int.reduceToNat, Int.reduceLE, Int.reduceLT, Int.reduceMul, Int.reduceAdd, Int.reduceGT, Int.reduceGE, Int.reduceEq, pvY, Nat.reduceMul, x_be, x_bn, bbE, rAppN, nilZ, y_gn, y_gl, y_sgn, y_sgl, y_ssgn, y_ssgl, y_gk, y_sn, y_sl, y_ssn, y_sk, y_ls, y_as, y_eq, y_tl, y_tf, y_ha, y_dr, y_sdr, y_ssdr, y_stf, y_sstf]
  refine ⟨fun h => ?_, fun h => ?_, fun h => ?_⟩
  · rw [Bool.not_eq_true', Bool.or_eq_false_iff, Bool.not_eq_false', Bool.not_eq_false'] at h
    have := kern_len h.1
    have := inB_iff.1 h.2
    omega
  · rw [kb7] at h
    rw [pollPI, nb_t h]
    exact Le.refl _
  rw [kb7] at h
  rw [show pollPI p n = .tup [.fs 1 ((pollL p n 5).map encI), .bool true] from by rw [pollPI, nb_f h]; rfl]
  refine .inl ⟨[1, 2, 6, 29], fun H => H.length, fun k vs H => ∃ (i o : Nat), i ≤ 5 ∧ k = 5 - i ∧ vs = [.int .i64 n, .ptr 0 13 0 0, .own o 1 0 (pollL p n i).length, .int .i64 i] ∧ OL (.rows 57 13 [[.sl 1 (p.mem.ram.text.map encS), .sl 1 (p.mem.ram.refs.map encI), .sl 1 (p.mem.swap.text.map encS), .sl 1 (p.mem.swap.refs.map encI), .sl 3 (p.mem.spaces.map Space.enc), .int .i64 p.mem.hand, .sl 1 (p.vfs.fss.map Fs.enc), .int .i64 p.vfs.mount, .sl 8 (p.files.map File.enc), .sl 3 (p.pipes.map Pipe.enc), .sl 14 (p.procs.map Proc.enc), .sl 4 (p.queue.tasks.map Task.enc), .int .i64 p.queue.floor]]) H o (pollL p n i), fun _ => Nat.zero_le _, ?_, ?_⟩
  · simp (maxSteps := 4000000) only [pvB, ↓pvP, pvDom, pvRr, pvLl, Nat.reduceAdd, Nat.reduceEqDiff, Nat.reduceLeDiff, Nat.reduceLT, Nat.reduceSub, reduceIte, reduceCtorEq, an34, pc34', an35, pc35, an36, pc36, an9, pc9, pvI, Int.reduceToNat, Int.reduceLE, Int.reduceLT, Int.reduceMul, Int.reduceAdd, Int.reduceGT, Int.reduceGE, Int.reduceEq, pvY, Nat.reduceMul, x_be, x_bn, bbE, rAppN, nilZ, y_gn, y_gl, y_sgn, y_sgl, y_ssgn, y_ssgl, y_gk, y_sn, y_sl, y_ssn, y_sk, y_ls, y_as, y_eq, y_tl, y_tf, y_ha, y_dr, y_sdr, y_ssdr, y_stf, y_sstf]
    exact ⟨_, 0, 1, by omega, rfl, rfl, OL.first fun k => rfl⟩
  · rintro k vs H - ⟨i, o, hi, rfl, rfl, hO⟩
    have hbox := hO.box
    have hrow := hO.row
    have hne := hO.ne
    have hne' : 0 ≠ o := Ne.symm hne
    have hl0 := (List.getElem?_eq_some_iff.1 hbox).1
    have hol := (List.getElem?_eq_some_iff.1 hrow).1
    have hln := pollL_len p n i
    rcases Nat.lt_or_ge i 5 with h1 | h1
    · cases hb : krBad p n i with
      | true =>
        have hk := krP_bad' hb
        have h9 := pc9 p n i
        rw [hk] at h9
        simp (maxSteps := 4000000) only [pvB, ↓pvP, pvDom, pvRr, pvLl, Nat.reduceAdd, Nat.reduceEqDiff, Nat.reduceLeDiff, Nat.reduceLT, Nat.reduceSub, reduceIte, reduceCtorEq, an34, pc34', an35, pc35, an36, pc36, an9, h9, pvI, Int.reduceToNat, Int.reduceLE, Int.reduceLT, Int.reduceMul, Int.reduceAdd, Int.reduceGT, Int.reduceGE, Int.reduceEq, pvY, Nat.reduceMul, x_be, x_bn, bbE, rAppN, nilZ, y_gn, y_gl, y_sgn, y_sgl, y_ssgn, y_ssgl, y_gk, y_sn, y_sl, y_ssn, y_sk, y_ls, y_as, y_eq, y_tl, y_tf, y_ha, y_dr, y_sdr, y_ssdr, y_stf, y_sstf, hl0, hbox, hrow, hol, y_ne, hne, hne', hk]
        have e : pollL p n (i + 1) = pollL p n i := by simp only [pollL, pollOk, hb, Bool.not_true, Bool.false_and, cond_false]
        exact ⟨fun _ => ⟨hO.all _ (Nat.le_refl _), _, by omega, i + 1, o, h1, rfl, by rw [w_add (by omega), e], by rw [e]; exact hO⟩, fun h => absurd (of_decide_eq_false h) (by omega)⟩
      | false =>
        have hk := krP_ok hb
        have h9 := pc9 p n i
        rw [hk] at h9
        simp (maxSteps := 4000000) only [pvB, ↓pvP, pvDom, pvRr, pvLl, Nat.reduceAdd, Nat.reduceEqDiff, Nat.reduceLeDiff, Nat.reduceLT, Nat.reduceSub, reduceIte, reduceCtorEq, an34, pc34', an35, pc35, an36, pc36, an9, h9, pvI, Int.reduceToNat, Int.reduceLE, Int.reduceLT, Int.reduceMul, Int.reduceAdd, Int.reduceGT, Int.reduceGE, Int.reduceEq, pvY, Nat.reduceMul, x_be, x_bn, bbE, rAppN, nilZ, y_gn, y_gl, y_sgn, y_sgl, y_ssgn, y_ssgl, y_gk, y_sn, y_sl, y_ssn, y_sk, y_ls, y_as, y_eq, y_tl, y_tf, y_ha, y_dr, y_sdr, y_ssdr, y_stf, y_sstf, hl0, hbox, hrow, hol, y_ne, hne, hne', hk]
        refine ⟨fun _ => ⟨fun h2 => ?_, fun h2 => ?_⟩, fun h => absurd (of_decide_eq_false h) (by omega)⟩
        · have e : pollL p n (i + 1) = pollL p n i ++ [(i : Int)] := by simp only [pollL, pollOk, hb, h2, Bool.not_false, Bool.true_and, cond_true]
          have hA := hO.app i (.rows 3 1 [[.int .i64 i]]) fun k => rfl
          exact ⟨⟨by omega, by omega, by omega⟩, by simp, hA.all _ (by simp), _, by omega, i + 1, _, h1, rfl, by rw [w_add (by omega), e, List.length_append]; rfl, by rw [e]; exact hA⟩
        · have e : pollL p n (i + 1) = pollL p n i := by simp only [pollL, pollOk, hb, h2, Bool.not_false, Bool.true_and, cond_false]
          exact ⟨hO.all _ (Nat.le_refl _), _, by omega, i + 1, o, h1, rfl, by rw [w_add (by omega), e], by rw [e]; exact hO⟩
    · obtain rfl : i = 5 := by omega
      simp (maxSteps := 4000000) only [pvB, ↓pvP, pvDom, pvRr, pvLl, Nat.reduceAdd, Nat.reduceEqDiff, Nat.reduceLeDiff, Nat.reduceLT, Nat.reduceSub, reduceIte, reduceCtorEq, an34, an35, an36, an9, pvI, Int.reduceToNat, Int.reduceLE, Int.reduceLT, Int.reduceMul, Int.reduceAdd, Int.reduceGT, Int.reduceGE, Int.reduceEq, pvY, Nat.reduceMul, x_be, x_bn, bbE, rAppN, nilZ, y_gn, y_gl, y_sgn, y_sgl, y_ssgn, y_ssgl, y_gk, y_sn, y_sl, y_ssn, y_sk, y_ls, y_as, y_eq, y_tl, y_tf, y_ha, y_dr, y_sdr, y_ssdr, y_stf, y_sstf, hl0, hbox, hrow, hol, y_ne, hne, hne']
      refine ⟨fun h => absurd (of_decide_eq_true h) (by omega), fun _ => ?_⟩
      rw [ol_E]
      exact Le.refl _

end Go.Proofs.YtemoiphdjocaiaaGreat
