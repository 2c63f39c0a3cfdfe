/-
  What KernWaits answers, in both forms. Conditions: none.
-/
import Derived.Test.YtemoiphdjocaiaaGreatPvTy
import Derived.Test.YtemoiphdjocaiaaGreatPvReady
set_option linter.all false
set_option linter.unusedSimpArgs false
set_option linter.unusedVariables false
namespace Go.Proofs.YtemoiphdjocaiaaGreat
open Go.Pv
set_option linter.unusedSimpArgs false
set_option maxRecDepth 100000
set_option maxHeartbeats 4000000

def pollOk (p : Kern) (n : Int) (i : Nat) : Bool := !krBad p n i && (rdA p (fiOf p n i) && rdB p (fiOf p n i))
def pollL (p : Kern) (n : Int) : Nat → List Int
  | 0 => []
  | k + 1 => bif pollOk p n k then pollL p n k ++ [(k : Int)] else pollL p n k
theorem pollL_len (p : Kern) (n : Int) : ∀ k, (pollL p n k).length ≤ k
  | 0 => Nat.le_refl _
  | k + 1 => by
    have := pollL_len p n k
    simp only [pollL]
    cases pollOk p n k with
    | false => exact Nat.le_succ_of_le this
    | true =>
      show (pollL p n k ++ [_]).length ≤ _
      rw [List.length_append]; simp; exact this
def pollP (p : Kern) (n : Int) : PV := bif isK p n then .tup [.sl 1 ((pollL p n 5).map encI), .bool true] else .tup [.sl 1 [], .bool false]
theorem kb7 (p : Kern) (n : Int) : (!kernOk p || !inB n 0 4 || !aliveP (p.procs.getD n.toNat default)) = !isK p n := by
  unfold isK
  cases hk : kernOk p with
  | false => rfl
  | true =>
    rw [wlit _ 4 (by omega) (by omega) (by have := kern_len hk; omega)]
    cases inB n 0 4 <;> cases aliveP (p.procs.getD n.toNat default) <;> rfl
/-- The same; the list is new. -/
def pollPI (p : Kern) (n : Int) : PV := bif isK p n then .tup [.fs 1 ((pollL p n 5).map encI), .bool true] else .tup [.nil, .bool false]
def an11 : List PV → PV
  | [.agg p, .int _ n] => pollP (Kern.dec p) n
  | _ => .undef
def an12 : List PV → PV
  | [.agg p, .int _ n] => pollPI (Kern.dec p) n
  | _ => .undef
/-- The heap while a list is made. -/
structure OL (b : Blk) (H : Heap) (o : Nat) (l : List Int) : Prop where
  ne : o ≠ 0
  box : H[0]? = some b
  row : H[o]? = some (.rows 3 1 (l.map encI))
  all : ∀ k, H.length ≤ k → H.all (hbB k) = true
theorem OL.first {b : Blk} (hb : ∀ k, hbB k b = true) : OL b [b, .rows 3 1 []] 1 [] := ⟨by omega, rfl, rfl, fun k _ => by simp only [List.all_cons, List.all_nil, hb]; rfl⟩
theorem hb_rows (k : Nat) (l : List Int) : hbB k (.rows 3 1 (l.map encI)) = true := by
  show ((l.map encI).all fun e => hbL k e) = true
  exact hb_I k l
theorem OL.app {b : Blk} {H : Heap} {o : Nat} {l : List Int} (h : OL b H o l) (i : Int) (c : Blk) (hc : ∀ k, hbB k c = true) : OL b (H.set o .dead ++ [c, .rows 3 1 (l.map encI ++ [[.int .i64 i]])]) (H.length + 1) (l ++ [i]) := by
  have hl := (List.getElem?_eq_some_iff.1 h.box).1
  refine ⟨by omega, ?_, ?_, fun k hk => ?_⟩
  · rw [y_gk (by rw [List.length_set]; exact hl), y_ne h.ne]; exact h.box
  · rw [y_sgn, List.map_append]; rfl
  · rw [List.length_append, List.length_set] at hk
    have e : l.map encI ++ [[PV.int .i64 i]] = (l ++ [i]).map encI := by rw [List.map_append]; rfl
    rw [e, List.all_append, all_set (h.all k (by omega)) rfl]
    simp only [List.all_cons, List.all_nil, hc, hb_rows]
    rfl
theorem OL.more {b : Blk} {H : Heap} {o : Nat} {l : List Int} (h : OL b H o l) {R : Heap} (hR : ∀ k, R.all (hbB k) = true) : OL b (H ++ R) o l := by
  have hl := (List.getElem?_eq_some_iff.1 h.box).1
  have hl2 := (List.getElem?_eq_some_iff.1 h.row).1
  refine ⟨h.ne, by rw [y_gk hl]; exact h.box, by rw [y_gk hl2]; exact h.row, fun k hk => ?_⟩
  rw [List.length_append] at hk
  rw [List.all_append, h.all k (by omega), hR]; rfl
theorem ol_E {c : Nat → List (List PV) → PV} (l : List Int) (H : Heap) (m : Nat) : List.map (fun e => List.map (expo c H (m + 1)) e) (List.take l.length (l.map encI)) = l.map encI := by
  have e : l.length = (l.map encI).length := by simp
  rw [e, List.take_length]
  rw [List.map_map]
  exact List.map_congr_left fun a _ => rfl

theorem krP_bad' {p : Kern} {n d : Int} (h : krBad p n d = true) : krP p n d = .tup [.bool false, .bool false, .bool false] := by
  unfold krP; rw [h]; rfl

theorem pc11 (p : Kern) (n : Int) : PC Tryz.prog 11 [.agg [.sl 1 (p.mem.ram.text.map encS), .sl 1 (p.mem.ram.refs.map encI), .sl 1 (p.mem.swap.text.map encS), .sl 1 (p.mem.swap.refs.map encI), .sl 3 (p.mem.spaces.map Space.enc), .int .i64 p.mem.hand, .sl 1 (p.vfs.fss.map Fs.enc), .int .i64 p.vfs.mount, .sl 8 (p.files.map File.enc), .sl 3 (p.pipes.map Pipe.enc), .sl 14 (p.procs.map Proc.enc), .sl 4 (p.queue.tasks.map Task.enc), .int .i64 p.queue.floor], .int .i64 n] (pollP p n) := by
  refine PC.of_vc mixed (phiOf [(25, an25), (7, an7)]) Tryz.func11 (by kernel_rfl) (rfl : Tryz.f11.body = some _) Tryz.ntmps11 (by kernel_rfl) rfl (by kernel_rfl) Tryz.results11 fun hwf => ?_
  clear hwf
  simp (maxSteps := 4000000) only [pvB, ↓pvP, pvDom, pvRr, pvLl, Nat.reduceAdd, Nat.reduceEqDiff, Nat.reduceLeDiff, Nat.reduceLT, Nat.reduceSub, reduceIte, reduceCtorEq, an25, pc25, an7, pc7, pvI, Int.reduceToNat, Int.reduceLE, Int.reduceLT, Int.reduceMul, Int.reduceAdd, Int.reduceGT, Int.reduceGE, Int.reduceEq, pvY, Nat.reduceMul, x_be, x_bn, bbE, rAppN, nilZ, y_gn, y_gl, y_sgn, y_sgl, y_ssgn, y_ssgl, y_gk, y_sn, y_sl, y_ssn, y_sk, y_ls, y_as, y_eq, y_tl, y_tf, y_ha, y_dr, y_sdr, y_ssdr, y_stf, y_sstf]
  refine ⟨fun h => by rw [pollP, nb_t h]; exact Le.refl _, fun h => ?_⟩
  rw [show pollP p n = .tup [.sl 1 ((pollL p n 5).map encI), .bool true] from by rw [pollP, nb_f h]; rfl]
  refine .inl ⟨[1, 2, 6, 7], fun H => H.length, fun k vs H => ∃ (i o : Nat), i ≤ 5 ∧ k = 5 - i ∧ vs = [.int .i64 n, .ptr 0 13 0 0, .own o 1 0 (pollL p n i).length, .int .i64 i] ∧ OL (.rows 57 13 [[.sl 1 (p.mem.ram.text.map encS), .sl 1 (p.mem.ram.refs.map encI), .sl 1 (p.mem.swap.text.map encS), .sl 1 (p.mem.swap.refs.map encI), .sl 3 (p.mem.spaces.map Space.enc), .int .i64 p.mem.hand, .sl 1 (p.vfs.fss.map Fs.enc), .int .i64 p.vfs.mount, .sl 8 (p.files.map File.enc), .sl 3 (p.pipes.map Pipe.enc), .sl 14 (p.procs.map Proc.enc), .sl 4 (p.queue.tasks.map Task.enc), .int .i64 p.queue.floor]]) H o (pollL p n i), fun _ => Nat.zero_le _, ?_, ?_⟩
  · simp (maxSteps := 4000000) only [pvB, ↓pvP, pvDom, pvRr, pvLl, Nat.reduceAdd, Nat.reduceEqDiff, Nat.reduceLeDiff, Nat.reduceLT, Nat.reduceSub, reduceIte, reduceCtorEq, an25, pc25, an7, pc7, pvI, Int.reduceToNat, Int.reduceLE, Int.reduceLT, Int.reduceMul, Int.reduceAdd, Int.reduceGT, Int.reduceGE, Int.reduceEq, pvY, Nat.reduceMul, x_be, x_bn, bbE, rAppN, nilZ, y_gn, y_gl, y_sgn, y_sgl, y_ssgn, y_ssgl, y_gk, y_sn, y_sl, y_ssn, y_sk, y_ls, y_as, y_eq, y_tl, y_tf, y_ha, y_dr, y_sdr, y_ssdr, y_stf, y_sstf]
    exact ⟨_, 0, 1, by omega, rfl, rfl, OL.first fun k => rfl⟩
  · rintro k vs H - ⟨i, o, hi, rfl, rfl, hO⟩
    have hbox := hO.box
    have hrow := hO.row
    have hne := hO.ne
    have hne' : 0 ≠ o := Ne.symm hne
    have hl0 := (List.getElem?_eq_some_iff.1 hbox).1
    have hol := (List.getElem?_eq_some_iff.1 hrow).1
    have hln := pollL_len p n i
    rcases Nat.lt_or_ge i 5 with h1 | h1
    · cases hb : krBad p n i with
      | true =>
        have hk := krP_bad' hb
        have h7 := pc7 p n i
        rw [hk] at h7
        simp (maxSteps := 4000000) only [pvB, ↓pvP, pvDom, pvRr, pvLl, Nat.reduceAdd, Nat.reduceEqDiff, Nat.reduceLeDiff, Nat.reduceLT, Nat.reduceSub, reduceIte, reduceCtorEq, an25, pc25, an7, h7, pvI, Int.reduceToNat, Int.reduceLE, Int.reduceLT, Int.reduceMul, Int.reduceAdd, Int.reduceGT, Int.reduceGE, Int.reduceEq, pvY, Nat.reduceMul, x_be, x_bn, bbE, rAppN, nilZ, y_gn, y_gl, y_sgn, y_sgl, y_ssgn, y_ssgl, y_gk, y_sn, y_sl, y_ssn, y_sk, y_ls, y_as, y_eq, y_tl, y_tf, y_ha, y_dr, y_sdr, y_ssdr, y_stf, y_sstf, hl0, hbox, hrow, hol, y_ne, hne, hne', hk]
        have e : pollL p n (i + 1) = pollL p n i := by simp only [pollL, pollOk, hb, Bool.not_true, Bool.false_and, cond_false]
        exact ⟨fun _ => ⟨hO.all _ (Nat.le_refl _), _, by omega, i + 1, o, h1, rfl, by rw [w_add (by omega), e], by rw [e]; exact hO⟩, fun h => absurd (of_decide_eq_false h) (by omega)⟩
      | false =>
        have hk := krP_ok hb
        have h7 := pc7 p n i
        rw [hk] at h7
        simp (maxSteps := 4000000) only [pvB, ↓pvP, pvDom, pvRr, pvLl, Nat.reduceAdd, Nat.reduceEqDiff, Nat.reduceLeDiff, Nat.reduceLT, Nat.reduceSub, reduceIte, reduceCtorEq, an25, pc25, an7, h7, pvI, Int.reduceToNat, Int.reduceLE, Int.reduceLT, Int.reduceMul, Int.reduceAdd, Int.reduceGT, Int.reduceGE, Int.reduceEq, pvY, Nat.reduceMul, x_be, x_bn, bbE, rAppN, nilZ, y_gn, y_gl, y_sgn, y_sgl, y_ssgn, y_ssgl, y_gk, y_sn, y_sl, y_ssn, y_sk, y_ls, y_as, y_eq, y_tl, y_tf, y_ha, y_dr, y_sdr, y_ssdr, y_stf, y_sstf, hl0, hbox, hrow, hol, y_ne, hne, hne', hk]
        refine ⟨fun _ => ⟨fun h2 => ?_, fun h2 => ?_⟩, fun h => absurd (of_decide_eq_false h) (by omega)⟩
        · have e : pollL p n (i + 1) = pollL p n i ++ [(i : Int)] := by simp only [pollL, pollOk, hb, h2, Bool.not_false, Bool.true_and, cond_true]
          have hA := hO.app i (.rows 3 1 [[.int .i64 i]]) fun k => rfl
          exact ⟨⟨by omega, by omega, by omega⟩, by simp, hA.all _ (by simp), _, by omega, i + 1, _, h1, rfl, by rw [w_add (by omega), e, List.length_append]; rfl, by rw [e]; exact hA⟩
        · have e : pollL p n (i + 1) = pollL p n i := by simp only [pollL, pollOk, hb, h2, Bool.not_false, Bool.true_and, cond_false]
          exact ⟨hO.all _ (Nat.le_refl _), _, by omega, i + 1, o, h1, rfl, by rw [w_add (by omega), e], by rw [e]; exact hO⟩
    · obtain rfl : i = 5 := by omega
      simp (maxSteps := 4000000) only [pvB, ↓pvP, pvDom, pvRr, pvLl, Nat.reduceAdd, Nat.reduceEqDiff, Nat.reduceLeDiff, Nat.reduceLT, Nat.reduceSub, reduceIte, reduceCtorEq, an25, an7, pvI, Int.reduceToNat, Int.reduceLE, Int.reduceLT, Int.reduceMul, Int.reduceAdd, Int.reduceGT, Int.reduceGE, Int.reduceEq, pvY, Nat.reduceMul, x_be, x_bn, bbE, rAppN, nilZ, y_gn, y_gl, y_sgn, y_sgl, y_ssgn, y_ssgl, y_gk, y_sn, y_sl, y_ssn, y_sk, y_ls, y_as, y_eq, y_tl, y_tf, y_ha, y_dr, y_sdr, y_ssdr, y_stf, y_sstf, hl0, hbox, hrow, hol, y_ne, hne, hne']
      refine ⟨fun h => absurd (of_decide_eq_true h) (by omega), fun _ => ?_⟩
      rw [ol_E]
      exact Le.refl _

theorem pc12 (p : Kern) (n : Int) : PC Tryz.prog 12 [.agg [.sl 1 (p.mem.ram.text.map encS), .sl 1 (p.mem.ram.refs.map encI), .sl 1 (p.mem.swap.text.map encS), .sl 1 (p.mem.swap.refs.map encI), .sl 3 (p.mem.spaces.map Space.enc), .int .i64 p.mem.hand, .sl 1 (p.vfs.fss.map Fs.enc), .int .i64 p.vfs.mount, .sl 8 (p.files.map File.enc), .sl 3 (p.pipes.map Pipe.enc), .sl 14 (p.procs.map Proc.enc), .sl 4 (p.queue.tasks.map Task.enc), .int .i64 p.queue.floor], .int .i64 n] (pollPI p n) := by
  refine PC.of_vcF mixed (phiOf [(34, an34), (35, an35), (36, an36), (9, an9)]) Tryz.func12 (by kernel_rfl) (rfl : Tryz.f12.body = some _) Tryz.ntmps12 (by kernel_rfl) rfl (by kernel_rfl) Tryz.results12 fun hwf => ?_
  clear hwf
  simp (maxSteps := 4000000) only [pvB, ↓pvP, pvDom, pvRr, pvLl, Nat.reduceAdd, Nat.reduceEqDiff, Nat.reduceLeDiff, Nat.reduceLT, Nat.reduceSub, reduceIte, reduceCtorEq, an34, pc34', an35, pc35, an36, pc36, an9, pc9, pvI, Int.reduceToNat, Int.reduceLE, Int.reduceLT, Int.reduceMul, Int.reduceAdd, Int.reduceGT, Int.reduceGE, Int.reduceEq, pvY, Nat.reduceMul, x_be, x_bn, bbE, rAppN, nilZ, y_gn, y_gl, y_sgn, y_sgl, y_ssgn, y_ssgl, y_gk, y_sn, y_sl, y_ssn, y_sk, y_ls, y_as, y_eq, y_tl, y_tf, y_ha, y_dr, y_sdr, y_ssdr, y_stf, y_sstf]
  refine ⟨fun h => ?_, fun h => ?_, fun h => ?_⟩
  · rw [Bool.not_eq_true', Bool.or_eq_false_iff, Bool.not_eq_false', Bool.not_eq_false'] at h
    have := kern_len h.1
    have := inB_iff.1 h.2
    omega
  · rw [kb7] at h
    rw [pollPI, nb_t h]
    exact Le.refl _
  rw [kb7] at h
  rw [show pollPI p n = .tup [.fs 1 ((pollL p n 5).map encI), .bool true] from by rw [pollPI, nb_f h]; rfl]
  refine .inl ⟨[1, 2, 6, 29], fun H => H.length, fun k vs H => ∃ (i o : Nat), i ≤ 5 ∧ k = 5 - i ∧ vs = [.int .i64 n, .ptr 0 13 0 0, .own o 1 0 (pollL p n i).length, .int .i64 i] ∧ OL (.rows 57 13 [[.sl 1 (p.mem.ram.text.map encS), .sl 1 (p.mem.ram.refs.map encI), .sl 1 (p.mem.swap.text.map encS), .sl 1 (p.mem.swap.refs.map encI), .sl 3 (p.mem.spaces.map Space.enc), .int .i64 p.mem.hand, .sl 1 (p.vfs.fss.map Fs.enc), .int .i64 p.vfs.mount, .sl 8 (p.files.map File.enc), .sl 3 (p.pipes.map Pipe.enc), .sl 14 (p.procs.map Proc.enc), .sl 4 (p.queue.tasks.map Task.enc), .int .i64 p.queue.floor]]) H o (pollL p n i), fun _ => Nat.zero_le _, ?_, ?_⟩
  · simp (maxSteps := 4000000) only [pvB, ↓pvP, pvDom, pvRr, pvLl, Nat.reduceAdd, Nat.reduceEqDiff, Nat.reduceLeDiff, Nat.reduceLT, Nat.reduceSub, reduceIte, reduceCtorEq, an34, pc34', an35, pc35, an36, pc36, an9, pc9, pvI, Int.reduceToNat, Int.reduceLE, Int.reduceLT, Int.reduceMul, Int.reduceAdd, Int.reduceGT, Int.reduceGE, Int.reduceEq, pvY, Nat.reduceMul, x_be, x_bn, bbE, rAppN, nilZ, y_gn, y_gl, y_sgn, y_sgl, y_ssgn, y_ssgl, y_gk, y_sn, y_sl, y_ssn, y_sk, y_ls, y_as, y_eq, y_tl, y_tf, y_ha, y_dr, y_sdr, y_ssdr, y_stf, y_sstf]
    exact ⟨_, 0, 1, by omega, rfl, rfl, OL.first fun k => rfl⟩
  · rintro k vs H - ⟨i, o, hi, rfl, rfl, hO⟩
    have hbox := hO.box
    have hrow := hO.row
    have hne := hO.ne
    have hne' : 0 ≠ o := Ne.symm hne
    have hl0 := (List.getElem?_eq_some_iff.1 hbox).1
    have hol := (List.getElem?_eq_some_iff.1 hrow).1
    have hln := pollL_len p n i
    rcases Nat.lt_or_ge i 5 with h1 | h1
    · cases hb : krBad p n i with
      | true =>
        have hk := krP_bad' hb
        have h9 := pc9 p n i
        rw [hk] at h9
        simp (maxSteps := 4000000) only [pvB, ↓pvP, pvDom, pvRr, pvLl, Nat.reduceAdd, Nat.reduceEqDiff, Nat.reduceLeDiff, Nat.reduceLT, Nat.reduceSub, reduceIte, reduceCtorEq, an34, pc34', an35, pc35, an36, pc36, an9, h9, pvI, Int.reduceToNat, Int.reduceLE, Int.reduceLT, Int.reduceMul, Int.reduceAdd, Int.reduceGT, Int.reduceGE, Int.reduceEq, pvY, Nat.reduceMul, x_be, x_bn, bbE, rAppN, nilZ, y_gn, y_gl, y_sgn, y_sgl, y_ssgn, y_ssgl, y_gk, y_sn, y_sl, y_ssn, y_sk, y_ls, y_as, y_eq, y_tl, y_tf, y_ha, y_dr, y_sdr, y_ssdr, y_stf, y_sstf, hl0, hbox, hrow, hol, y_ne, hne, hne', hk]
        have e : pollL p n (i + 1) = pollL p n i := by simp only [pollL, pollOk, hb, Bool.not_true, Bool.false_and, cond_false]
        exact ⟨fun _ => ⟨hO.all _ (Nat.le_refl _), _, by omega, i + 1, o, h1, rfl, by rw [w_add (by omega), e], by rw [e]; exact hO⟩, fun h => absurd (of_decide_eq_false h) (by omega)⟩
      | false =>
        have hk := krP_ok hb
        have h9 := pc9 p n i
        rw [hk] at h9
        simp (maxSteps := 4000000) only [pvB, ↓pvP, pvDom, pvRr, pvLl, Nat.reduceAdd, Nat.reduceEqDiff, Nat.reduceLeDiff, Nat.reduceLT, Nat.reduceSub, reduceIte, reduceCtorEq, an34, pc34', an35, pc35, an36, pc36, an9, h9, pvI, Int.reduceToNat, Int.reduceLE, Int.reduceLT, Int.reduceMul, Int.reduceAdd, Int.reduceGT, Int.reduceGE, Int.reduceEq, pvY, Nat.reduceMul, x_be, x_bn, bbE, rAppN, nilZ, y_gn, y_gl, y_sgn, y_sgl, y_ssgn, y_ssgl, y_gk, y_sn, y_sl, y_ssn, y_sk, y_ls, y_as, y_eq, y_tl, y_tf, y_ha, y_dr, y_sdr, y_ssdr, y_stf, y_sstf, hl0, hbox, hrow, hol, y_ne, hne, hne', hk]
        refine ⟨fun _ => ⟨fun h2 => ?_, fun h2 => ?_⟩, fun h => absurd (of_decide_eq_false h) (by omega)⟩
        · have e : pollL p n (i + 1) = pollL p n i ++ [(i : Int)] := by simp only [pollL, pollOk, hb, h2, Bool.not_false, Bool.true_and, cond_true]
          have hA := hO.app i (.rows 3 1 [[.int .i64 i]]) fun k => rfl
          exact ⟨⟨by omega, by omega, by omega⟩, by simp, hA.all _ (by simp), _, by omega, i + 1, _, h1, rfl, by rw [w_add (by omega), e, List.length_append]; rfl, by rw [e]; exact hA⟩
        · have e : pollL p n (i + 1) = pollL p n i := by simp only [pollL, pollOk, hb, h2, Bool.not_false, Bool.true_and, cond_false]
          exact ⟨hO.all _ (Nat.le_refl _), _, by omega, i + 1, o, h1, rfl, by rw [w_add (by omega), e], by rw [e]; exact hO⟩
    · obtain rfl : i = 5 := by omega
      simp (maxSteps := 4000000) only [pvB, ↓pvP, pvDom, pvRr, pvLl, Nat.reduceAdd, Nat.reduceEqDiff, Nat.reduceLeDiff, Nat.reduceLT, Nat.reduceSub, reduceIte, reduceCtorEq, an34, an35, an36, an9, pvI, Int.reduceToNat, Int.reduceLE, Int.reduceLT, Int.reduceMul, Int.reduceAdd, Int.reduceGT, Int.reduceGE, Int.reduceEq, pvY, Nat.reduceMul, x_be, x_bn, bbE, rAppN, nilZ, y_gn, y_gl, y_sgn, y_sgl, y_ssgn, y_ssgl, y_gk, y_sn, y_sl, y_ssn, y_sk, y_ls, y_as, y_eq, y_tl, y_tf, y_ha, y_dr, y_sdr, y_ssdr, y_stf, y_sstf, hl0, hbox, hrow, hol, y_ne, hne, hne']
      refine ⟨fun h => absurd (of_decide_eq_true h) (by omega), fun _ => ?_⟩
      rw [ol_E]
      exact Le.refl _

end Go.Proofs.YtemoiphdjocaiaaGreat

namespace Go.Proofs.YtemoiphdjocaiaaGreat
open Go.Pv
set_option linter.unusedSimpArgs false
set_option maxRecDepth 100000
set_option maxHeartbeats 4000000

def fjOf (p : Kern) (n : Int) (j : Nat) : File := p.files.getD ((p.procs.getD n.toNat default).fds.getD j 0).toNat default
def enC (p : Kern) (n q : Int) (j : Nat) : Bool := decide ((p.procs.getD n.toNat default).fds.getD j 0 ≥ 0) && decide ((fjOf p n j).pipe = q)
def enR (p : Kern) (n q : Int) (j : Nat) (r : Bool) : Bool := bif enC p n q j then (r || (fjOf p n j).read) else r
def enW (p : Kern) (n q : Int) (j : Nat) (r : Bool) : Bool := bif enC p n q j then (r || (fjOf p n j).write) else r
def enRd (p : Kern) (n q : Int) : Bool := itr (enR p n q) 5 false
def enWr (p : Kern) (n q : Int) : Bool := itr (enW p n q) 5 false
def an50 : List PV → PV
  | [.agg p, .int _ n, .int _ q] => .tup [.bool (enRd (Kern.dec p) n q), .bool (enWr (Kern.dec p) n q)]
  | _ => .undef
def emP (p : Kern) (i : Nat) : Bool := eqS (p.pipes.getD (p.procs.getD i default).on.toNat default).text ⟨#[]⟩
def waB (p : Kern) (n : Int) (i : Nat) : Bool := decide ((p.procs.getD n.toNat default).parent = (i : Int)) && !decide (n = (i : Int))
def waC (p : Kern) (n : Int) (i : Nat) : Bool := emP p i && enWr p n (p.procs.getD i default).on || !emP p i && enRd p n (p.procs.getD i default).on
def waOk (p : Kern) (n : Int) (i : Nat) : Bool := bif !decide ((p.procs.getD i default).state = 2) then false else bif decide ((p.procs.getD i default).on = -2) then waB p n i else waC p n i
def waL (p : Kern) (n : Int) : Nat → List Int
  | 0 => []
  | k + 1 => bif waOk p n k then waL p n k ++ [(k : Int)] else waL p n k
theorem waL_len (p : Kern) (n : Int) : ∀ k, (waL p n k).length ≤ k
  | 0 => Nat.le_refl _
  | k + 1 => by
    have := waL_len p n k
    simp only [waL]
    cases waOk p n k with
    | false => exact Nat.le_succ_of_le this
    | true =>
      show (waL p n k ++ [_]).length ≤ _
      rw [List.length_append]; simp; exact this
theorem waL_t {p : Kern} {n : Int} {k : Nat} (h : waOk p n k = true) : waL p n (k + 1) = waL p n k ++ [(k : Int)] := by simp only [waL, h, cond_true]
theorem waL_f {p : Kern} {n : Int} {k : Nat} (h : waOk p n k = false) : waL p n (k + 1) = waL p n k := by simp only [waL, h, cond_false]
def waP (p : Kern) (n : Int) : PV := bif isK p n then .tup [.sl 1 ((waL p n 5).map encI), .bool true] else .tup [.sl 1 [], .bool false]
/-- The same; the list is new. -/
def waPI (p : Kern) (n : Int) : PV := bif isK p n then .tup [.fs 1 ((waL p n 5).map encI), .bool true] else .tup [.nil, .bool false]
def an17 : List PV → PV
  | [.agg p, .int _ n] => waP (Kern.dec p) n
  | _ => .undef
def an18 : List PV → PV
  | [.agg p, .int _ n] => waPI (Kern.dec p) n
  | _ => .undef
theorem OL.app2 {b : Blk} {H : Heap} {o : Nat} {l : List Int} (h : OL b H o l) (i : Int) (c d : Blk) (hc : ∀ k, hbB k c = true) (hd : ∀ k, hbB k d = true) : OL b (H.set o .dead ++ [c, d, .rows 3 1 (l.map encI ++ [[.int .i64 i]])]) (H.length + 2) (l ++ [i]) := by
  have hl := (List.getElem?_eq_some_iff.1 h.box).1
  refine ⟨by omega, ?_, ?_, fun k hk => ?_⟩
  · rw [y_gk (by rw [List.length_set]; exact hl), y_ne h.ne]; exact h.box
  · rw [y_sgn, List.map_append]; rfl
  · rw [List.length_append, List.length_set] at hk
    have e : l.map encI ++ [[PV.int .i64 i]] = (l ++ [i]).map encI := by rw [List.map_append]; rfl
    rw [e, List.all_append, all_set (h.all k (by omega)) rfl]
    simp only [List.all_cons, List.all_nil, hc, hd, hb_rows]
    rfl
/-- What is known of a process and its descriptors. -/
theorem fd_in {p : Kern} {n : Int} (h : isK p n = true) {j : Nat} (hj : j < 5) : (p.procs.getD n.toNat default).fds.getD j 0 ≤ 9 ∧ ((p.procs.getD n.toNat default).fds.getD j 0 ≥ 0 → (fjOf p n j).pipe ≤ 2 ∧ -1 ≤ (fjOf p n j).pipe) := by
  obtain ⟨b1, b2, b3, b4⟩ := isK_in h
  have hf := b3.fd j hj
  refine ⟨by omega, fun h0 => ?_⟩
  have hf := hf.resolve_left (by omega)
  rcases (b4 ((p.procs.getD n.toNat default).fds.getD j 0).toNat (by omega)).2 hf.2 with ⟨a, _⟩ | ⟨a, _⟩
  · have : (fjOf p n j).pipe = -1 := a
    omega
  · have : 0 ≤ (fjOf p n j).pipe ∧ (fjOf p n j).pipe ≤ 2 := a
    omega
theorem on_in {p : Kern} {n : Int} (h : isK p n = true) {i : Nat} (hi : i < 5) (hs : (p.procs.getD i default).state = 2) : (p.procs.getD i default).on = -2 ∨ 0 ≤ (p.procs.getD i default).on ∧ (p.procs.getD i default).on ≤ 2 := by
  simp only [isK, Bool.and_eq_true] at h
  obtain ⟨_, b2, _⟩ := kern_facts h.1.1
  exact ((b2 i hi).2.2 (by omega) (by omega)).on.2 hs

theorem pc50 (p : Kern) (n q : Int) (hk : isK p n = true) : PC Tryz.prog 50 [.agg [.sl 1 (p.mem.ram.text.map encS), .sl 1 (p.mem.ram.refs.map encI), .sl 1 (p.mem.swap.text.map encS), .sl 1 (p.mem.swap.refs.map encI), .sl 3 (p.mem.spaces.map Space.enc), .int .i64 p.mem.hand, .sl 1 (p.vfs.fss.map Fs.enc), .int .i64 p.vfs.mount, .sl 8 (p.files.map File.enc), .sl 3 (p.pipes.map Pipe.enc), .sl 14 (p.procs.map Proc.enc), .sl 4 (p.queue.tasks.map Task.enc), .int .i64 p.queue.floor], .int .i64 n, .int .i64 q] (.tup [.bool (enRd p n q), .bool (enWr p n q)]) := by
  refine PC.of_vc mixed (phiOf []) Tryz.func50 (by kernel_rfl) (rfl : Tryz.f50.body = some _) Tryz.ntmps50 (by kernel_rfl) rfl (by kernel_rfl) Tryz.results50 fun hwf => ?_
  clear hwf
  simp (maxSteps := 4000000) only [pvB, ↓pvP, pvDom, pvRr, pvMm, pvLl, simprocAttr, pvI, pvY, x_be, x_bn, bbE, rAppN, nilZ, y_gn, y_gl, y_sgn, y_sgl, y_ssgn, y_ssgl, y_gk, y_sn, y_sl, y_ssn, y_sk, y_ls, y_as, y_eq, y_tl, y_tf, y_ha, y_dr, y_sdr, y_ssdr, y_stf, y_sstf]
  obtain ⟨b1, b2, b3, b4⟩ := isK_in hk
  have hp := b1.procs
  have hfl := b1.files
  have hfd := b3.fds
  refine .inl ⟨[1, 2, 3, 8, 9, 10], fun _ => 1, fun k vs H => ∃ j : Nat, j ≤ 5 ∧ k = 5 - j ∧ vs = [.int .i64 n, .int .i64 q, .ptr 0 13 0 0, .bool (itr (enR p n q) j false), .bool (itr (enW p n q) j false), .int .i64 j] ∧ H = [(.rows 57 13 [[.sl 1 (p.mem.ram.text.map encS), .sl 1 (p.mem.ram.refs.map encI), .sl 1 (p.mem.swap.text.map encS), .sl 1 (p.mem.swap.refs.map encI), .sl 3 (p.mem.spaces.map Space.enc), .int .i64 p.mem.hand, .sl 1 (p.vfs.fss.map Fs.enc), .int .i64 p.vfs.mount, .sl 8 (p.files.map File.enc), .sl 3 (p.pipes.map Pipe.enc), .sl 14 (p.procs.map Proc.enc), .sl 4 (p.queue.tasks.map Task.enc), .int .i64 p.queue.floor]])], fun _ => Nat.zero_le _, ?_, ?_⟩
  · simp (maxSteps := 4000000) only [pvB, ↓pvP, pvDom, pvRr, pvMm, pvLl, simprocAttr, pvI, pvY, x_be, x_bn, bbE, rAppN, nilZ, y_gn, y_gl, y_sgn, y_sgl, y_ssgn, y_ssgl, y_gk, y_sn, y_sl, y_ssn, y_sk, y_ls, y_as, y_eq, y_tl, y_tf, y_ha, y_dr, y_sdr, y_ssdr, y_stf, y_sstf]
    exact ⟨_, 0, by omega, rfl, rfl⟩
  · rintro k vs H - ⟨j, hj, rfl, rfl, rfl⟩
    simp (maxSteps := 4000000) only [pvB, ↓pvP, pvDom, pvRr, pvMm, pvLl, simprocAttr, pvI, pvY, x_be, x_bn, bbE, rAppN, nilZ, y_gn, y_gl, y_sgn, y_sgl, y_ssgn, y_ssgl, y_gk, y_sn, y_sl, y_ssn, y_sk, y_ls, y_as, y_eq, y_tl, y_tf, y_ha, y_dr, y_sdr, y_ssdr, y_stf, y_sstf]
    refine ⟨fun h => ?_, fun h => ?_⟩
    · have h1 : j < 5 := by have := of_decide_eq_true h; omega
      have hfj := (fd_in hk h1).1
      have hin : (p.procs.getD n.toNat default).fds.getD j 0 ≥ 0 → 0 ≤ (p.procs.getD n.toNat default).fds.getD j 0 ∧ (p.procs.getD n.toNat default).fds.getD j 0 < (p.files.length : Int) := fun h => by omega
      refine ⟨by omega, by omega, fun h2 => hin (of_decide_eq_true h2), fun h2 => ?_, fun h2 => ?_⟩
      · have h3 := h2
        rw [Bool.and_eq_true] at h3
        have h3 := hin (of_decide_eq_true h3.1)
        have e1 : itr (enR p n q) (j + 1) false = (itr (enR p n q) j false || (fjOf p n j).read) := bif_tI (c := enC p n q j) h2
        have e2 : itr (enW p n q) (j + 1) false = (itr (enW p n q) j false || (fjOf p n j).write) := bif_tI (c := enC p n q j) h2
        exact ⟨fun _ => h3, fun _ => h3, _, by omega, j + 1, h1, rfl, by rw [w_add (by omega), e1, e2]; rfl⟩
      · have e1 : itr (enR p n q) (j + 1) false = itr (enR p n q) j false := bif_fI (c := enC p n q j) h2
        have e2 : itr (enW p n q) (j + 1) false = itr (enW p n q) j false := bif_fI (c := enC p n q j) h2
        exact ⟨_, by omega, j + 1, h1, rfl, by rw [w_add (by omega), e1, e2]⟩
    · obtain rfl : j = 5 := by have := of_decide_eq_false h; omega
      exact Le.refl _

theorem pc17 (p : Kern) (n : Int) : PC Tryz.prog 17 [.agg [.sl 1 (p.mem.ram.text.map encS), .sl 1 (p.mem.ram.refs.map encI), .sl 1 (p.mem.swap.text.map encS), .sl 1 (p.mem.swap.refs.map encI), .sl 3 (p.mem.spaces.map Space.enc), .int .i64 p.mem.hand, .sl 1 (p.vfs.fss.map Fs.enc), .int .i64 p.vfs.mount, .sl 8 (p.files.map File.enc), .sl 3 (p.pipes.map Pipe.enc), .sl 14 (p.procs.map Proc.enc), .sl 4 (p.queue.tasks.map Task.enc), .int .i64 p.queue.floor], .int .i64 n] (waP p n) := by
  refine PC.of_vc mixed (phiOf [(25, an25), (50, an50)]) Tryz.func17 (by kernel_rfl) (rfl : Tryz.f17.body = some _) Tryz.ntmps17 (by kernel_rfl) rfl (by kernel_rfl) Tryz.results17 fun hwf => ?_
  clear hwf
  simp (maxSteps := 4000000) only [pvB, ↓pvP, pvDom, pvRr, pvMm, pvLl, simprocAttr, an25, pc25, pvI, pvY, x_be, x_bn, bbE, rAppN, nilZ, y_gn, y_gl, y_sgn, y_sgl, y_ssgn, y_ssgl, y_gk, y_sn, y_sl, y_ssn, y_sk, y_ls, y_as, y_eq, y_tl, y_tf, y_ha, y_dr, y_sdr, y_ssdr, y_stf, y_sstf]
  refine ⟨fun h => by rw [waP, nb_t h]; exact Le.refl _, fun h => ?_⟩
  have hK := nb_f h
  rw [show waP p n = .tup [.sl 1 ((waL p n 5).map encI), .bool true] from by rw [waP, hK]; rfl]
  obtain ⟨b1, b2, b3, b4⟩ := isK_in hK
  have hp := b1.procs
  have hpi := b1.pipes
  refine .inl ⟨[1, 2, 6, 7], fun H => H.length, fun k vs H => ∃ (i o : Nat), i ≤ 5 ∧ k = 5 - i ∧ vs = [.int .i64 n, .ptr 0 13 0 0, .own o 1 0 (waL p n i).length, .int .i64 i] ∧ OL (.rows 57 13 [[.sl 1 (p.mem.ram.text.map encS), .sl 1 (p.mem.ram.refs.map encI), .sl 1 (p.mem.swap.text.map encS), .sl 1 (p.mem.swap.refs.map encI), .sl 3 (p.mem.spaces.map Space.enc), .int .i64 p.mem.hand, .sl 1 (p.vfs.fss.map Fs.enc), .int .i64 p.vfs.mount, .sl 8 (p.files.map File.enc), .sl 3 (p.pipes.map Pipe.enc), .sl 14 (p.procs.map Proc.enc), .sl 4 (p.queue.tasks.map Task.enc), .int .i64 p.queue.floor]]) H o (waL p n i), fun _ => Nat.zero_le _, ?_, ?_⟩
  · simp (maxSteps := 4000000) only [pvB, ↓pvP, pvDom, pvRr, pvMm, pvLl, simprocAttr, an25, pc25, pvI, pvY, x_be, x_bn, bbE, rAppN, nilZ, y_gn, y_gl, y_sgn, y_sgl, y_ssgn, y_ssgl, y_gk, y_sn, y_sl, y_ssn, y_sk, y_ls, y_as, y_eq, y_tl, y_tf, y_ha, y_dr, y_sdr, y_ssdr, y_stf, y_sstf]
    exact ⟨_, 0, 1, by omega, rfl, rfl, OL.first fun k => rfl⟩
  · rintro k vs H - ⟨i, o, hi, rfl, rfl, hO⟩
    have hbox := hO.box
    have hrow := hO.row
    have hne := hO.ne
    have hne' : 0 ≠ o := Ne.symm hne
    have hl0 := (List.getElem?_eq_some_iff.1 hbox).1
    have hol := (List.getElem?_eq_some_iff.1 hrow).1
    have hln := waL_len p n i
    have h50 := fun q => pc50 p n q hK
    simp (maxSteps := 4000000) only [pvB, ↓pvP, pvDom, pvRr, pvMm, pvLl, simprocAttr, an25, pc25, an50, h50, pvI, pvY, x_be, x_bn, bbE, rAppN, nilZ, y_gn, y_gl, y_sgn, y_sgl, y_ssgn, y_ssgl, y_gk, y_sn, y_sl, y_ssn, y_sk, y_ls, y_as, y_eq, y_tl, y_tf, y_ha, y_dr, y_sdr, y_ssdr, y_stf, y_sstf, hl0, hbox, hrow, hol, y_ne, hne, hne']
    have hM := hO.more (R := [.rows 83 14 [[.int .i64 (p.procs.getD i default).state, .int .i64 (p.procs.getD i default).parent, .int .i64 (p.procs.getD i default).code, .int .i64 (p.procs.getD i default).who.user, .int .i64 (p.procs.getD i default).who.real, .sl 1 ((p.procs.getD i default).who.groups.map encI), .int .i64 (p.procs.getD i default).space, .sl 1 ((p.procs.getD i default).fds.map encI), .sl 1 ((p.procs.getD i default).sigs.here.map encB), .sl 1 ((p.procs.getD i default).sigs.block.map encB), .sl 1 ((p.procs.getD i default).sigs.does.map encI), .int .i64 (p.procs.getD i default).dir.fs, .int .i64 (p.procs.getD i default).dir.id, .int .i64 (p.procs.getD i default).on]]]) fun k => rfl
    have hA := hO.app2 i (.rows 83 14 [[.int .i64 (p.procs.getD i default).state, .int .i64 (p.procs.getD i default).parent, .int .i64 (p.procs.getD i default).code, .int .i64 (p.procs.getD i default).who.user, .int .i64 (p.procs.getD i default).who.real, .sl 1 ((p.procs.getD i default).who.groups.map encI), .int .i64 (p.procs.getD i default).space, .sl 1 ((p.procs.getD i default).fds.map encI), .sl 1 ((p.procs.getD i default).sigs.here.map encB), .sl 1 ((p.procs.getD i default).sigs.block.map encB), .sl 1 ((p.procs.getD i default).sigs.does.map encI), .int .i64 (p.procs.getD i default).dir.fs, .int .i64 (p.procs.getD i default).dir.id, .int .i64 (p.procs.getD i default).on]]) (.rows 3 1 [[.int .i64 i]]) (fun k => rfl) fun k => rfl
    refine ⟨fun h => ?_, fun h => ?_⟩
    · have h1 : i < 5 := by have := of_decide_eq_true h; omega
      refine ⟨by omega, fun h2 => ?_, fun h2 => ⟨fun h3 => ⟨by omega, fun h4 => ?_, fun h4 => ?_⟩, fun h3 => ⟨?_, fun h4 => ?_, fun h4 => ?_⟩⟩⟩
      · have e := waL_f (p := p) (n := n) (k := i) (bif_tI h2)
        exact ⟨by simp; omega, hM.all _ (by simp), _, by omega, i + 1, o, h1, rfl, by rw [w_add (by omega), e], by rw [e]; exact hM⟩
      · have e := waL_t (p := p) (n := n) (k := i) ((bif_fI h2).trans ((bif_tI h3).trans h4))
        exact ⟨⟨by omega, by omega, by omega⟩, by simp, hA.all _ (by simp), _, by omega, i + 1, _, h1, rfl, by rw [w_add (by omega), e, List.length_append]; rfl, by rw [e]; exact hA⟩
      · have e := waL_f (p := p) (n := n) (k := i) ((bif_fI h2).trans ((bif_tI h3).trans h4))
        exact ⟨by simp; omega, hM.all _ (by simp), _, by omega, i + 1, o, h1, rfl, by rw [w_add (by omega), e], by rw [e]; exact hM⟩
      · have := on_in hK h1 (of_decide_eq_true (nb_f h2))
        have := of_decide_eq_false h3
        omega
      · have e := waL_t (p := p) (n := n) (k := i) ((bif_fI h2).trans ((bif_fI h3).trans h4))
        exact ⟨⟨by omega, by omega, by omega⟩, by simp, hA.all _ (by simp), _, by omega, i + 1, _, h1, rfl, by rw [w_add (by omega), e, List.length_append]; rfl, by rw [e]; exact hA⟩
      · have e := waL_f (p := p) (n := n) (k := i) ((bif_fI h2).trans ((bif_fI h3).trans h4))
        exact ⟨by simp; omega, hM.all _ (by simp), _, by omega, i + 1, o, h1, rfl, by rw [w_add (by omega), e], by rw [e]; exact hM⟩
    · obtain rfl : i = 5 := by have := of_decide_eq_false h; omega
      rw [ol_E]
      exact Le.refl _

def ruC (p : Kern) (n : Int) (j : Nat) : Bool := decide ((p.procs.getD n.toNat default).fds.getD j 0 ≥ 0) && decide ((fjOf p n j).pipe ≥ 0)
def putB (f : Int → Bool) (x : Int) (b : Bool) : Int → Bool := fun a => bif decide (x = a) then b else f a
def ruR (p : Kern) (n : Int) (j : Nat) (f : Int → Bool) : Int → Bool := bif ruC p n j then putB f (fjOf p n j).pipe (f (fjOf p n j).pipe || (fjOf p n j).read) else f
def ruW (p : Kern) (n : Int) (j : Nat) (f : Int → Bool) : Int → Bool := bif ruC p n j then putB f (fjOf p n j).pipe (f (fjOf p n j).pipe || (fjOf p n j).write) else f
theorem Msp.putB {es : ME} {f : Int → Bool} (h : Msp es f) (x : Int) (b : Bool) : Msp (mput [x] (.bool b) es) (putB f x b) := by
  refine ⟨fun a => ?_, fun m => all_mput (hb m) _ _ _ (h.2 m) rfl⟩
  rw [mget_mput, h.1]
  by_cases hx : x = a <;> simp [YtemoiphdjocaiaaGreat.putB, hx]

theorem kern_tl {p : Kern} (h : kernOk p = true) : ∀ i, i < 5 → TL p i := by
  obtain ⟨B, _⟩ := kern_facts h
  unfold kernOk at h
  simp only [Bool.and_eq_true, List.all_eq_true (l := List.range 5), List.mem_range] at h
  intro i hi
  exact ((procOk_iff B i).1 (h.2.2.2.1 i hi)).2
theorem ru_eq (p : Kern) (n q : Int) (hq : 0 ≤ q) : ∀ k, itr (ruR p n) k (fun _ => false) q = itr (enR p n q) k false ∧ itr (ruW p n) k (fun _ => false) q = itr (enW p n q) k false
  | 0 => ⟨rfl, rfl⟩
  | k + 1 => by
    obtain ⟨h1, h2⟩ := ru_eq p n q hq k
    show ruR p n k (itr (ruR p n) k fun _ => false) q = enR p n q k (itr (enR p n q) k false) ∧ ruW p n k (itr (ruW p n) k fun _ => false) q = enW p n q k (itr (enW p n q) k false)
    rw [← h1, ← h2]
    generalize itr (ruR p n) k (fun _ => false) = F1
    generalize itr (ruW p n) k (fun _ => false) = F2
    unfold ruR ruW enR enW ruC enC putB
    generalize (p.procs.getD n.toNat default).fds.getD k 0 = fd
    generalize fjOf p n k = f
    by_cases hf : fd ≥ 0
    · rw [decide_eq_true hf]
      by_cases hp : f.pipe = q
      · have hp0 : f.pipe ≥ 0 := by omega
        subst hp
        rw [decide_eq_true hp0]
        simp
      · by_cases hp0 : f.pipe ≥ 0
        · rw [decide_eq_true hp0]
          simp [hp]
        · rw [decide_eq_false hp0]
          simp [hp]
    · rw [decide_eq_false hf]
      simp
def waOkI (p : Kern) (n : Int) (i : Nat) : Bool := bif !decide ((p.procs.getD i default).state = 2) then false else bif decide ((p.procs.getD i default).on ≥ 0) then (emP p i && itr (ruW p n) 5 (fun _ => false) (p.procs.getD i default).on || !emP p i && itr (ruR p n) 5 (fun _ => false) (p.procs.getD i default).on) else (!decide (n = 0) && decide ((i : Int) = (p.procs.getD n.toNat default).parent))
theorem waOkI_eq {p : Kern} {n : Int} (hK : isK p n = true) {i : Nat} (hi : i < 5) : waOkI p n i = waOk p n i := by
  unfold waOkI waOk
  by_cases hs : (p.procs.getD i default).state = 2
  · rw [decide_eq_true hs]
    simp only [Bool.not_true, cond_false]
    rcases on_in hK hi hs with h | h
    · rw [decide_eq_true h, decide_eq_false (show ¬ (p.procs.getD i default).on ≥ 0 by omega)]
      simp only [cond_true, cond_false, waB]
      obtain ⟨b1, b2, b3, b4⟩ := isK_in hK
      simp only [isK, Bool.and_eq_true] at hK
      have ha := (alive_iff _).1 hK.2
      have t := (kern_tl hK.1.1 n.toNat (by omega)).2 (by omega)
      by_cases hn : n = 0
      · have hp0 := t.2.2.1 (by omega)
        rw [decide_eq_true hn, hp0]
        by_cases hi0 : (i : Int) = 0
        · rw [hi0, hn]; rfl
        · rw [decide_eq_false (show ¬ (0 : Int) = (i : Int) by omega)]; rfl
      · have hpn := t.2.2.2 (by omega)
        rw [decide_eq_false hn]
        by_cases hpi : (p.procs.getD n.toNat default).parent = (i : Int)
        · rw [decide_eq_true hpi, decide_eq_true hpi.symm, decide_eq_false (show ¬ n = (i : Int) by omega)]; rfl
        · rw [decide_eq_false hpi, decide_eq_false (show ¬ (i : Int) = (p.procs.getD n.toNat default).parent by omega)]; rfl
    · rw [decide_eq_false (show ¬ (p.procs.getD i default).on = -2 by omega), decide_eq_true (show (p.procs.getD i default).on ≥ 0 by omega)]
      simp only [cond_true, cond_false, waC]
      obtain ⟨r1, r2⟩ := ru_eq p n (p.procs.getD i default).on h.1 5
      rw [r1, r2]; rfl
  · rw [decide_eq_false hs]; rfl

theorem pc18 (p : Kern) (n : Int) : PC Tryz.prog 18 [.agg [.sl 1 (p.mem.ram.text.map encS), .sl 1 (p.mem.ram.refs.map encI), .sl 1 (p.mem.swap.text.map encS), .sl 1 (p.mem.swap.refs.map encI), .sl 3 (p.mem.spaces.map Space.enc), .int .i64 p.mem.hand, .sl 1 (p.vfs.fss.map Fs.enc), .int .i64 p.vfs.mount, .sl 8 (p.files.map File.enc), .sl 3 (p.pipes.map Pipe.enc), .sl 14 (p.procs.map Proc.enc), .sl 4 (p.queue.tasks.map Task.enc), .int .i64 p.queue.floor], .int .i64 n] (waPI p n) := by
  refine PC.of_vcF mixed (phiOf [(34, an34), (35, an35), (36, an36)]) Tryz.func18 (by kernel_rfl) (rfl : Tryz.f18.body = some _) Tryz.ntmps18 (by kernel_rfl) rfl (by kernel_rfl) Tryz.results18 fun hwf => ?_
  clear hwf
  simp (maxSteps := 4000000) only [pvB, ↓pvP, pvDom, pvRr, pvMm, pvLl, simprocAttr, an34, pc34', an35, pc35, an36, pc36, pvI, pvY, x_be, x_bn, bbE, rAppN, nilZ, y_gn, y_gl, y_sgn, y_sgl, y_ssgn, y_ssgl, y_gk, y_sn, y_sl, y_ssn, y_sk, y_ls, y_as, y_eq, y_tl, y_tf, y_ha, y_dr, y_sdr, y_ssdr, y_stf, y_sstf, ↓List.append, zok4, key3, nz_b, rBuild, q_bly]
  refine ⟨fun h => ?_, fun h => ?_, fun h => ?_⟩
  · rw [Bool.not_eq_true', Bool.or_eq_false_iff, Bool.not_eq_false', Bool.not_eq_false'] at h
    have := kern_len h.1
    have := inB_iff.1 h.2
    omega
  · rw [kb7] at h
    rw [waPI, nb_t h]
    exact Le.refl _
  rw [kb7] at h
  have hK := nb_f h
  rw [show waPI p n = .tup [.fs 1 ((waL p n 5).map encI), .bool true] from by rw [waPI, hK]; rfl]
  obtain ⟨b1, b2, b3, b4⟩ := isK_in hK
  have hp := b1.procs
  have hpi := b1.pipes
  have hfl := b1.files
  have hfd := b3.fds
  refine ⟨by omega, ?_⟩
  refine .inl ⟨[1, 2, 6, 7, 38, 39, 40], fun _ => 3, fun k vs H => ∃ (j : Nat) (e1 e2 : ME), j ≤ 5 ∧ k = 5 - j ∧ vs = [.int .i64 n, .ptr 0 13 0 0, .mp 1, .mp 2, .sl 1 ((p.procs.getD n.toNat default).fds.map encI), .int .i64 ((p.procs.getD n.toNat default).fds.length : Nat), .int .i64 j] ∧ H = [(.rows 57 13 [[.sl 1 (p.mem.ram.text.map encS), .sl 1 (p.mem.ram.refs.map encI), .sl 1 (p.mem.swap.text.map encS), .sl 1 (p.mem.swap.refs.map encI), .sl 3 (p.mem.spaces.map Space.enc), .int .i64 p.mem.hand, .sl 1 (p.vfs.fss.map Fs.enc), .int .i64 p.vfs.mount, .sl 8 (p.files.map File.enc), .sl 3 (p.pipes.map Pipe.enc), .sl 14 (p.procs.map Proc.enc), .sl 4 (p.queue.tasks.map Task.enc), .int .i64 p.queue.floor]]), .map false e1, .map false e2] ∧ Msp e1 (itr (ruR p n) j fun _ => false) ∧ Msp e2 (itr (ruW p n) j fun _ => false), fun _ => Nat.zero_le _, ?_, ?_⟩
  · simp (maxSteps := 4000000) only [pvB, ↓pvP, pvDom, pvRr, pvMm, pvLl, simprocAttr, an34, pc34', an35, pc35, an36, pc36, pvI, pvY, x_be, x_bn, bbE, rAppN, nilZ, y_gn, y_gl, y_sgn, y_sgl, y_ssgn, y_ssgl, y_gk, y_sn, y_sl, y_ssn, y_sk, y_ls, y_as, y_eq, y_tl, y_tf, y_ha, y_dr, y_sdr, y_ssdr, y_stf, y_sstf, ↓List.append, zok4, key3, nz_b, rBuild, q_bly]
    exact ⟨_, 0, [], [], by omega, rfl, rfl, rfl, Msp.nil, Msp.nil⟩
  · rintro k vs H - ⟨j, e1, e2, hj, rfl, rfl, rfl, hm1, hm2⟩
    have hg1 := hm1.1
    have hg2 := hm2.1
    simp (maxSteps := 4000000) only [pvB, ↓pvP, pvDom, pvRr, pvMm, pvLl, simprocAttr, pvI, pvY, x_be, x_bn, bbE, rAppN, nilZ, y_gn, y_gl, y_sgn, y_sgl, y_ssgn, y_ssgl, y_gk, y_sn, y_sl, y_ssn, y_sk, y_ls, y_as, y_eq, y_tl, y_tf, y_ha, y_dr, y_sdr, y_ssdr, y_stf, y_sstf, ↓List.append, zok4, key3, nz_b, rBuild, q_bly, hg1, hg2]
    refine ⟨fun h => ?_, fun h => ?_⟩
    · have h1 : j < 5 := by have := of_decide_eq_true h; omega
      have hfj := (fd_in hK h1).1
      have hin : (p.procs.getD n.toNat default).fds.getD j 0 ≥ 0 → 0 ≤ (p.procs.getD n.toNat default).fds.getD j 0 ∧ (p.procs.getD n.toNat default).fds.getD j 0 < (p.files.length : Int) := fun h => by omega
      refine ⟨by omega, fun h2 => hin (of_decide_eq_true h2), fun h2 => ?_, fun h2 => ?_⟩
      · have h3 := h2
        rw [Bool.and_eq_true] at h3
        have h3 := hin (of_decide_eq_true h3.1)
        have q1 : itr (ruR p n) (j + 1) (fun _ => false) = putB (itr (ruR p n) j fun _ => false) (fjOf p n j).pipe (itr (ruR p n) j (fun _ => false) (fjOf p n j).pipe || (fjOf p n j).read) := bif_tI (c := ruC p n j) h2
        have q2 : itr (ruW p n) (j + 1) (fun _ => false) = putB (itr (ruW p n) j fun _ => false) (fjOf p n j).pipe (itr (ruW p n) j (fun _ => false) (fjOf p n j).pipe || (fjOf p n j).write) := bif_tI (c := ruC p n j) h2
        have m1 := hm1.putB (fjOf p n j).pipe (itr (ruR p n) j (fun _ => false) (fjOf p n j).pipe || (fjOf p n j).read)
        have m2 := hm2.putB (fjOf p n j).pipe (itr (ruW p n) j (fun _ => false) (fjOf p n j).pipe || (fjOf p n j).write)
        have a1 := m1.2 3
        have a2 := m2.2 3
        exact ⟨h3, h3, fun _ => h3, h3, h3, fun _ => h3, (Bool.and_eq_true _ _).mpr ⟨a1, a2⟩, _, by omega, j + 1, _, _, h1, rfl, by rw [w_add (by omega)], rfl, by rw [q1]; exact m1, by rw [q2]; exact m2⟩
      · have q1 : itr (ruR p n) (j + 1) (fun _ => false) = itr (ruR p n) j (fun _ => false) := bif_fI (c := ruC p n j) h2
        have q2 : itr (ruW p n) (j + 1) (fun _ => false) = itr (ruW p n) j (fun _ => false) := bif_fI (c := ruC p n j) h2
        exact ⟨(Bool.and_eq_true _ _).mpr ⟨hm1.2 3, hm2.2 3⟩, _, by omega, j + 1, _, _, h1, rfl, by rw [w_add (by omega)], rfl, by rw [q1]; exact hm1, by rw [q2]; exact hm2⟩
    obtain rfl : j = 5 := by have := of_decide_eq_false h; omega
    clear h hj
    refine .inl ⟨[1, 2, 6, 7, 10, 104, 105, 106], fun H => H.length, fun k vs H => ∃ (i o : Nat), i ≤ 5 ∧ k = 5 - i ∧ vs = [.int .i64 n, .ptr 0 13 0 0, .mp 1, .mp 2, .own o 1 0 (waL p n i).length, .sl 14 (p.procs.map Proc.enc), .int .i64 (p.procs.length : Nat), .int .i64 i] ∧ OL (.rows 57 13 [[.sl 1 (p.mem.ram.text.map encS), .sl 1 (p.mem.ram.refs.map encI), .sl 1 (p.mem.swap.text.map encS), .sl 1 (p.mem.swap.refs.map encI), .sl 3 (p.mem.spaces.map Space.enc), .int .i64 p.mem.hand, .sl 1 (p.vfs.fss.map Fs.enc), .int .i64 p.vfs.mount, .sl 8 (p.files.map File.enc), .sl 3 (p.pipes.map Pipe.enc), .sl 14 (p.procs.map Proc.enc), .sl 4 (p.queue.tasks.map Task.enc), .int .i64 p.queue.floor]]) H o (waL p n i) ∧ H[1]? = some (.map false e1) ∧ H[2]? = some (.map false e2), fun _ => Nat.zero_le _, ?_, ?_⟩
    · simp (maxSteps := 4000000) only [pvB, ↓pvP, pvDom, pvRr, pvMm, pvLl, simprocAttr, pvI, pvY, x_be, x_bn, bbE, rAppN, nilZ, y_gn, y_gl, y_sgn, y_sgl, y_ssgn, y_ssgl, y_gk, y_sn, y_sl, y_ssn, y_sk, y_ls, y_as, y_eq, y_tl, y_tf, y_ha, y_dr, y_sdr, y_ssdr, y_stf, y_sstf, ↓List.append, zok4, key3, nz_b, rBuild, q_bly]
      refine ⟨(Bool.and_eq_true _ _).mpr ⟨hm1.2 4, hm2.2 4⟩, _, 0, 3, by omega, rfl, rfl, ⟨by omega, rfl, rfl, fun k _ => ?_⟩⟩
      have a1 := hm1.2 k
      have a2 := hm2.2 k
      simp only [List.all_cons, List.all_nil, hbB, a1, a2]
      rfl
    · rintro k vs H - ⟨i, o, hi, rfl, rfl, hO, hx1, hx2⟩
      have hbox := hO.box
      have hrow := hO.row
      have hne := hO.ne
      have hne' : 0 ≠ o := Ne.symm hne
      have hl0 := (List.getElem?_eq_some_iff.1 hbox).1
      have hl1 := (List.getElem?_eq_some_iff.1 hx1).1
      have hl2 := (List.getElem?_eq_some_iff.1 hx2).1
      have hol := (List.getElem?_eq_some_iff.1 hrow).1
      have ho1 : o ≠ 1 := by
        rintro rfl
        rw [hx1] at hrow; cases hrow
      have ho2 : o ≠ 2 := by
        rintro rfl
        rw [hx2] at hrow; cases hrow
      have hln := waL_len p n i
      simp (maxSteps := 4000000) only [pvB, ↓pvP, pvDom, pvRr, pvMm, pvLl, simprocAttr, pvI, pvY, x_be, x_bn, bbE, rAppN, nilZ, y_gn, y_gl, y_sgn, y_sgl, y_ssgn, y_ssgl, y_gk, y_sn, y_sl, y_ssn, y_sk, y_ls, y_as, y_eq, y_tl, y_tf, y_ha, y_dr, y_sdr, y_ssdr, y_stf, y_sstf, ↓List.append, zok4, key3, nz_b, rBuild, q_bly, hl0, hbox, hrow, hol, y_ne, hne, hne', hl1, hl2, hx1, hx2, ho1, ho2, hg1, hg2]
      have hM := hO.more (R := [.rows 83 14 [[.int .i64 (p.procs.getD i default).state, .int .i64 (p.procs.getD i default).parent, .int .i64 (p.procs.getD i default).code, .int .i64 (p.procs.getD i default).who.user, .int .i64 (p.procs.getD i default).who.real, .sl 1 ((p.procs.getD i default).who.groups.map encI), .int .i64 (p.procs.getD i default).space, .sl 1 ((p.procs.getD i default).fds.map encI), .sl 1 ((p.procs.getD i default).sigs.here.map encB), .sl 1 ((p.procs.getD i default).sigs.block.map encB), .sl 1 ((p.procs.getD i default).sigs.does.map encI), .int .i64 (p.procs.getD i default).dir.fs, .int .i64 (p.procs.getD i default).dir.id, .int .i64 (p.procs.getD i default).on]]]) fun k => rfl
      have hA := hO.app2 i (.rows 83 14 [[.int .i64 (p.procs.getD i default).state, .int .i64 (p.procs.getD i default).parent, .int .i64 (p.procs.getD i default).code, .int .i64 (p.procs.getD i default).who.user, .int .i64 (p.procs.getD i default).who.real, .sl 1 ((p.procs.getD i default).who.groups.map encI), .int .i64 (p.procs.getD i default).space, .sl 1 ((p.procs.getD i default).fds.map encI), .sl 1 ((p.procs.getD i default).sigs.here.map encB), .sl 1 ((p.procs.getD i default).sigs.block.map encB), .sl 1 ((p.procs.getD i default).sigs.does.map encI), .int .i64 (p.procs.getD i default).dir.fs, .int .i64 (p.procs.getD i default).dir.id, .int .i64 (p.procs.getD i default).on]]) (.rows 3 1 [[.int .i64 i]]) (fun k => rfl) fun k => rfl
      refine ⟨fun h => ?_, fun h => ?_⟩
      · have h1 : i < 5 := by have := of_decide_eq_true h; omega
        refine ⟨by omega, fun h2 => ?_, fun h2 => ⟨fun h3 => ⟨?_, fun h4 => ?_, fun h4 => ?_⟩, fun h3 => ⟨fun _ => by omega, fun h4 => ?_, fun h4 => ?_⟩⟩⟩
        · have e := waL_f (p := p) (n := n) (k := i) ((waOkI_eq hK h1).symm.trans (bif_tI h2))
          exact ⟨by simp; omega, hM.all _ (by simp), _, by omega, i + 1, o, h1, rfl, by rw [w_add (by omega), e], by rw [e]; exact hM⟩
        · have := on_in hK h1 (of_decide_eq_true (nb_f h2))
          have := of_decide_eq_true h3
          omega
        · have e := waL_t (p := p) (n := n) (k := i) ((waOkI_eq hK h1).symm.trans ((bif_fI h2).trans ((bif_tI h3).trans h4)))
          exact ⟨⟨by omega, by omega, by omega⟩, by simp, hA.all _ (by simp), _, by omega, i + 1, _, h1, rfl, by rw [w_add (by omega), e, List.length_append]; rfl, by rw [e]; exact hA⟩
        · have e := waL_f (p := p) (n := n) (k := i) ((waOkI_eq hK h1).symm.trans ((bif_fI h2).trans ((bif_tI h3).trans h4)))
          exact ⟨by simp; omega, hM.all _ (by simp), _, by omega, i + 1, o, h1, rfl, by rw [w_add (by omega), e], by rw [e]; exact hM⟩
        · have e := waL_t (p := p) (n := n) (k := i) ((waOkI_eq hK h1).symm.trans ((bif_fI h2).trans ((bif_fI h3).trans h4)))
          exact ⟨⟨by omega, by omega, by omega⟩, by simp, hA.all _ (by simp), _, by omega, i + 1, _, h1, rfl, by rw [w_add (by omega), e, List.length_append]; rfl, by rw [e]; exact hA⟩
        · have e := waL_f (p := p) (n := n) (k := i) ((waOkI_eq hK h1).symm.trans ((bif_fI h2).trans ((bif_fI h3).trans h4)))
          exact ⟨by simp; omega, hM.all _ (by simp), _, by omega, i + 1, o, h1, rfl, by rw [w_add (by omega), e], by rw [e]; exact hM⟩
      · obtain rfl : i = 5 := by have := of_decide_eq_false h; omega
        rw [ol_E]
        exact Le.refl _

end Go.Proofs.YtemoiphdjocaiaaGreat
