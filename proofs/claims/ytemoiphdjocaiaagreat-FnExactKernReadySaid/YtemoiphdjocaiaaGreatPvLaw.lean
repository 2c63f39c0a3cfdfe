/-
  What the law's body answers, and its argument read. Conditions: none.
-/
import Derived.Test.YtemoiphdjocaiaaGreatPvTy
import Derived.Test.YtemoiphdjocaiaaGreatPvSz
import Derived.Test.YtemoiphdjocaiaaGreatPvReady
import Derived.Test.YtemoiphdjocaiaaGreatPvSimp
set_option linter.all false
set_option linter.unusedSimpArgs false
set_option linter.unusedVariables false
namespace Go.Proofs.YtemoiphdjocaiaaGreat
open Go.Pv
set_option linter.unusedSimpArgs false
set_option maxRecDepth 100000
set_option maxHeartbeats 4000000

theorem krP_bad' {p : Kern} {n d : Int} (h : krBad p n d = true) : krP p n d = .tup [.bool false, .bool false, .bool false] := by
  unfold krP; rw [h]; rfl

theorem pc3 (p : Kern) (n d : Int) : PC Tryz.prog 3 [.agg [.sl 1 (p.mem.ram.text.map encS), .sl 1 (p.mem.ram.refs.map encI), .sl 1 (p.mem.swap.text.map encS), .sl 1 (p.mem.swap.refs.map encI), .sl 3 (p.mem.spaces.map Space.enc), .int .i64 p.mem.hand, .sl 1 (p.vfs.fss.map Fs.enc), .int .i64 p.vfs.mount, .sl 8 (p.files.map File.enc), .sl 3 (p.pipes.map Pipe.enc), .sl 14 (p.procs.map Proc.enc), .sl 4 (p.queue.tasks.map Task.enc), .int .i64 p.queue.floor], .int .i64 n, .int .i64 d] (.bool true) := by
  refine PC.of_vc mixed (phiOf [(6, an6), (8, an8), (7, an7), (9, an9), (10, an10)]) Tryz.func3 (by kernel_rfl) (rfl : Tryz.f3.body = some _) Tryz.ntmps3 (by kernel_rfl) rfl (by kernel_rfl) Tryz.results3 fun hwf => ?_
  have hbig := wfdKern p hwf.1
  clear hwf
  rcases Int.lt_or_le (szKern p 1048576) 0 with hz | hz
  · simp only [pvAll, pvStd, pvTy, ↓prep_mk, ↓List.map, ↓prepO_none, ↓prepO_some, Nat.reduceAdd, Nat.reduceEqDiff, Nat.reduceLeDiff, Nat.reduceLT, Nat.reduceSub, reduceIte, reduceCtorEq, rBox, rFieldAddr, rLoad, rLen, rCall, rIndexAddr, rField, rExtract, rNot, rNeg, rStore, rAlloc, rIndex, an6, pc6, pvDom, pvI, Int.reduceToNat, Int.reduceLE, Int.reduceLT, Int.reduceMul, Int.reduceAdd, Int.reduceGT, Int.reduceGE, Int.reduceEq, pvY, Nat.reduceMul, x_be, x_bn, bbE, q_nt, q_ft, imp_ff, imp_tt, beq_self_eq_true]
    exact ⟨fun _ => Le.refl _, fun h => absurd (of_decide_eq_false h) (by omega)⟩
  have h8 := pc8 p (szlKern p 1048576 (by omega) (by omega) hbig hz).2
  cases hb : krBad p n d with
  | true =>
    have hk := krP_bad' hb
    have h7 := pc7 p n d
    have h9 := pc9 p n d
    rw [hk] at h7 h9
    simp only [pvAll, pvStd, pvTy, ↓prep_mk, ↓List.map, ↓prepO_none, ↓prepO_some, Nat.reduceAdd, Nat.reduceEqDiff, Nat.reduceLeDiff, Nat.reduceLT, Nat.reduceSub, reduceIte, reduceCtorEq, rBox, rFieldAddr, rLoad, rLen, rCall, rIndexAddr, rField, rExtract, rNot, rNeg, rStore, rAlloc, rIndex, an6, pc6, an8, h8, an7, h7, an9, h9, an10, pc10, pvDom, pvI, Int.reduceToNat, Int.reduceLE, Int.reduceLT, Int.reduceMul, Int.reduceAdd, Int.reduceGT, Int.reduceGE, Int.reduceEq, pvY, Nat.reduceMul, x_be, x_bn, bbE, q_nt, q_ft, imp_ff, imp_tt, beq_self_eq_true, hk]
    exact ⟨fun _ => Le.refl _, fun _ => Le.refl _⟩
  | false =>
    have hk := krP_ok hb
    have h7 := pc7 p n d
    have h9 := pc9 p n d
    rw [hk] at h7 h9
    simp only [pvAll, pvStd, pvTy, ↓prep_mk, ↓List.map, ↓prepO_none, ↓prepO_some, Nat.reduceAdd, Nat.reduceEqDiff, Nat.reduceLeDiff, Nat.reduceLT, Nat.reduceSub, reduceIte, reduceCtorEq, rBox, rFieldAddr, rLoad, rLen, rCall, rIndexAddr, rField, rExtract, rNot, rNeg, rStore, rAlloc, rIndex, an6, pc6, an8, h8, an7, h7, an9, h9, an10, pc10, pvDom, pvI, Int.reduceToNat, Int.reduceLE, Int.reduceLT, Int.reduceMul, Int.reduceAdd, Int.reduceGT, Int.reduceGE, Int.reduceEq, pvY, Nat.reduceMul, x_be, x_bn, bbE, q_nt, q_ft, imp_ff, imp_tt, beq_self_eq_true, hk]
    exact ⟨fun _ => Le.refl _, fun _ => Le.refl _⟩

end Go.Proofs.YtemoiphdjocaiaaGreat

namespace Go.Proofs.YtemoiphdjocaiaaGreat
open Go.Pv
set_option linter.unusedSimpArgs false
set_option linter.unusedVariables false
set_option maxRecDepth 100000
section
variable {H : Type} {enc : TypeId × Value → H} {w : World} {sp : Nat → Bool} {held : Bool} {S : TypeId → DataW H → Prop}

theorem cells9 : Tryz.prog.cellsOf 9 = 1 := by kernel_rfl
theorem open9 (z : Szd Tryz.prog S) : Opens enc Tryz.prog w sp held S 9 encS := open_s z Tryz.underlying9
theorem cells22 : Tryz.prog.cellsOf 22 = 1 := by kernel_rfl
theorem open22 (z : Szd Tryz.prog S) : Opens enc Tryz.prog w sp held S 22 (fun x : List ByteArray => [.sl 1 (x.map encS)]) := open_sl z Tryz.underlying22 cells9 (of_decide_eq_true (by kernel_rfl)) (by decide) _ (open9 z)
theorem cells3 : Tryz.prog.cellsOf 3 = 1 := by kernel_rfl
theorem open3 (z : Szd Tryz.prog S) : Opens enc Tryz.prog w sp held S 3 encI := open_i Tryz.underlying3
theorem cells23 : Tryz.prog.cellsOf 23 = 1 := by kernel_rfl
theorem open23 (z : Szd Tryz.prog S) : Opens enc Tryz.prog w sp held S 23 (fun x : List Int => [.sl 1 (x.map encI)]) := open_sl z Tryz.underlying23 cells3 (of_decide_eq_true (by kernel_rfl)) (by decide) _ (open3 z)
theorem cells25 : Tryz.prog.cellsOf 25 = 2 := by kernel_rfl
theorem open25 (z : Szd Tryz.prog S) : Opens enc Tryz.prog w sp held S 25 Pages.enc := by
  intro fuel cs d ps h hS
  obtain ⟨hl, hf⟩ := open_st z Tryz.underlying25 h hS
  rw [cells25] at hl
  obtain ⟨a0, r0⟩ := hf 0 0 22 _ rfl (open22 z)
  rw [cells22] at r0
  obtain ⟨a1, r1⟩ := hf 1 1 23 _ rfl (open23 z)
  rw [cells23] at r1
  refine ⟨⟨a0, a1⟩, ?_⟩
  have r := (RL.join (o := 0) (s := 1) r0 (RL.join (o := 1) (s := 1) r1 (RL.done (o := 2) hl)))
  exact r
theorem cells4 : Tryz.prog.cellsOf 4 = 1 := by kernel_rfl
theorem open4 (z : Szd Tryz.prog S) : Opens enc Tryz.prog w sp held S 4 encB := open_b Tryz.underlying4
theorem cells255 : Tryz.prog.cellsOf 255 = 4 := by kernel_rfl
theorem open255 (z : Szd Tryz.prog S) : Opens enc Tryz.prog w sp held S 255 Area.enc := by
  intro fuel cs d ps h hS
  obtain ⟨hl, hf⟩ := open_st z Tryz.underlying255 h hS
  rw [cells255] at hl
  obtain ⟨a0, r0⟩ := hf 0 0 3 _ rfl (open3 z)
  rw [cells3] at r0
  obtain ⟨a1, r1⟩ := hf 1 1 3 _ rfl (open3 z)
  rw [cells3] at r1
  obtain ⟨a2, r2⟩ := hf 2 2 4 _ rfl (open4 z)
  rw [cells4] at r2
  obtain ⟨a3, r3⟩ := hf 3 3 4 _ rfl (open4 z)
  rw [cells4] at r3
  refine ⟨⟨a0, a1, a2, a3⟩, ?_⟩
  have r := (RL.join (o := 0) (s := 1) r0 (RL.join (o := 1) (s := 1) r1 (RL.join (o := 2) (s := 1) r2 (RL.join (o := 3) (s := 1) r3 (RL.done (o := 4) hl)))))
  exact r
theorem cells173 : Tryz.prog.cellsOf 173 = 1 := by kernel_rfl
theorem open173 (z : Szd Tryz.prog S) : Opens enc Tryz.prog w sp held S 173 (fun x : List Area => [.sl 4 (x.map Area.enc)]) := open_sl z Tryz.underlying173 cells255 (of_decide_eq_true (by kernel_rfl)) (by decide) _ (open255 z)
theorem cells257 : Tryz.prog.cellsOf 257 = 4 := by kernel_rfl
theorem open257 (z : Szd Tryz.prog S) : Opens enc Tryz.prog w sp held S 257 Slot.enc := by
  intro fuel cs d ps h hS
  obtain ⟨hl, hf⟩ := open_st z Tryz.underlying257 h hS
  rw [cells257] at hl
  obtain ⟨a0, r0⟩ := hf 0 0 3 _ rfl (open3 z)
  rw [cells3] at r0
  obtain ⟨a1, r1⟩ := hf 1 1 3 _ rfl (open3 z)
  rw [cells3] at r1
  obtain ⟨a2, r2⟩ := hf 2 2 4 _ rfl (open4 z)
  rw [cells4] at r2
  obtain ⟨a3, r3⟩ := hf 3 3 4 _ rfl (open4 z)
  rw [cells4] at r3
  refine ⟨⟨a0, a1, a2, a3⟩, ?_⟩
  have r := (RL.join (o := 0) (s := 1) r0 (RL.join (o := 1) (s := 1) r1 (RL.join (o := 2) (s := 1) r2 (RL.join (o := 3) (s := 1) r3 (RL.done (o := 4) hl)))))
  exact r
theorem cells174 : Tryz.prog.cellsOf 174 = 1 := by kernel_rfl
theorem open174 (z : Szd Tryz.prog S) : Opens enc Tryz.prog w sp held S 174 (fun x : List Slot => [.sl 4 (x.map Slot.enc)]) := open_sl z Tryz.underlying174 cells257 (of_decide_eq_true (by kernel_rfl)) (by decide) _ (open257 z)
theorem cells176 : Tryz.prog.cellsOf 176 = 3 := by kernel_rfl
theorem open176 (z : Szd Tryz.prog S) : Opens enc Tryz.prog w sp held S 176 Space.enc := by
  intro fuel cs d ps h hS
  obtain ⟨hl, hf⟩ := open_st z Tryz.underlying176 h hS
  rw [cells176] at hl
  obtain ⟨a0, r0⟩ := hf 0 0 4 _ rfl (open4 z)
  rw [cells4] at r0
  obtain ⟨a1, r1⟩ := hf 1 1 173 _ rfl (open173 z)
  rw [cells173] at r1
  obtain ⟨a2, r2⟩ := hf 2 2 174 _ rfl (open174 z)
  rw [cells174] at r2
  refine ⟨⟨a0, a1, a2⟩, ?_⟩
  have r := (RL.join (o := 0) (s := 1) r0 (RL.join (o := 1) (s := 1) r1 (RL.join (o := 2) (s := 1) r2 (RL.done (o := 3) hl))))
  exact r
theorem cells26 : Tryz.prog.cellsOf 26 = 1 := by kernel_rfl
theorem open26 (z : Szd Tryz.prog S) : Opens enc Tryz.prog w sp held S 26 (fun x : List Space => [.sl 3 (x.map Space.enc)]) := open_sl z Tryz.underlying26 cells176 (of_decide_eq_true (by kernel_rfl)) (by decide) _ (open176 z)
theorem cells28 : Tryz.prog.cellsOf 28 = 6 := by kernel_rfl
theorem open28 (z : Szd Tryz.prog S) : Opens enc Tryz.prog w sp held S 28 Mem.enc := by
  intro fuel cs d ps h hS
  obtain ⟨hl, hf⟩ := open_st z Tryz.underlying28 h hS
  rw [cells28] at hl
  obtain ⟨a0, r0⟩ := hf 0 0 25 _ rfl (open25 z)
  rw [cells25] at r0
  obtain ⟨a1, r1⟩ := hf 1 2 25 _ rfl (open25 z)
  rw [cells25] at r1
  obtain ⟨a2, r2⟩ := hf 2 4 26 _ rfl (open26 z)
  rw [cells26] at r2
  obtain ⟨a3, r3⟩ := hf 3 5 3 _ rfl (open3 z)
  rw [cells3] at r3
  refine ⟨⟨a0, a1, a2, a3⟩, ?_⟩
  have r := (RL.join (o := 0) (s := 2) r0 (RL.join (o := 2) (s := 2) r1 (RL.join (o := 4) (s := 1) r2 (RL.join (o := 5) (s := 1) r3 (RL.done (o := 6) hl)))))
  exact r
theorem cells270 : Tryz.prog.cellsOf 270 = 2 := by kernel_rfl
theorem open270 (z : Szd Tryz.prog S) : Opens enc Tryz.prog w sp held S 270 Entry.enc := by
  intro fuel cs d ps h hS
  obtain ⟨hl, hf⟩ := open_st z Tryz.underlying270 h hS
  rw [cells270] at hl
  obtain ⟨a0, r0⟩ := hf 0 0 9 _ rfl (open9 z)
  rw [cells9] at r0
  obtain ⟨a1, r1⟩ := hf 1 1 3 _ rfl (open3 z)
  rw [cells3] at r1
  refine ⟨⟨a0, a1⟩, ?_⟩
  have r := (RL.join (o := 0) (s := 1) r0 (RL.join (o := 1) (s := 1) r1 (RL.done (o := 2) hl)))
  exact r
theorem cells247 : Tryz.prog.cellsOf 247 = 1 := by kernel_rfl
theorem open247 (z : Szd Tryz.prog S) : Opens enc Tryz.prog w sp held S 247 (fun x : List Entry => [.sl 2 (x.map Entry.enc)]) := open_sl z Tryz.underlying247 cells270 (of_decide_eq_true (by kernel_rfl)) (by decide) _ (open270 z)
theorem cells249 : Tryz.prog.cellsOf 249 = 9 := by kernel_rfl
theorem open249 (z : Szd Tryz.prog S) : Opens enc Tryz.prog w sp held S 249 Inode.enc := by
  intro fuel cs d ps h hS
  obtain ⟨hl, hf⟩ := open_st z Tryz.underlying249 h hS
  rw [cells249] at hl
  obtain ⟨a0, r0⟩ := hf 0 0 3 _ rfl (open3 z)
  rw [cells3] at r0
  obtain ⟨a1, r1⟩ := hf 1 1 3 _ rfl (open3 z)
  rw [cells3] at r1
  obtain ⟨a2, r2⟩ := hf 2 2 3 _ rfl (open3 z)
  rw [cells3] at r2
  obtain ⟨a3, r3⟩ := hf 3 3 3 _ rfl (open3 z)
  rw [cells3] at r3
  obtain ⟨a4, r4⟩ := hf 4 4 3 _ rfl (open3 z)
  rw [cells3] at r4
  obtain ⟨a5, r5⟩ := hf 5 5 3 _ rfl (open3 z)
  rw [cells3] at r5
  obtain ⟨a6, r6⟩ := hf 6 6 4 _ rfl (open4 z)
  rw [cells4] at r6
  obtain ⟨a7, r7⟩ := hf 7 7 9 _ rfl (open9 z)
  rw [cells9] at r7
  obtain ⟨a8, r8⟩ := hf 8 8 247 _ rfl (open247 z)
  rw [cells247] at r8
  refine ⟨⟨a0, a1, a2, a3, a4, a5, a6, a7, a8⟩, ?_⟩
  have r := (RL.join (o := 0) (s := 1) r0 (RL.join (o := 1) (s := 1) r1 (RL.join (o := 2) (s := 1) r2 (RL.join (o := 3) (s := 1) r3 (RL.join (o := 4) (s := 1) r4 (RL.join (o := 5) (s := 1) r5 (RL.join (o := 6) (s := 1) r6 (RL.join (o := 7) (s := 1) r7 (RL.join (o := 8) (s := 1) r8 (RL.done (o := 9) hl))))))))))
  exact r
theorem cells178 : Tryz.prog.cellsOf 178 = 1 := by kernel_rfl
theorem open178 (z : Szd Tryz.prog S) : Opens enc Tryz.prog w sp held S 178 (fun x : List Inode => [.sl 9 (x.map Inode.enc)]) := open_sl z Tryz.underlying178 cells249 (of_decide_eq_true (by kernel_rfl)) (by decide) _ (open249 z)
theorem cells180 : Tryz.prog.cellsOf 180 = 1 := by kernel_rfl
theorem open180 (z : Szd Tryz.prog S) : Opens enc Tryz.prog w sp held S 180 Fs.enc := by
  intro fuel cs d ps h hS
  obtain ⟨hl, hf⟩ := open_st z Tryz.underlying180 h hS
  rw [cells180] at hl
  obtain ⟨a0, r0⟩ := hf 0 0 178 _ rfl (open178 z)
  rw [cells178] at r0
  refine ⟨⟨a0⟩, ?_⟩
  have r := (RL.join (o := 0) (s := 1) r0 (RL.done (o := 1) hl))
  exact r
theorem cells29 : Tryz.prog.cellsOf 29 = 1 := by kernel_rfl
theorem open29 (z : Szd Tryz.prog S) : Opens enc Tryz.prog w sp held S 29 (fun x : List Fs => [.sl 1 (x.map Fs.enc)]) := open_sl z Tryz.underlying29 cells180 (of_decide_eq_true (by kernel_rfl)) (by decide) _ (open180 z)
theorem cells31 : Tryz.prog.cellsOf 31 = 2 := by kernel_rfl
theorem open31 (z : Szd Tryz.prog S) : Opens enc Tryz.prog w sp held S 31 Vfs.enc := by
  intro fuel cs d ps h hS
  obtain ⟨hl, hf⟩ := open_st z Tryz.underlying31 h hS
  rw [cells31] at hl
  obtain ⟨a0, r0⟩ := hf 0 0 29 _ rfl (open29 z)
  rw [cells29] at r0
  obtain ⟨a1, r1⟩ := hf 1 1 3 _ rfl (open3 z)
  rw [cells3] at r1
  refine ⟨⟨a0, a1⟩, ?_⟩
  have r := (RL.join (o := 0) (s := 1) r0 (RL.join (o := 1) (s := 1) r1 (RL.done (o := 2) hl)))
  exact r
theorem cells121 : Tryz.prog.cellsOf 121 = 2 := by kernel_rfl
theorem open121 (z : Szd Tryz.prog S) : Opens enc Tryz.prog w sp held S 121 Spt.enc := by
  intro fuel cs d ps h hS
  obtain ⟨hl, hf⟩ := open_st z Tryz.underlying121 h hS
  rw [cells121] at hl
  obtain ⟨a0, r0⟩ := hf 0 0 3 _ rfl (open3 z)
  rw [cells3] at r0
  obtain ⟨a1, r1⟩ := hf 1 1 3 _ rfl (open3 z)
  rw [cells3] at r1
  refine ⟨⟨a0, a1⟩, ?_⟩
  have r := (RL.join (o := 0) (s := 1) r0 (RL.join (o := 1) (s := 1) r1 (RL.done (o := 2) hl)))
  exact r
theorem cells131 : Tryz.prog.cellsOf 131 = 8 := by kernel_rfl
theorem open131 (z : Szd Tryz.prog S) : Opens enc Tryz.prog w sp held S 131 File.enc := by
  intro fuel cs d ps h hS
  obtain ⟨hl, hf⟩ := open_st z Tryz.underlying131 h hS
  rw [cells131] at hl
  obtain ⟨a0, r0⟩ := hf 0 0 3 _ rfl (open3 z)
  rw [cells3] at r0
  obtain ⟨a1, r1⟩ := hf 1 1 121 _ rfl (open121 z)
  rw [cells121] at r1
  obtain ⟨a2, r2⟩ := hf 2 3 3 _ rfl (open3 z)
  rw [cells3] at r2
  obtain ⟨a3, r3⟩ := hf 3 4 3 _ rfl (open3 z)
  rw [cells3] at r3
  obtain ⟨a4, r4⟩ := hf 4 5 4 _ rfl (open4 z)
  rw [cells4] at r4
  obtain ⟨a5, r5⟩ := hf 5 6 4 _ rfl (open4 z)
  rw [cells4] at r5
  obtain ⟨a6, r6⟩ := hf 6 7 4 _ rfl (open4 z)
  rw [cells4] at r6
  refine ⟨⟨a0, a1, a2, a3, a4, a5, a6⟩, ?_⟩
  have r := (RL.join (o := 0) (s := 1) r0 (RL.join (o := 1) (s := 2) r1 (RL.join (o := 3) (s := 1) r2 (RL.join (o := 4) (s := 1) r3 (RL.join (o := 5) (s := 1) r4 (RL.join (o := 6) (s := 1) r5 (RL.join (o := 7) (s := 1) r6 (RL.done (o := 8) hl))))))))
  exact r
theorem cells32 : Tryz.prog.cellsOf 32 = 1 := by kernel_rfl
theorem open32 (z : Szd Tryz.prog S) : Opens enc Tryz.prog w sp held S 32 (fun x : List File => [.sl 8 (x.map File.enc)]) := open_sl z Tryz.underlying32 cells131 (of_decide_eq_true (by kernel_rfl)) (by decide) _ (open131 z)
theorem cells117 : Tryz.prog.cellsOf 117 = 3 := by kernel_rfl
theorem open117 (z : Szd Tryz.prog S) : Opens enc Tryz.prog w sp held S 117 Pipe.enc := by
  intro fuel cs d ps h hS
  obtain ⟨hl, hf⟩ := open_st z Tryz.underlying117 h hS
  rw [cells117] at hl
  obtain ⟨a0, r0⟩ := hf 0 0 9 _ rfl (open9 z)
  rw [cells9] at r0
  obtain ⟨a1, r1⟩ := hf 1 1 3 _ rfl (open3 z)
  rw [cells3] at r1
  obtain ⟨a2, r2⟩ := hf 2 2 3 _ rfl (open3 z)
  rw [cells3] at r2
  refine ⟨⟨a0, a1, a2⟩, ?_⟩
  have r := (RL.join (o := 0) (s := 1) r0 (RL.join (o := 1) (s := 1) r1 (RL.join (o := 2) (s := 1) r2 (RL.done (o := 3) hl))))
  exact r
theorem cells33 : Tryz.prog.cellsOf 33 = 1 := by kernel_rfl
theorem open33 (z : Szd Tryz.prog S) : Opens enc Tryz.prog w sp held S 33 (fun x : List Pipe => [.sl 3 (x.map Pipe.enc)]) := open_sl z Tryz.underlying33 cells117 (of_decide_eq_true (by kernel_rfl)) (by decide) _ (open117 z)
theorem cells119 : Tryz.prog.cellsOf 119 = 3 := by kernel_rfl
theorem open119 (z : Szd Tryz.prog S) : Opens enc Tryz.prog w sp held S 119 Cred.enc := by
  intro fuel cs d ps h hS
  obtain ⟨hl, hf⟩ := open_st z Tryz.underlying119 h hS
  rw [cells119] at hl
  obtain ⟨a0, r0⟩ := hf 0 0 3 _ rfl (open3 z)
  rw [cells3] at r0
  obtain ⟨a1, r1⟩ := hf 1 1 3 _ rfl (open3 z)
  rw [cells3] at r1
  obtain ⟨a2, r2⟩ := hf 2 2 23 _ rfl (open23 z)
  rw [cells23] at r2
  refine ⟨⟨a0, a1, a2⟩, ?_⟩
  have r := (RL.join (o := 0) (s := 1) r0 (RL.join (o := 1) (s := 1) r1 (RL.join (o := 2) (s := 1) r2 (RL.done (o := 3) hl))))
  exact r
theorem cells77 : Tryz.prog.cellsOf 77 = 1 := by kernel_rfl
theorem open77 (z : Szd Tryz.prog S) : Opens enc Tryz.prog w sp held S 77 (fun x : List Bool => [.sl 1 (x.map encB)]) := open_sl z Tryz.underlying77 cells4 (of_decide_eq_true (by kernel_rfl)) (by decide) _ (open4 z)
theorem cells120 : Tryz.prog.cellsOf 120 = 3 := by kernel_rfl
theorem open120 (z : Szd Tryz.prog S) : Opens enc Tryz.prog w sp held S 120 Sigs.enc := by
  intro fuel cs d ps h hS
  obtain ⟨hl, hf⟩ := open_st z Tryz.underlying120 h hS
  rw [cells120] at hl
  obtain ⟨a0, r0⟩ := hf 0 0 77 _ rfl (open77 z)
  rw [cells77] at r0
  obtain ⟨a1, r1⟩ := hf 1 1 77 _ rfl (open77 z)
  rw [cells77] at r1
  obtain ⟨a2, r2⟩ := hf 2 2 23 _ rfl (open23 z)
  rw [cells23] at r2
  refine ⟨⟨a0, a1, a2⟩, ?_⟩
  have r := (RL.join (o := 0) (s := 1) r0 (RL.join (o := 1) (s := 1) r1 (RL.join (o := 2) (s := 1) r2 (RL.done (o := 3) hl))))
  exact r
theorem cells123 : Tryz.prog.cellsOf 123 = 14 := by kernel_rfl
theorem open123 (z : Szd Tryz.prog S) : Opens enc Tryz.prog w sp held S 123 Proc.enc := by
  intro fuel cs d ps h hS
  obtain ⟨hl, hf⟩ := open_st z Tryz.underlying123 h hS
  rw [cells123] at hl
  obtain ⟨a0, r0⟩ := hf 0 0 3 _ rfl (open3 z)
  rw [cells3] at r0
  obtain ⟨a1, r1⟩ := hf 1 1 3 _ rfl (open3 z)
  rw [cells3] at r1
  obtain ⟨a2, r2⟩ := hf 2 2 3 _ rfl (open3 z)
  rw [cells3] at r2
  obtain ⟨a3, r3⟩ := hf 3 3 119 _ rfl (open119 z)
  rw [cells119] at r3
  obtain ⟨a4, r4⟩ := hf 4 6 3 _ rfl (open3 z)
  rw [cells3] at r4
  obtain ⟨a5, r5⟩ := hf 5 7 23 _ rfl (open23 z)
  rw [cells23] at r5
  obtain ⟨a6, r6⟩ := hf 6 8 120 _ rfl (open120 z)
  rw [cells120] at r6
  obtain ⟨a7, r7⟩ := hf 7 11 121 _ rfl (open121 z)
  rw [cells121] at r7
  obtain ⟨a8, r8⟩ := hf 8 13 3 _ rfl (open3 z)
  rw [cells3] at r8
  refine ⟨⟨a0, a1, a2, a3, a4, a5, a6, a7, a8⟩, ?_⟩
  have r := (RL.join (o := 0) (s := 1) r0 (RL.join (o := 1) (s := 1) r1 (RL.join (o := 2) (s := 1) r2 (RL.join (o := 3) (s := 3) r3 (RL.join (o := 6) (s := 1) r4 (RL.join (o := 7) (s := 1) r5 (RL.join (o := 8) (s := 3) r6 (RL.join (o := 11) (s := 2) r7 (RL.join (o := 13) (s := 1) r8 (RL.done (o := 14) hl))))))))))
  exact r
theorem cells34 : Tryz.prog.cellsOf 34 = 1 := by kernel_rfl
theorem open34 (z : Szd Tryz.prog S) : Opens enc Tryz.prog w sp held S 34 (fun x : List Proc => [.sl 14 (x.map Proc.enc)]) := open_sl z Tryz.underlying34 cells123 (of_decide_eq_true (by kernel_rfl)) (by decide) _ (open123 z)
theorem cells192 : Tryz.prog.cellsOf 192 = 4 := by kernel_rfl
theorem open192 (z : Szd Tryz.prog S) : Opens enc Tryz.prog w sp held S 192 Task.enc := by
  intro fuel cs d ps h hS
  obtain ⟨hl, hf⟩ := open_st z Tryz.underlying192 h hS
  rw [cells192] at hl
  obtain ⟨a0, r0⟩ := hf 0 0 3 _ rfl (open3 z)
  rw [cells3] at r0
  obtain ⟨a1, r1⟩ := hf 1 1 3 _ rfl (open3 z)
  rw [cells3] at r1
  obtain ⟨a2, r2⟩ := hf 2 2 3 _ rfl (open3 z)
  rw [cells3] at r2
  obtain ⟨a3, r3⟩ := hf 3 3 4 _ rfl (open4 z)
  rw [cells4] at r3
  refine ⟨⟨a0, a1, a2, a3⟩, ?_⟩
  have r := (RL.join (o := 0) (s := 1) r0 (RL.join (o := 1) (s := 1) r1 (RL.join (o := 2) (s := 1) r2 (RL.join (o := 3) (s := 1) r3 (RL.done (o := 4) hl)))))
  exact r
theorem cells35 : Tryz.prog.cellsOf 35 = 1 := by kernel_rfl
theorem open35 (z : Szd Tryz.prog S) : Opens enc Tryz.prog w sp held S 35 (fun x : List Task => [.sl 4 (x.map Task.enc)]) := open_sl z Tryz.underlying35 cells192 (of_decide_eq_true (by kernel_rfl)) (by decide) _ (open192 z)
theorem cells37 : Tryz.prog.cellsOf 37 = 2 := by kernel_rfl
theorem open37 (z : Szd Tryz.prog S) : Opens enc Tryz.prog w sp held S 37 Queue.enc := by
  intro fuel cs d ps h hS
  obtain ⟨hl, hf⟩ := open_st z Tryz.underlying37 h hS
  rw [cells37] at hl
  obtain ⟨a0, r0⟩ := hf 0 0 35 _ rfl (open35 z)
  rw [cells35] at r0
  obtain ⟨a1, r1⟩ := hf 1 1 3 _ rfl (open3 z)
  rw [cells3] at r1
  refine ⟨⟨a0, a1⟩, ?_⟩
  have r := (RL.join (o := 0) (s := 1) r0 (RL.join (o := 1) (s := 1) r1 (RL.done (o := 2) hl)))
  exact r
theorem cells39 : Tryz.prog.cellsOf 39 = 13 := by kernel_rfl
theorem open39 (z : Szd Tryz.prog S) : Opens enc Tryz.prog w sp held S 39 Kern.enc := by
  intro fuel cs d ps h hS
  obtain ⟨hl, hf⟩ := open_st z Tryz.underlying39 h hS
  rw [cells39] at hl
  obtain ⟨a0, r0⟩ := hf 0 0 28 _ rfl (open28 z)
  rw [cells28] at r0
  obtain ⟨a1, r1⟩ := hf 1 6 31 _ rfl (open31 z)
  rw [cells31] at r1
  obtain ⟨a2, r2⟩ := hf 2 8 32 _ rfl (open32 z)
  rw [cells32] at r2
  obtain ⟨a3, r3⟩ := hf 3 9 33 _ rfl (open33 z)
  rw [cells33] at r3
  obtain ⟨a4, r4⟩ := hf 4 10 34 _ rfl (open34 z)
  rw [cells34] at r4
  obtain ⟨a5, r5⟩ := hf 5 11 37 _ rfl (open37 z)
  rw [cells37] at r5
  refine ⟨⟨a0, a1, a2, a3, a4, a5⟩, ?_⟩
  have r := (RL.join (o := 0) (s := 6) r0 (RL.join (o := 6) (s := 2) r1 (RL.join (o := 8) (s := 1) r2 (RL.join (o := 9) (s := 1) r3 (RL.join (o := 10) (s := 1) r4 (RL.join (o := 11) (s := 2) r5 (RL.done (o := 13) hl)))))))
  exact r
end
end Go.Proofs.YtemoiphdjocaiaaGreat
