/-
  What the law's body calls, and the region that draws its order. Conditions: none.
-/
import Derived.Test.YtemoiphdjocaiaaGreatPvTy
import Derived.Test.YtemoiphdjocaiaaGreatPvSimp
import Derived.Test.YtemoiphdjocaiaaGreatPvMark
import Derived.Test.YtemoiphdjocaiaaGreatPvSz
import Derived.Test.YtemoiphdjocaiaaGreatPvEq
import Derived.Test.YtemoiphdjocaiaaGreatPvKern
set_option linter.all false
set_option linter.unusedSimpArgs false
set_option linter.unusedVariables false
namespace Go.Proofs.YtemoiphdjocaiaaGreat
open Go.Pv
set_option linter.unusedSimpArgs false
set_option linter.unusedVariables false
set_option maxRecDepth 100000
section
variable {H : Type} {enc : TypeId × Value → H} {w : World} {sp : Nat → Bool} {held : Bool} {S : TypeId → DataW H → Prop}

theorem cells9 : Tryz.prog.cellsOf 9 = 1 := by kernel_rfl
theorem open9 (z : Szd Tryz.prog S) : Opens enc Tryz.prog w sp held S 9 encS := open_s z Tryz.underlying9
theorem cells22 : Tryz.prog.cellsOf 22 = 1 := by kernel_rfl
theorem open22 (z : Szd Tryz.prog S) : Opens enc Tryz.prog w sp held S 22 (fun x : List ByteArray => [.sl 1 (x.map encS)]) := open_sl z Tryz.underlying22 cells9 (of_decide_eq_true (by kernel_rfl)) (by decide) _ (open9 z)
theorem cells3 : Tryz.prog.cellsOf 3 = 1 := by kernel_rfl
theorem open3 (z : Szd Tryz.prog S) : Opens enc Tryz.prog w sp held S 3 encI := open_i Tryz.underlying3
theorem cells23 : Tryz.prog.cellsOf 23 = 1 := by kernel_rfl
theorem open23 (z : Szd Tryz.prog S) : Opens enc Tryz.prog w sp held S 23 (fun x : List Int => [.sl 1 (x.map encI)]) := open_sl z Tryz.underlying23 cells3 (of_decide_eq_true (by kernel_rfl)) (by decide) _ (open3 z)
theorem cells25 : Tryz.prog.cellsOf 25 = 2 := by kernel_rfl
theorem open25 (z : Szd Tryz.prog S) : Opens enc Tryz.prog w sp held S 25 Pages.enc := by
  intro fuel cs d ps h hS
  obtain ⟨hl, hf⟩ := open_st z Tryz.underlying25 h hS
  rw [cells25] at hl
  obtain ⟨a0, r0⟩ := hf 0 0 22 _ rfl (open22 z)
  rw [cells22] at r0
  obtain ⟨a1, r1⟩ := hf 1 1 23 _ rfl (open23 z)
  rw [cells23] at r1
  refine ⟨⟨a0, a1⟩, ?_⟩
  have r := (RL.join (o := 0) (s := 1) r0 (RL.join (o := 1) (s := 1) r1 (RL.done (o := 2) hl)))
  exact r
theorem cells4 : Tryz.prog.cellsOf 4 = 1 := by kernel_rfl
theorem open4 (z : Szd Tryz.prog S) : Opens enc Tryz.prog w sp held S 4 encB := open_b Tryz.underlying4
theorem cells255 : Tryz.prog.cellsOf 255 = 4 := by kernel_rfl
theorem open255 (z : Szd Tryz.prog S) : Opens enc Tryz.prog w sp held S 255 Area.enc := by
  intro fuel cs d ps h hS
  obtain ⟨hl, hf⟩ := open_st z Tryz.underlying255 h hS
  rw [cells255] at hl
  obtain ⟨a0, r0⟩ := hf 0 0 3 _ rfl (open3 z)
  rw [cells3] at r0
  obtain ⟨a1, r1⟩ := hf 1 1 3 _ rfl (open3 z)
  rw [cells3] at r1
  obtain ⟨a2, r2⟩ := hf 2 2 4 _ rfl (open4 z)
  rw [cells4] at r2
  obtain ⟨a3, r3⟩ := hf 3 3 4 _ rfl (open4 z)
  rw [cells4] at r3
  refine ⟨⟨a0, a1, a2, a3⟩, ?_⟩
  have r := (RL.join (o := 0) (s := 1) r0 (RL.join (o := 1) (s := 1) r1 (RL.join (o := 2) (s := 1) r2 (RL.join (o := 3) (s := 1) r3 (RL.done (o := 4) hl)))))
  exact r
theorem cells173 : Tryz.prog.cellsOf 173 = 1 := by kernel_rfl
theorem open173 (z : Szd Tryz.prog S) : Opens enc Tryz.prog w sp held S 173 (fun x : List Area => [.sl 4 (x.map Area.enc)]) := open_sl z Tryz.underlying173 cells255 (of_decide_eq_true (by kernel_rfl)) (by decide) _ (open255 z)
theorem cells257 : Tryz.prog.cellsOf 257 = 4 := by kernel_rfl
theorem open257 (z : Szd Tryz.prog S) : Opens enc Tryz.prog w sp held S 257 Slot.enc := by
  intro fuel cs d ps h hS
  obtain ⟨hl, hf⟩ := open_st z Tryz.underlying257 h hS
  rw [cells257] at hl
  obtain ⟨a0, r0⟩ := hf 0 0 3 _ rfl (open3 z)
  rw [cells3] at r0
  obtain ⟨a1, r1⟩ := hf 1 1 3 _ rfl (open3 z)
  rw [cells3] at r1
  obtain ⟨a2, r2⟩ := hf 2 2 4 _ rfl (open4 z)
  rw [cells4] at r2
  obtain ⟨a3, r3⟩ := hf 3 3 4 _ rfl (open4 z)
  rw [cells4] at r3
  refine ⟨⟨a0, a1, a2, a3⟩, ?_⟩
  have r := (RL.join (o := 0) (s := 1) r0 (RL.join (o := 1) (s := 1) r1 (RL.join (o := 2) (s := 1) r2 (RL.join (o := 3) (s := 1) r3 (RL.done (o := 4) hl)))))
  exact r
theorem cells174 : Tryz.prog.cellsOf 174 = 1 := by kernel_rfl
theorem open174 (z : Szd Tryz.prog S) : Opens enc Tryz.prog w sp held S 174 (fun x : List Slot => [.sl 4 (x.map Slot.enc)]) := open_sl z Tryz.underlying174 cells257 (of_decide_eq_true (by kernel_rfl)) (by decide) _ (open257 z)
theorem cells176 : Tryz.prog.cellsOf 176 = 3 := by kernel_rfl
theorem open176 (z : Szd Tryz.prog S) : Opens enc Tryz.prog w sp held S 176 Space.enc := by
  intro fuel cs d ps h hS
  obtain ⟨hl, hf⟩ := open_st z Tryz.underlying176 h hS
  rw [cells176] at hl
  obtain ⟨a0, r0⟩ := hf 0 0 4 _ rfl (open4 z)
  rw [cells4] at r0
  obtain ⟨a1, r1⟩ := hf 1 1 173 _ rfl (open173 z)
  rw [cells173] at r1
  obtain ⟨a2, r2⟩ := hf 2 2 174 _ rfl (open174 z)
  rw [cells174] at r2
  refine ⟨⟨a0, a1, a2⟩, ?_⟩
  have r := (RL.join (o := 0) (s := 1) r0 (RL.join (o := 1) (s := 1) r1 (RL.join (o := 2) (s := 1) r2 (RL.done (o := 3) hl))))
  exact r
theorem cells26 : Tryz.prog.cellsOf 26 = 1 := by kernel_rfl
theorem open26 (z : Szd Tryz.prog S) : Opens enc Tryz.prog w sp held S 26 (fun x : List Space => [.sl 3 (x.map Space.enc)]) := open_sl z Tryz.underlying26 cells176 (of_decide_eq_true (by kernel_rfl)) (by decide) _ (open176 z)
theorem cells28 : Tryz.prog.cellsOf 28 = 6 := by kernel_rfl
theorem open28 (z : Szd Tryz.prog S) : Opens enc Tryz.prog w sp held S 28 Mem.enc := by
  intro fuel cs d ps h hS
  obtain ⟨hl, hf⟩ := open_st z Tryz.underlying28 h hS
  rw [cells28] at hl
  obtain ⟨a0, r0⟩ := hf 0 0 25 _ rfl (open25 z)
  rw [cells25] at r0
  obtain ⟨a1, r1⟩ := hf 1 2 25 _ rfl (open25 z)
  rw [cells25] at r1
  obtain ⟨a2, r2⟩ := hf 2 4 26 _ rfl (open26 z)
  rw [cells26] at r2
  obtain ⟨a3, r3⟩ := hf 3 5 3 _ rfl (open3 z)
  rw [cells3] at r3
  refine ⟨⟨a0, a1, a2, a3⟩, ?_⟩
  have r := (RL.join (o := 0) (s := 2) r0 (RL.join (o := 2) (s := 2) r1 (RL.join (o := 4) (s := 1) r2 (RL.join (o := 5) (s := 1) r3 (RL.done (o := 6) hl)))))
  exact r
theorem cells270 : Tryz.prog.cellsOf 270 = 2 := by kernel_rfl
theorem open270 (z : Szd Tryz.prog S) : Opens enc Tryz.prog w sp held S 270 Entry.enc := by
  intro fuel cs d ps h hS
  obtain ⟨hl, hf⟩ := open_st z Tryz.underlying270 h hS
  rw [cells270] at hl
  obtain ⟨a0, r0⟩ := hf 0 0 9 _ rfl (open9 z)
  rw [cells9] at r0
  obtain ⟨a1, r1⟩ := hf 1 1 3 _ rfl (open3 z)
  rw [cells3] at r1
  refine ⟨⟨a0, a1⟩, ?_⟩
  have r := (RL.join (o := 0) (s := 1) r0 (RL.join (o := 1) (s := 1) r1 (RL.done (o := 2) hl)))
  exact r
theorem cells247 : Tryz.prog.cellsOf 247 = 1 := by kernel_rfl
theorem open247 (z : Szd Tryz.prog S) : Opens enc Tryz.prog w sp held S 247 (fun x : List Entry => [.sl 2 (x.map Entry.enc)]) := open_sl z Tryz.underlying247 cells270 (of_decide_eq_true (by kernel_rfl)) (by decide) _ (open270 z)
theorem cells249 : Tryz.prog.cellsOf 249 = 9 := by kernel_rfl
theorem open249 (z : Szd Tryz.prog S) : Opens enc Tryz.prog w sp held S 249 Inode.enc := by
  intro fuel cs d ps h hS
  obtain ⟨hl, hf⟩ := open_st z Tryz.underlying249 h hS
  rw [cells249] at hl
  obtain ⟨a0, r0⟩ := hf 0 0 3 _ rfl (open3 z)
  rw [cells3] at r0
  obtain ⟨a1, r1⟩ := hf 1 1 3 _ rfl (open3 z)
  rw [cells3] at r1
  obtain ⟨a2, r2⟩ := hf 2 2 3 _ rfl (open3 z)
  rw [cells3] at r2
  obtain ⟨a3, r3⟩ := hf 3 3 3 _ rfl (open3 z)
  rw [cells3] at r3
  obtain ⟨a4, r4⟩ := hf 4 4 3 _ rfl (open3 z)
  rw [cells3] at r4
  obtain ⟨a5, r5⟩ := hf 5 5 3 _ rfl (open3 z)
  rw [cells3] at r5
  obtain ⟨a6, r6⟩ := hf 6 6 4 _ rfl (open4 z)
  rw [cells4] at r6
  obtain ⟨a7, r7⟩ := hf 7 7 9 _ rfl (open9 z)
  rw [cells9] at r7
  obtain ⟨a8, r8⟩ := hf 8 8 247 _ rfl (open247 z)
  rw [cells247] at r8
  refine ⟨⟨a0, a1, a2, a3, a4, a5, a6, a7, a8⟩, ?_⟩
  have r := (RL.join (o := 0) (s := 1) r0 (RL.join (o := 1) (s := 1) r1 (RL.join (o := 2) (s := 1) r2 (RL.join (o := 3) (s := 1) r3 (RL.join (o := 4) (s := 1) r4 (RL.join (o := 5) (s := 1) r5 (RL.join (o := 6) (s := 1) r6 (RL.join (o := 7) (s := 1) r7 (RL.join (o := 8) (s := 1) r8 (RL.done (o := 9) hl))))))))))
  exact r
theorem cells178 : Tryz.prog.cellsOf 178 = 1 := by kernel_rfl
theorem open178 (z : Szd Tryz.prog S) : Opens enc Tryz.prog w sp held S 178 (fun x : List Inode => [.sl 9 (x.map Inode.enc)]) := open_sl z Tryz.underlying178 cells249 (of_decide_eq_true (by kernel_rfl)) (by decide) _ (open249 z)
theorem cells180 : Tryz.prog.cellsOf 180 = 1 := by kernel_rfl
theorem open180 (z : Szd Tryz.prog S) : Opens enc Tryz.prog w sp held S 180 Fs.enc := by
  intro fuel cs d ps h hS
  obtain ⟨hl, hf⟩ := open_st z Tryz.underlying180 h hS
  rw [cells180] at hl
  obtain ⟨a0, r0⟩ := hf 0 0 178 _ rfl (open178 z)
  rw [cells178] at r0
  refine ⟨⟨a0⟩, ?_⟩
  have r := (RL.join (o := 0) (s := 1) r0 (RL.done (o := 1) hl))
  exact r
theorem cells29 : Tryz.prog.cellsOf 29 = 1 := by kernel_rfl
theorem open29 (z : Szd Tryz.prog S) : Opens enc Tryz.prog w sp held S 29 (fun x : List Fs => [.sl 1 (x.map Fs.enc)]) := open_sl z Tryz.underlying29 cells180 (of_decide_eq_true (by kernel_rfl)) (by decide) _ (open180 z)
theorem cells31 : Tryz.prog.cellsOf 31 = 2 := by kernel_rfl
theorem open31 (z : Szd Tryz.prog S) : Opens enc Tryz.prog w sp held S 31 Vfs.enc := by
  intro fuel cs d ps h hS
  obtain ⟨hl, hf⟩ := open_st z Tryz.underlying31 h hS
  rw [cells31] at hl
  obtain ⟨a0, r0⟩ := hf 0 0 29 _ rfl (open29 z)
  rw [cells29] at r0
  obtain ⟨a1, r1⟩ := hf 1 1 3 _ rfl (open3 z)
  rw [cells3] at r1
  refine ⟨⟨a0, a1⟩, ?_⟩
  have r := (RL.join (o := 0) (s := 1) r0 (RL.join (o := 1) (s := 1) r1 (RL.done (o := 2) hl)))
  exact r
theorem cells121 : Tryz.prog.cellsOf 121 = 2 := by kernel_rfl
theorem open121 (z : Szd Tryz.prog S) : Opens enc Tryz.prog w sp held S 121 Spt.enc := by
  intro fuel cs d ps h hS
  obtain ⟨hl, hf⟩ := open_st z Tryz.underlying121 h hS
  rw [cells121] at hl
  obtain ⟨a0, r0⟩ := hf 0 0 3 _ rfl (open3 z)
  rw [cells3] at r0
  obtain ⟨a1, r1⟩ := hf 1 1 3 _ rfl (open3 z)
  rw [cells3] at r1
  refine ⟨⟨a0, a1⟩, ?_⟩
  have r := (RL.join (o := 0) (s := 1) r0 (RL.join (o := 1) (s := 1) r1 (RL.done (o := 2) hl)))
  exact r
theorem cells131 : Tryz.prog.cellsOf 131 = 8 := by kernel_rfl
theorem open131 (z : Szd Tryz.prog S) : Opens enc Tryz.prog w sp held S 131 File.enc := by
  intro fuel cs d ps h hS
  obtain ⟨hl, hf⟩ := open_st z Tryz.underlying131 h hS
  rw [cells131] at hl
  obtain ⟨a0, r0⟩ := hf 0 0 3 _ rfl (open3 z)
  rw [cells3] at r0
  obtain ⟨a1, r1⟩ := hf 1 1 121 _ rfl (open121 z)
  rw [cells121] at r1
  obtain ⟨a2, r2⟩ := hf 2 3 3 _ rfl (open3 z)
  rw [cells3] at r2
  obtain ⟨a3, r3⟩ := hf 3 4 3 _ rfl (open3 z)
  rw [cells3] at r3
  obtain ⟨a4, r4⟩ := hf 4 5 4 _ rfl (open4 z)
  rw [cells4] at r4
  obtain ⟨a5, r5⟩ := hf 5 6 4 _ rfl (open4 z)
  rw [cells4] at r5
  obtain ⟨a6, r6⟩ := hf 6 7 4 _ rfl (open4 z)
  rw [cells4] at r6
  refine ⟨⟨a0, a1, a2, a3, a4, a5, a6⟩, ?_⟩
  have r := (RL.join (o := 0) (s := 1) r0 (RL.join (o := 1) (s := 2) r1 (RL.join (o := 3) (s := 1) r2 (RL.join (o := 4) (s := 1) r3 (RL.join (o := 5) (s := 1) r4 (RL.join (o := 6) (s := 1) r5 (RL.join (o := 7) (s := 1) r6 (RL.done (o := 8) hl))))))))
  exact r
theorem cells32 : Tryz.prog.cellsOf 32 = 1 := by kernel_rfl
theorem open32 (z : Szd Tryz.prog S) : Opens enc Tryz.prog w sp held S 32 (fun x : List File => [.sl 8 (x.map File.enc)]) := open_sl z Tryz.underlying32 cells131 (of_decide_eq_true (by kernel_rfl)) (by decide) _ (open131 z)
theorem cells117 : Tryz.prog.cellsOf 117 = 3 := by kernel_rfl
theorem open117 (z : Szd Tryz.prog S) : Opens enc Tryz.prog w sp held S 117 Pipe.enc := by
  intro fuel cs d ps h hS
  obtain ⟨hl, hf⟩ := open_st z Tryz.underlying117 h hS
  rw [cells117] at hl
  obtain ⟨a0, r0⟩ := hf 0 0 9 _ rfl (open9 z)
  rw [cells9] at r0
  obtain ⟨a1, r1⟩ := hf 1 1 3 _ rfl (open3 z)
  rw [cells3] at r1
  obtain ⟨a2, r2⟩ := hf 2 2 3 _ rfl (open3 z)
  rw [cells3] at r2
  refine ⟨⟨a0, a1, a2⟩, ?_⟩
  have r := (RL.join (o := 0) (s := 1) r0 (RL.join (o := 1) (s := 1) r1 (RL.join (o := 2) (s := 1) r2 (RL.done (o := 3) hl))))
  exact r
theorem cells33 : Tryz.prog.cellsOf 33 = 1 := by kernel_rfl
theorem open33 (z : Szd Tryz.prog S) : Opens enc Tryz.prog w sp held S 33 (fun x : List Pipe => [.sl 3 (x.map Pipe.enc)]) := open_sl z Tryz.underlying33 cells117 (of_decide_eq_true (by kernel_rfl)) (by decide) _ (open117 z)
theorem cells119 : Tryz.prog.cellsOf 119 = 3 := by kernel_rfl
theorem open119 (z : Szd Tryz.prog S) : Opens enc Tryz.prog w sp held S 119 Cred.enc := by
  intro fuel cs d ps h hS
  obtain ⟨hl, hf⟩ := open_st z Tryz.underlying119 h hS
  rw [cells119] at hl
  obtain ⟨a0, r0⟩ := hf 0 0 3 _ rfl (open3 z)
  rw [cells3] at r0
  obtain ⟨a1, r1⟩ := hf 1 1 3 _ rfl (open3 z)
  rw [cells3] at r1
  obtain ⟨a2, r2⟩ := hf 2 2 23 _ rfl (open23 z)
  rw [cells23] at r2
  refine ⟨⟨a0, a1, a2⟩, ?_⟩
  have r := (RL.join (o := 0) (s := 1) r0 (RL.join (o := 1) (s := 1) r1 (RL.join (o := 2) (s := 1) r2 (RL.done (o := 3) hl))))
  exact r
theorem cells77 : Tryz.prog.cellsOf 77 = 1 := by kernel_rfl
theorem open77 (z : Szd Tryz.prog S) : Opens enc Tryz.prog w sp held S 77 (fun x : List Bool => [.sl 1 (x.map encB)]) := open_sl z Tryz.underlying77 cells4 (of_decide_eq_true (by kernel_rfl)) (by decide) _ (open4 z)
theorem cells120 : Tryz.prog.cellsOf 120 = 3 := by kernel_rfl
theorem open120 (z : Szd Tryz.prog S) : Opens enc Tryz.prog w sp held S 120 Sigs.enc := by
  intro fuel cs d ps h hS
  obtain ⟨hl, hf⟩ := open_st z Tryz.underlying120 h hS
  rw [cells120] at hl
  obtain ⟨a0, r0⟩ := hf 0 0 77 _ rfl (open77 z)
  rw [cells77] at r0
  obtain ⟨a1, r1⟩ := hf 1 1 77 _ rfl (open77 z)
  rw [cells77] at r1
  obtain ⟨a2, r2⟩ := hf 2 2 23 _ rfl (open23 z)
  rw [cells23] at r2
  refine ⟨⟨a0, a1, a2⟩, ?_⟩
  have r := (RL.join (o := 0) (s := 1) r0 (RL.join (o := 1) (s := 1) r1 (RL.join (o := 2) (s := 1) r2 (RL.done (o := 3) hl))))
  exact r
theorem cells123 : Tryz.prog.cellsOf 123 = 14 := by kernel_rfl
theorem open123 (z : Szd Tryz.prog S) : Opens enc Tryz.prog w sp held S 123 Proc.enc := by
  intro fuel cs d ps h hS
  obtain ⟨hl, hf⟩ := open_st z Tryz.underlying123 h hS
  rw [cells123] at hl
  obtain ⟨a0, r0⟩ := hf 0 0 3 _ rfl (open3 z)
  rw [cells3] at r0
  obtain ⟨a1, r1⟩ := hf 1 1 3 _ rfl (open3 z)
  rw [cells3] at r1
  obtain ⟨a2, r2⟩ := hf 2 2 3 _ rfl (open3 z)
  rw [cells3] at r2
  obtain ⟨a3, r3⟩ := hf 3 3 119 _ rfl (open119 z)
  rw [cells119] at r3
  obtain ⟨a4, r4⟩ := hf 4 6 3 _ rfl (open3 z)
  rw [cells3] at r4
  obtain ⟨a5, r5⟩ := hf 5 7 23 _ rfl (open23 z)
  rw [cells23] at r5
  obtain ⟨a6, r6⟩ := hf 6 8 120 _ rfl (open120 z)
  rw [cells120] at r6
  obtain ⟨a7, r7⟩ := hf 7 11 121 _ rfl (open121 z)
  rw [cells121] at r7
  obtain ⟨a8, r8⟩ := hf 8 13 3 _ rfl (open3 z)
  rw [cells3] at r8
  refine ⟨⟨a0, a1, a2, a3, a4, a5, a6, a7, a8⟩, ?_⟩
  have r := (RL.join (o := 0) (s := 1) r0 (RL.join (o := 1) (s := 1) r1 (RL.join (o := 2) (s := 1) r2 (RL.join (o := 3) (s := 3) r3 (RL.join (o := 6) (s := 1) r4 (RL.join (o := 7) (s := 1) r5 (RL.join (o := 8) (s := 3) r6 (RL.join (o := 11) (s := 2) r7 (RL.join (o := 13) (s := 1) r8 (RL.done (o := 14) hl))))))))))
  exact r
theorem cells34 : Tryz.prog.cellsOf 34 = 1 := by kernel_rfl
theorem open34 (z : Szd Tryz.prog S) : Opens enc Tryz.prog w sp held S 34 (fun x : List Proc => [.sl 14 (x.map Proc.enc)]) := open_sl z Tryz.underlying34 cells123 (of_decide_eq_true (by kernel_rfl)) (by decide) _ (open123 z)
theorem cells192 : Tryz.prog.cellsOf 192 = 4 := by kernel_rfl
theorem open192 (z : Szd Tryz.prog S) : Opens enc Tryz.prog w sp held S 192 Task.enc := by
  intro fuel cs d ps h hS
  obtain ⟨hl, hf⟩ := open_st z Tryz.underlying192 h hS
  rw [cells192] at hl
  obtain ⟨a0, r0⟩ := hf 0 0 3 _ rfl (open3 z)
  rw [cells3] at r0
  obtain ⟨a1, r1⟩ := hf 1 1 3 _ rfl (open3 z)
  rw [cells3] at r1
  obtain ⟨a2, r2⟩ := hf 2 2 3 _ rfl (open3 z)
  rw [cells3] at r2
  obtain ⟨a3, r3⟩ := hf 3 3 4 _ rfl (open4 z)
  rw [cells4] at r3
  refine ⟨⟨a0, a1, a2, a3⟩, ?_⟩
  have r := (RL.join (o := 0) (s := 1) r0 (RL.join (o := 1) (s := 1) r1 (RL.join (o := 2) (s := 1) r2 (RL.join (o := 3) (s := 1) r3 (RL.done (o := 4) hl)))))
  exact r
theorem cells35 : Tryz.prog.cellsOf 35 = 1 := by kernel_rfl
theorem open35 (z : Szd Tryz.prog S) : Opens enc Tryz.prog w sp held S 35 (fun x : List Task => [.sl 4 (x.map Task.enc)]) := open_sl z Tryz.underlying35 cells192 (of_decide_eq_true (by kernel_rfl)) (by decide) _ (open192 z)
theorem cells37 : Tryz.prog.cellsOf 37 = 2 := by kernel_rfl
theorem open37 (z : Szd Tryz.prog S) : Opens enc Tryz.prog w sp held S 37 Queue.enc := by
  intro fuel cs d ps h hS
  obtain ⟨hl, hf⟩ := open_st z Tryz.underlying37 h hS
  rw [cells37] at hl
  obtain ⟨a0, r0⟩ := hf 0 0 35 _ rfl (open35 z)
  rw [cells35] at r0
  obtain ⟨a1, r1⟩ := hf 1 1 3 _ rfl (open3 z)
  rw [cells3] at r1
  refine ⟨⟨a0, a1⟩, ?_⟩
  have r := (RL.join (o := 0) (s := 1) r0 (RL.join (o := 1) (s := 1) r1 (RL.done (o := 2) hl)))
  exact r
theorem cells39 : Tryz.prog.cellsOf 39 = 13 := by kernel_rfl
theorem open39 (z : Szd Tryz.prog S) : Opens enc Tryz.prog w sp held S 39 Kern.enc := by
  intro fuel cs d ps h hS
  obtain ⟨hl, hf⟩ := open_st z Tryz.underlying39 h hS
  rw [cells39] at hl
  obtain ⟨a0, r0⟩ := hf 0 0 28 _ rfl (open28 z)
  rw [cells28] at r0
  obtain ⟨a1, r1⟩ := hf 1 6 31 _ rfl (open31 z)
  rw [cells31] at r1
  obtain ⟨a2, r2⟩ := hf 2 8 32 _ rfl (open32 z)
  rw [cells32] at r2
  obtain ⟨a3, r3⟩ := hf 3 9 33 _ rfl (open33 z)
  rw [cells33] at r3
  obtain ⟨a4, r4⟩ := hf 4 10 34 _ rfl (open34 z)
  rw [cells34] at r4
  obtain ⟨a5, r5⟩ := hf 5 11 37 _ rfl (open37 z)
  rw [cells37] at r5
  refine ⟨⟨a0, a1, a2, a3, a4, a5⟩, ?_⟩
  have r := (RL.join (o := 0) (s := 6) r0 (RL.join (o := 6) (s := 2) r1 (RL.join (o := 8) (s := 1) r2 (RL.join (o := 9) (s := 1) r3 (RL.join (o := 10) (s := 1) r4 (RL.join (o := 11) (s := 2) r5 (RL.done (o := 13) hl)))))))
  exact r
end
end Go.Proofs.YtemoiphdjocaiaaGreat

namespace Go.Proofs.YtemoiphdjocaiaaGreat
open Go.Pv
open Go.RowKit (Below)
set_option maxRecDepth 100000

/-- What a call has made, beside what was there at the law's beginning. -/
def Mde (W w w' : World) : Fr := fun t b => There W t b ∨ (w.heap.size ≤ b ∧ b < w'.heap.size)
theorem there {W w : World} {v : Value} {p : PV} (h : RelF (There W) W v p) (hB : Below W.heap.size W w) : RelF (There W) w v p :=
  h.frame (fun _ _ h => h) fun b hb => hB.block b hb.2
theorem one_arg {F : Fr} {w : World} {v : Value} {p : PV} (h : RelF F w v p) : ∀ i, i < [p].length → RelF F w ((#[v] : Array Value).getD i Go.undef) ([p].getD i .undef) := by
  intro i hi
  obtain rfl : i = 0 := by simpa using hi
  exact h
theorem two_args {F : Fr} {w : World} {v u : Value} {p q : PV} (h : RelF F w v p) (h2 : RelF F w u q) : ∀ i, i < [p, q].length → RelF F w ((#[v, u] : Array Value).getD i Go.undef) ([p, q].getD i .undef) := by
  intro i hi
  match i, hi with
  | 0, _ => exact h
  | 1, _ => exact h2
theorem rel_int {F : Fr} {w : World} {v : Value} {k : IntKind} {n : Int} (h : RelF F w v (.int k n)) : v = .int k n := by cases h; rfl
theorem rel_bool {F : Fr} {w : World} {v : Value} {b : Bool} (h : RelF F w v (.bool b)) : v = .bool b := by cases h; rfl
theorem rel_aggv {F : Fr} {w : World} {v : Value} {ps : List PV} (h : RelF F w v (.agg ps)) : ∃ cs : Array Value, v = .agg cs ∧ cs.size = ps.length := by cases h with | agg cs _ hn _ => exact ⟨cs, rfl, hn⟩

theorem k6 {W w : World} {cs : Array Value} {x : Kern} (ha : RelF (There W) W (.agg cs) (.agg x.enc)) (hB : Below W.heap.size W w) :
    Calls Tryz.prog 6 #[.agg cs, .int .i64 1048576] w fun e w' => e = .returned (.int .i64 (szKern x 1048576)) ∧ Below w.heap.size w w' :=
  ((pc6 x 1048576).2 (There W) w _ (fun b hb => Nat.lt_of_lt_of_le hb.2 hB.size) rfl (two_args (there ha hB) (.int _ _))).mono fun e w' ⟨v, he, hv, hb⟩ => by
    obtain rfl := rel_int hv
    exact ⟨he, hb⟩
theorem k8 {W w : World} {cs : Array Value} {x : Kern} (hs : szdKern 1048576 x) (ha : RelF (There W) W (.agg cs) (.agg x.enc)) (hB : Below W.heap.size W w) :
    Calls Tryz.prog 8 #[.agg cs] w fun e w' => ∃ xs : Array Value, e = .returned (.agg xs) ∧ xs.size = 13 ∧ RelF (Mde W w w') w' (.agg xs) (.agg x.encF) ∧ Below w.heap.size w w' :=
  ((pc8 x hs).2 (There W) w _ (fun b hb => Nat.lt_of_lt_of_le hb.2 hB.size) rfl (one_arg (there ha hB))).mono fun e w' ⟨v, he, hv, hb⟩ => by
    obtain ⟨xs, rfl, hn⟩ := rel_aggv hv
    exact ⟨xs, he, hn, hv, hb⟩
theorem enc_of {F F' : Fr} {w : World} {v : Value} {x : Kern} (h : RelF F w v (.agg x.encF)) (hs : ∀ b, F true b → F' true b) : RelF F' w v (.agg x.enc) := by
  have := h.dn hs
  simp only [dn, dn_Kern] at this
  exact this
theorem k10 {F : Fr} {w : World} {xs ts : Array Value} {x : Kern} (h1 : RelF F w (.agg xs) (.agg x.enc)) (h2 : RelF F w (.agg ts) (.agg x.enc)) (hF : ∀ b, F true b → b < w.heap.size) :
    Calls Tryz.prog 10 #[.agg xs, .agg ts] w fun e w' => e = .returned (.bool true) ∧ Below w.heap.size w w' :=
  ((pc10 x).2 F w _ hF rfl (two_args h1 h2)).mono fun e w' ⟨v, he, hv, hb⟩ => by
    obtain rfl := rel_bool hv
    exact ⟨he, hb⟩
theorem k13 {F : Fr} {w : World} {u v : Value} {l : List Int} (h1 : RelF F w u (.sl 1 (l.map encI))) (h2 : RelF F w v (.sl 1 (l.map encI))) (hF : ∀ b, F true b → b < w.heap.size) :
    Calls Tryz.prog 13 #[u, v] w fun e w' => e = .returned (.bool true) ∧ Below w.heap.size w w' :=
  ((pc13 l).2 F w _ hF rfl (two_args h1 h2)).mono fun e w' ⟨v, he, hv, hb⟩ => by
    obtain rfl := rel_bool hv
    exact ⟨he, hb⟩
theorem k14 {F : Fr} {w : World} {lo hi : Nat} {xs : Array Value} {x : Kern} (hs : szdKern 1048576 x) (h : RelF F w (.agg xs) (.agg x.encF)) (hF : ∀ b, F true b → F false b → lo ≤ b ∧ b < hi) (hhi : hi ≤ w.heap.size) :
    Calls Tryz.prog 14 #[.agg xs, .int .i64 1] w fun e w' => ∃ k, 0 ≤ k ∧ e = .returned (.int .i64 k) ∧ Fx ⟨w, lo, hi⟩ w w' :=
  (mk14.2 ⟨w, lo, hi⟩ w (.agg xs) 1 (Kept.start hhi) rfl (RelF.ag hF h (cf_Kern x hs) G0 w)).mono fun e w' ⟨c, hc, he, _, hf⟩ => by
    refine ⟨_, ?_, he, hf⟩
    rw [IntKind.wrap_i64]
    omega
theorem k15 {F : Fr} {w : World} {lo hi : Nat} {v : Value} {l : List Int} (h : RelF F w v (.fs 1 (l.map encI))) (hl : l.length ≤ 1048576) (hF : ∀ b, F true b → F false b → lo ≤ b ∧ b < hi) :
    Calls Tryz.prog 15 #[v, .int .i64 1] w fun e w' => e = .returned (.int .i64 ((l.length : Int) + 1)) ∧ RelF F w' v (.sl 1 ((cntL l.length).map encI)) ∧ Fx ⟨w, lo, hi⟩ w w' := by
  generalize he : l.map encI = es at h
  have hel : es.length = l.length := by rw [← he, List.length_map]
  cases h with
  | fs0 a cap =>
    have : l.length = 0 := by rw [← hel]; rfl
    refine (mx15z w a cap).mono ?_
    rintro e w' ⟨rfl, rfl⟩
    rw [this]
    exact ⟨rfl, .sl0 _ _ _, Fx.refl _ _⟩
  | fs b off n cap _ _ f hb hw ha hn hc hL hz hv h =>
    have hnl : n = l.length := by omega
    subst hnl
    rcases Nat.eq_zero_or_pos l.length with h0 | hpos
    · rw [h0] at hn ⊢
      refine (mx15z w (some ⟨b, off, none⟩) cap).mono ?_
      rintro e w' ⟨rfl, rfl⟩
      exact ⟨rfl, .sl0 _ _ _, Fx.refl _ _⟩
    · obtain ⟨arr, T, ha⟩ := ha
      have hsz : off + l.length ≤ arr.size := by
        have := hv (l.length - 1) 0 (by omega) (by omega)
        simp only [World.cell?, ha] at this
        have := (Array.getElem?_eq_some_iff.1 (show arr[off + ((l.length - 1) * 1 + 0)]? = some _ by simpa using this)).1
        omega
      refine (mx15 w b off l.length cap hl ⟨arr, T, ha, hsz⟩).mono ?_
      rintro e w' ⟨rfl, m⟩
      obtain ⟨f1, f2⟩ := hF b hb hw
      refine ⟨rfl, ?_, m.os, m.tape, m.output, by rw [m.size]; exact Nat.le_refl _, fun c hc' hn' => m.other c fun e => hn' (by subst e; exact ⟨f1, f2⟩)⟩
      refine .sl b off l.length cap 1 _ (fun i _ => .int .i64 ((i : Int) + 1)) hb (by rw [List.length_map, cntL_len]) hc hL (fun i hi => ?_) (fun i j hi hj => ?_) (fun i j hi hj => ?_)
      · rw [getD_map_lt _ _ _ 0 _ (by rw [cntL_len]; exact hi)]; rfl
      · obtain rfl : j = 0 := by omega
        have := m.row i hi
        rw [Nat.mul_one]; exact this
      · obtain rfl : j = 0 := by omega
        rw [getD_map_lt _ _ _ 0 _ (by rw [cntL_len]; exact hi), cntL_get hi]
        exact .int _ _
theorem k16 {F : Fr} {w : World} {v : Value} {n : Nat} (h : RelF F w v (.sl 1 ((cntL n).map encI))) (hn : n ≤ 1048576) (hF : ∀ b, F true b → b < w.heap.size) :
    Calls Tryz.prog 16 #[v, .int .i64 1] w fun e w' => e = .returned (.int .i64 ((n : Int) + 1)) ∧ Below w.heap.size w w' :=
  ((pc16 n hn).2 F w _ hF rfl (two_args h (.int _ _))).mono fun e w' ⟨v, he, hv, hb⟩ => by
    obtain rfl := rel_int hv
    exact ⟨he, hb⟩
end Go.Proofs.YtemoiphdjocaiaaGreat

namespace Go.Proofs.YtemoiphdjocaiaaGreat
open Go.Pv
open Go.RowKit (Below)
set_option maxRecDepth 100000

/-- The law's own box is there, and what was there at its beginning. -/
structure Stg (W : World) (cs : Array Value) (w : World) : Prop where
  below : Below W.heap.size W w
  box : w.heap[W.heap.size]? = some (.cells cs 39 (0, 0))
theorem Stg.lt {W w : World} {cs : Array Value} (h : Stg W cs w) : W.heap.size < w.heap.size := (Array.getElem?_eq_some_iff.1 h.box).1
theorem Stg.first (W : World) (cs : Array Value) : Stg W cs (W.alloc (.cells cs 39)) :=
  ⟨(Below.refl _ _).alloc (Nat.le_refl _) _, by show (W.heap.push _)[W.heap.size]? = _; simp⟩
theorem Stg.next {W w w' : World} {cs : Array Value} (h : Stg W cs w) (hb : Below w.heap.size w w') : Stg W cs w' :=
  ⟨h.below.trans (hb.mono h.below.size), (hb.block _ h.lt).trans h.box⟩
theorem Stg.fx {W w w' u : World} {cs : Array Value} {lo hi : Nat} (h : Stg W cs w) (f : Fx ⟨u, lo, hi⟩ w w') (hl : W.heap.size < lo) : Stg W cs w' := by
  have hlt := h.lt
  have e : ∀ b, b ≤ W.heap.size → w'.heap[b]? = w.heap[b]? := fun b hb => f.block b (by omega) (fun h => by have : lo ≤ b := h.1; omega)
  exact ⟨⟨f.os.trans h.below.os, f.tape.trans h.below.tape, f.output.trans h.below.output, Nat.le_trans h.below.size f.size, fun b hb => (e b (by omega)).trans (h.below.block b hb)⟩, (e _ (Nat.le_refl _)).trans h.box⟩
theorem Stg.row {W w : World} {cs : Array Value} {b : Nat} {arr : Array Value} (h : Stg W cs w) (hb : W.heap.size < b) : Stg W cs (w.setRow b arr) :=
  ⟨⟨h.below.os, h.below.tape, h.below.output, by rw [setRow_size]; exact h.below.size, fun k hk => (setRow_ne (by omega)).trans (h.below.block k hk)⟩, (setRow_ne (by omega)).trans h.box⟩

/-- What is told of blocks below c. -/
theorem fr {F : Fr} {w w' : World} {v : Value} {p : PV} {c : Nat} (h : RelF F w v p) (hF : ∀ b, F true b → b < c) (hb : ∀ b, b < c → w'.heap[b]? = w.heap[b]?) : RelF F w' v p :=
  h.frame (fun _ _ h => h) fun b hb' => hb b (hF b hb')
def Upto (c : Nat) : Fr := fun _ b => b < c
def Btw (lo hi : Nat) : Fr := fun _ b => lo ≤ b ∧ b < hi
theorem up_next {w w' : World} {v : Value} {p : PV} {c : Nat} (h : RelF (Upto c) w v p) (hc : c ≤ w.heap.size) (hb : Below w.heap.size w w') : RelF (Upto c) w' v p :=
  fr h (fun _ h => h) fun b h => hb.block b (Nat.lt_of_lt_of_le h hc)
theorem up_fx {w w' u : World} {v : Value} {p : PV} {c lo hi : Nat} (h : RelF (Upto c) w v p) (hc : c ≤ w.heap.size) (f : Fx ⟨u, lo, hi⟩ w w') (hl : c ≤ lo) : RelF (Upto c) w' v p :=
  fr h (fun _ h => h) fun b h => f.block b (Nat.lt_of_lt_of_le h hc) (fun k => by have : lo ≤ b := k.1; omega)
theorem bt_next {w w' : World} {v : Value} {p : PV} {c d : Nat} (h : RelF (Btw c d) w v p) (hd : d ≤ w.heap.size) (hb : Below w.heap.size w w') : RelF (Btw c d) w' v p :=
  fr h (fun _ h => h.2) fun b h => hb.block b (Nat.lt_of_lt_of_le h hd)
theorem bt_fx {w w' u : World} {v : Value} {p : PV} {c d lo hi : Nat} (h : RelF (Btw c d) w v p) (hd : d ≤ w.heap.size) (f : Fx ⟨u, lo, hi⟩ w w') (hl : hi ≤ c) : RelF (Btw c d) w' v p :=
  h.frame (fun _ _ h => h) fun b h => f.block b (Nat.lt_of_lt_of_le h.2 hd) (fun k => by have : b < hi := k.2; have := h.1; omega)
/-- A new row of numbers lies in one new block. -/
theorem thin {F : Fr} {w : World} {v : Value} {l : List Int} {c d : Nat} (h : RelF F w v (.fs 1 (l.map encI))) (hF : ∀ b, F false b → c ≤ b ∧ b < d) : RelF (Btw c d) w v (.fs 1 (l.map encI)) := by
  generalize he : l.map encI = es at h ⊢
  cases h with
  | fs0 a cap => exact .fs0 _ _ _
  | fs b off n cap _ _ f hb hw ha hn hc hL hz hv h =>
    refine .fs b off n cap 1 es f (hF b hw) (hF b hw) ha hn hc hL hz hv fun i j hi hj => ?_
    have hq := h i j hi hj
    have hel : es.length = l.length := by rw [← he, List.length_map]
    obtain rfl : j = 0 := by omega
    have e : (es.getD i []).getD 0 .undef = .int .i64 (l.getD i 0) := by
      rw [← he, getD_map_lt _ _ _ 0 _ (by omega)]; rfl
    rw [e] at hq ⊢
    rw [rel_int hq]
    exact .int _ _
theorem dn_ints (l : List Int) : dn (.fs 1 (l.map encI)) = .sl 1 (l.map encI) := by rw [dn_row, dnE_enc encI encI (fun _ => rfl)]
theorem sl_of {F F' : Fr} {w : World} {v : Value} {l : List Int} (h : RelF F w v (.fs 1 (l.map encI))) (hs : ∀ b, F true b → F' true b) : RelF F' w v (.sl 1 (l.map encI)) := by
  have := h.dn hs
  rw [dn_ints] at this
  exact this
theorem mde_lt {W w w' : World} (h1 : W.heap.size ≤ w'.heap.size) : ∀ b, Mde W w w' true b → b < w'.heap.size := fun b h => h.elim (fun h => Nat.lt_of_lt_of_le h.2 h1) (·.2)
theorem mde_nw {W w w' : World} : ∀ b, Mde W w w' true b → Mde W w w' false b → w.heap.size ≤ b ∧ b < w'.heap.size := fun b _ h => h.elim (fun h => by cases h.1) id
theorem kern_cells {F : Fr} {w : World} {xs : Array Value} {x : Kern} (h : RelF F w (.agg xs) (.agg x.encF)) : ∀ u ∈ (Value.agg xs).cells.toList, u.oneCell' = true := by
  have hc := (RelV.frz (σ := []) h).cells (by rfl)
  intro u hu
  have hu : u ∈ xs.toList := hu
  obtain ⟨i, hi, rfl⟩ := List.getElem_of_mem hu
  have hi' : i < xs.size := by simpa using hi
  have h1 : xs.size = (cellsP (.agg x.encF)).length := hc.1
  have := (hc.2 i (by omega)).2
  have e : (Value.agg xs).cells.getD i Go.undef = xs.toList[i] := by
    show xs.getD i Go.undef = _
    simp [Array.getD, hi']
  rw [← e]; exact this
theorem arr_of {arr xs : Array Value} {k : Nat} (hs : arr.size = k) (hx : xs.size = k) (h : ∀ j, arr[j]? = if 0 ≤ j ∧ j < 0 + k then xs[j - 0]? else (none : Option Value)) : arr = xs := by
  apply Array.ext
  · omega
  · intro j h1 h2
    have := h j
    rw [if_pos ⟨Nat.zero_le _, by omega⟩] at this
    simpa [h1, h2] using this

/-- The region that makes the kernel anew and holds it against what was handed over; its order is drawn. -/
theorem draw10 {ops : Array Oper} {id : Nat} {Q : Exit → Act → World → Prop} {a : Act} {w W : World} {cs xs : Array Value} {x : Kern} {b2 n : Nat} {E Es : List (Nat × Value)} (s : SV n E a) (hn : decide (49 < n) = true)
    (hs : szdKern 1048576 x) (ha : RelF (There W) W (.agg cs) (.agg x.enc)) (hcs : cs.size = 13) (st : Stg W cs w) (hx : RelF (There w) w (.agg xs) (.agg x.enc)) (hxs : xs.size = 13) (hb2 : w.heap[b2]? = some (.cells xs 57 (0, 0)))
    {o0 o1 o2 o3 o4 : Oper} (h0 : ops[0]? = some o0) (h1 : ops[1]? = some o1) (h2 : ops[2]? = some o2) (h3 : ops[3]? = some o3) (h4 : ops[4]? = some o4)
    (e0 : o0.op = .load 57 (.tmp 8)) (e1 : o1.op = .load 39 (.tmp 2)) {c2 c3 : Call} (e2 : o2.op = .call c2) (e3 : o3.op = .call c3) {t4 : TypeId} (e4 : o4.op = .unOp .not t4 (.tmp 48))
    (k2 : c2.callee = .value (.func 8)) (k2a : c2.args.toList = [.tmp 46]) (k3 : c3.callee = .value (.func 10)) (k3a : c3.args.toList = [.tmp 45, .tmp 47])
    (d0 : o0.dst = some 45) (d1 : o1.dst = some 46) (d2 : o2.dst = some 47) (d3 : o3.dst = some 48) (d4 : o4.dst = some 49)
    (g0 : o0.guard = none) (g1 : o1.guard = none) (g2 : o2.guard = none) (g3 : o3.guard = none) (g4 : o4.guard = none)
    (r0 : Region.ready .any ops (Array.replicate ops.size false) = [0, 1]) (q5 : ops.size = 5)
    (r1 : Region.ready .any ops #[true, false, false, false, false] = [1]) (r2 : Region.ready .any ops #[false, true, false, false, false] = [0, 2]) (r3 : Region.ready .any ops #[true, true, false, false, false] = [2])
    (r4 : Region.ready .any ops #[false, true, true, false, false] = [0]) (r5 : Region.ready .any ops #[true, true, true, false, false] = [3]) (r6 : Region.ready .any ops #[true, true, true, true, false] = [4]) (r7 : Region.ready .any ops #[true, true, true, true, true] = [])
    (x2 : evV E (.tmp 2) = some (.pointer (some ⟨W.heap.size, 0, none⟩))) (x8 : evV E (.tmp 8) = some (.pointer (some ⟨b2, 0, none⟩)))
    (hE : ∀ y, y ∈ Es → lkV E y.1 = some y.2 ∧ (y.1 < 45 ∨ 49 < y.1))
    (hK : ∀ a' w', SV n ((49, .bool false) :: Es) a' → Below w.heap.size w w' → Q .normal a' w') : (Code.region id ops true).wp Tryz.prog Q a w := by
  have hn : 49 < n := of_decide_eq_true hn
  have gg : ∀ {o : Oper} {E : List (Nat × Value)}, o.guard = none → gdB ops E o = true := fun h => by unfold gdB; rw [h]
  have q0 : Array.replicate ops.size false = #[false, false, false, false, false] := by rw [q5]; rfl
  refine wp_region_any mixed ?_
  rw [q0] at r0 ⊢
  rw [q5]
  have bd : Below w.heap.size w { w with drawn := w.drawn + 1 } := ⟨rfl, rfl, rfl, Nat.le_refl _, fun _ _ => rfl⟩
  generalize ({ w with drawn := w.drawn + 1 } : World) = wd at bd
  have std := st.next bd
  have hbd : wd.heap[b2]? = some (.cells xs 57 (0, 0)) := (bd.block _ (Array.getElem?_eq_some_iff.1 hb2).1).trans hb2
  have in_one : ∀ {i j : Nat} {p : Nat → Prop}, p j → i ∈ [j] → p i := fun hp h => by simp at h; subst h; exact hp
  -- the two last operations
  have last : ∀ (E' : List (Nat × Value)) (a : Act) (ts : Array Value) (w' : World), SV n E' a → evL E' [.tmp 45, .tmp 47] = some [.agg xs, .agg ts] → (∀ y, y ∈ Es → lkV E' y.1 = some y.2) → Below wd.heap.size wd w' → RelF (Mde W wd w') w' (.agg ts) (.agg x.encF) →
      wpAny Tryz.prog .any ops Q 2 #[true, true, true, false, false] a w' := by
    intro E' a ts w' s ha45 hEs hb hts
    refine wpAny_all r5 (by simp) fun i hi => in_one (p := fun i => wpOp Tryz.prog ops Q i (wpAny Tryz.prog .any ops Q 1 (#[true, true, true, false, false].setIfInBounds i true)) a w') ?_ hi
    have hx' : RelF (There w') w' (.agg xs) (.agg x.enc) := (hx.frame (F' := There w') (fun t b h => ⟨h.1, Nat.lt_of_lt_of_le h.2 (Nat.le_trans bd.size hb.size)⟩) fun b h => (hb.block b (Nat.lt_of_lt_of_le h.2 bd.size)).trans (bd.block b h.2))
    have ht' : RelF (There w') w' (.agg ts) (.agg x.enc) := enc_of hts fun b h => ⟨rfl, mde_lt (Nat.le_trans std.below.size hb.size) b h⟩
    refine sv_call s h3 e3 (gg g3) d3 (decide_eq_true (show (48 : Nat) < n by omega)) k3 ⟨_, Tryz.func10, by kernel_rfl, rfl⟩ (by rw [k3a]; exact ha45) (k10 hx' ht' fun b h => h.2) ?_
    rintro e w'' ⟨rfl, hb'⟩
    refine ⟨_, rfl, fun a s => ?_⟩
    show wpAny Tryz.prog .any ops Q 1 #[true, true, true, true, false] a w''
    refine wpAny_all r6 (by simp) fun i hi => in_one (p := fun i => wpOp Tryz.prog ops Q i (wpAny Tryz.prog .any ops Q 0 (#[true, true, true, true, false].setIfInBounds i true)) a w'') ?_ hi
    refine sv_not s h4 e4 (gg g4) d4 (decide_eq_true (show (49 : Nat) < n by omega)) rfl fun a s => ?_
    show wpAny Tryz.prog .any ops Q 0 #[true, true, true, true, true] a w''
    refine ⟨r7, hK a w'' (s.sub fun y hy => ?_) (bd.trans ((hb.trans (hb'.mono hb.size)).mono bd.size))⟩
    rcases List.mem_cons.1 hy with rfl | hy
    · rfl
    · have k := (hE y hy).2
      have e1 : (y.1 == 49) = false := by simp; omega
      have e2 : (y.1 == 48) = false := by simp; omega
      simp only [lkV, e1, e2, cond_false]
      exact hEs y hy
  -- the call, after the load of what was handed to the law
  have mid : ∀ (E' : List (Nat × Value)) (a : Act), SV n E' a → lkV E' 46 = some (.agg cs) → (K : Act → World → Prop) → (∀ (a : Act) (ts : Array Value) (w' : World), SV n ((47, .agg ts) :: E') a → Below wd.heap.size wd w' → RelF (Mde W wd w') w' (.agg ts) (.agg x.encF) → K a w') →
      wpOp Tryz.prog ops Q 2 K a wd := by
    intro E' a s h46 K hK'
    refine sv_call (vs := [.agg cs]) s h2 e2 (gg g2) d2 (decide_eq_true (show (47 : Nat) < n by omega)) k2 ⟨_, Tryz.func8, by kernel_rfl, rfl⟩ (by rw [k2a]; simp only [evL, evV, h46]) (k8 hs ha std.below) ?_
    rintro e w' ⟨ts, rfl, hl, hts, hb⟩
    exact ⟨_, rfl, fun a s => hK' a ts w' s hb hts⟩
  have ne : ∀ {y : Nat × Value} {t : Nat}, y ∈ Es → 45 ≤ t → t ≤ 49 → (y.1 == t) = false := fun hy h1 h2 => by
    have := (hE _ hy).2
    simp; omega
  refine wpAny_all r0 (by simp) fun i hi => ?_
  simp only [List.mem_cons, List.not_mem_nil, or_false] at hi
  rcases hi with rfl | rfl
  · refine sv_load ty57 rfl s h0 e0 (gg g0) d0 (decide_eq_true (show (45 : Nat) < n by omega)) x8 hbd hxs fun a s => ?_
    show wpAny Tryz.prog .any ops Q 4 #[true, false, false, false, false] a wd
    refine wpAny_all r1 (by simp) fun i hi => in_one (p := fun i => wpOp Tryz.prog ops Q i (wpAny Tryz.prog .any ops Q 3 (#[true, false, false, false, false].setIfInBounds i true)) a wd) ?_ hi
    refine sv_load ty39 rfl s h1 e1 (gg g1) d1 (decide_eq_true (show (46 : Nat) < n by omega)) x2 std.box hcs fun a s => ?_
    show wpAny Tryz.prog .any ops Q 3 #[true, true, false, false, false] a wd
    refine wpAny_all r3 (by simp) fun i hi => in_one (p := fun i => wpOp Tryz.prog ops Q i (wpAny Tryz.prog .any ops Q 2 (#[true, true, false, false, false].setIfInBounds i true)) a wd) ?_ hi
    refine mid _ a s rfl _ fun a ts w' s hb hts => ?_
    refine last _ a ts w' s rfl (fun y hy => ?_) hb hts
    simp only [lkV, ne hy (t := 47) (by omega) (by omega), ne hy (t := 46) (by omega) (by omega), ne hy (t := 45) (by omega) (by omega), cond_false]
    exact (hE y hy).1
  · refine sv_load ty39 rfl s h1 e1 (gg g1) d1 (decide_eq_true (show (46 : Nat) < n by omega)) x2 std.box hcs fun a s => ?_
    show wpAny Tryz.prog .any ops Q 4 #[false, true, false, false, false] a wd
    refine wpAny_all r2 (by simp) fun i hi => ?_
    simp only [List.mem_cons, List.not_mem_nil, or_false] at hi
    rcases hi with rfl | rfl
    · refine sv_load ty57 rfl s h0 e0 (gg g0) d0 (decide_eq_true (show (45 : Nat) < n by omega)) x8 hbd hxs fun a s => ?_
      show wpAny Tryz.prog .any ops Q 3 #[true, true, false, false, false] a wd
      refine wpAny_all r3 (by simp) fun i hi => in_one (p := fun i => wpOp Tryz.prog ops Q i (wpAny Tryz.prog .any ops Q 2 (#[true, true, false, false, false].setIfInBounds i true)) a wd) ?_ hi
      refine mid _ a s rfl _ fun a ts w' s hb hts => ?_
      refine last _ a ts w' s rfl (fun y hy => ?_) hb hts
      simp only [lkV, ne hy (t := 47) (by omega) (by omega), ne hy (t := 46) (by omega) (by omega), ne hy (t := 45) (by omega) (by omega), cond_false]
      exact (hE y hy).1
    · refine mid _ a s rfl _ fun a ts w' s hb hts => ?_
      show wpAny Tryz.prog .any ops Q 3 #[false, true, true, false, false] a w'
      refine wpAny_all r4 (by simp) fun i hi => in_one (p := fun i => wpOp Tryz.prog ops Q i (wpAny Tryz.prog .any ops Q 2 (#[false, true, true, false, false].setIfInBounds i true)) a w') ?_ hi
      refine sv_load ty57 rfl s h0 e0 (gg g0) d0 (decide_eq_true (show (45 : Nat) < n by omega)) x8 ((hb.block _ (Array.getElem?_eq_some_iff.1 hbd).1).trans hbd) hxs fun a s => ?_
      refine last _ a ts w' s rfl (fun y hy => ?_) hb hts
      simp only [lkV, ne hy (t := 47) (by omega) (by omega), ne hy (t := 46) (by omega) (by omega), ne hy (t := 45) (by omega) (by omega), cond_false]
      exact (hE y hy).1
end Go.Proofs.YtemoiphdjocaiaaGreat
