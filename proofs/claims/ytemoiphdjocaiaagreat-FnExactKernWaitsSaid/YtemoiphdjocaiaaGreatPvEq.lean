/-
  What the laws' functions of equality answer of a thing and itself, and what is held. Conditions: none.
-/
import Derived.Test.YtemoiphdjocaiaaGreatPvTy
import Derived.Test.YtemoiphdjocaiaaGreatPvKern
import Derived.Test.YtemoiphdjocaiaaGreatPvSimp
set_option linter.all false
set_option linter.unusedSimpArgs false
set_option linter.unusedVariables false
namespace Go.Proofs.YtemoiphdjocaiaaGreat
open Go.Pv
set_option linter.unusedSimpArgs false
set_option maxRecDepth 100000
set_option maxHeartbeats 4000000

theorem tk_len {α : Type} (f : α → List PV) (z : List PV) (x : List α) {i : Nat} (h : i ≤ x.length) : ((x.take i).map f ++ List.replicate (x.length - i) z).length = x.length := by
  rw [List.length_append, List.length_map, List.length_take, List.length_replicate]; omega
theorem tk_0 {α : Type} (f : α → List PV) (z : List PV) (x : List α) : List.replicate x.length z = (x.take 0).map f ++ List.replicate (x.length - 0) z := by simp
theorem tk_get {α : Type} (f : α → List PV) (z : List PV) (x : List α) {i : Nat} (h : i < x.length) : ((x.take i).map f ++ List.replicate (x.length - i) z).getD i [] = z := by
  have hl : ((x.take i).map f).length = i := by rw [List.length_map, List.length_take]; omega
  simp only [List.getD]
  rw [List.getElem?_append_right (by omega), hl, List.getElem?_replicate, if_pos (by omega)]; rfl
theorem tk_S {α : Type} (f : α → List PV) (z : List PV) (x : List α) (d : α) {i sz : Nat} (h : i < x.length) (hz : z.length ≤ sz) :
    ((x.take i).map f ++ List.replicate (x.length - i) z).set i (f (x.getD i d) ++ List.drop sz (((x.take i).map f ++ List.replicate (x.length - i) z).getD i [])) = (x.take (i + 1)).map f ++ List.replicate (x.length - (i + 1)) z := by
  rw [tk_get f z x h, List.drop_of_length_le hz, List.append_nil]
  have hl : ((x.take i).map f).length = i := by rw [List.length_map, List.length_take]; omega
  rw [List.set_append_right _ _ (by omega), hl, Nat.sub_self, List.take_add_one, List.map_append, List.append_assoc]
  congr 1
  rw [show x.length - i = (x.length - (i + 1)) + 1 by omega, List.replicate_succ, List.set_cons_zero]
  have : x[i]? = some (x.getD i d) := by simp [List.getD, h]
  rw [this]; rfl
theorem tk_hb {α : Type} (f : α → List PV) (z : List PV) (x : List α) (k m : Nat) (hf : ∀ a, hbL m (f a) = true) (hz : hbL m z = true) : ((x.map f ++ List.replicate k z).all fun e => hbL m e) = true := by
  rw [List.all_append, Bool.and_eq_true]
  refine ⟨List.all_eq_true.2 fun e he => ?_, List.all_eq_true.2 fun e he => ?_⟩
  · obtain ⟨a, _, rfl⟩ := List.mem_map.1 he
    exact hf a
  · rw [List.eq_of_mem_replicate he]; exact hz
theorem tk_E {α : Type} (f : α → List PV) (z : List PV) (x : List α) (H : Heap) (n : Nat) (he : ∀ a, (f a).map (expo .sl H n) = f a) : List.map (fun e => List.map (expo .sl H n) e) (((x.take x.length).map f ++ List.replicate (x.length - x.length) z).take x.length) = x.map f := by
  rw [List.take_length, Nat.sub_self, List.replicate_zero, List.append_nil, List.take_of_length_le (by rw [List.length_map]; omega), List.map_map]
  exact List.map_congr_left fun a _ => he a

def an126 : List PV → PV := fun _ => .bool true
theorem pc126 (x : List ByteArray) : PC Tryz.prog 126 [.sl 1 (x.map encS), .sl 1 (x.map encS)] (.bool true) := by
  refine PC.of_vc mixed (phiOf []) Tryz.func126 (by kernel_rfl) (rfl : Tryz.f126.body = some _) Tryz.ntmps126 (by kernel_rfl) rfl (by kernel_rfl) Tryz.results126 fun hwf => ?_
  simp only [pvB, ↓pvP, pvDom, pvRr, pvEe, Nat.reduceAdd, Nat.reduceEqDiff, Nat.reduceLeDiff, Nat.reduceLT, Nat.reduceSub, reduceIte, reduceCtorEq, pvI, Int.reduceToNat, Int.reduceLE, Int.reduceLT, Int.reduceMul, Int.reduceAdd, Int.reduceGT, Int.reduceGE, Int.reduceEq, pvY, Nat.reduceMul, rCell, x_be, x_bn, bbE]
  have hw : x.length ≤ 140737488355328 := by
    have h := hwf.1.1
    rw [List.length_map] at h
    exact h
  clear hwf
  refine .inl ⟨[0, 1, 5], fun _ => 0, fun k vs H => ∃ i : Nat, i ≤ x.length ∧ k = x.length - i ∧ vs = [.sl 1 (x.map encS), .sl 1 (x.map encS), .int .i64 i] ∧ H = [], fun _ => Nat.zero_le _, ?_, ?_⟩
  · simp only [pvB, ↓pvP, pvDom, pvRr, pvEe, Nat.reduceAdd, Nat.reduceEqDiff, Nat.reduceLeDiff, Nat.reduceLT, Nat.reduceSub, reduceIte, reduceCtorEq, pvI, Int.reduceToNat, Int.reduceLE, Int.reduceLT, Int.reduceMul, Int.reduceAdd, Int.reduceGT, Int.reduceGE, Int.reduceEq, pvY, Nat.reduceMul, rCell, x_be, x_bn, bbE]
    exact ⟨_, 0, Nat.zero_le _, rfl, rfl⟩
  · rintro k vs H - ⟨i, hi, rfl, rfl, rfl⟩
    simp only [pvB, ↓pvP, pvDom, pvRr, pvEe, Nat.reduceAdd, Nat.reduceEqDiff, Nat.reduceLeDiff, Nat.reduceLT, Nat.reduceSub, reduceIte, reduceCtorEq, pvI, Int.reduceToNat, Int.reduceLE, Int.reduceLT, Int.reduceMul, Int.reduceAdd, Int.reduceGT, Int.reduceGE, Int.reduceEq, pvY, Nat.reduceMul, rCell, x_be, x_bn, bbE]
    refine ⟨fun h => ?_, fun _ => Le.refl _⟩
    have h1 : i < x.length := dlt h
    exact ⟨in_of i h1, in_of i h1, _, by omega, i + 1, h1, rfl, by rw [w_add (by omega)]⟩

def an13 : List PV → PV := fun _ => .bool true
theorem pc13 (x : List Int) : PC Tryz.prog 13 [.sl 1 (x.map encI), .sl 1 (x.map encI)] (.bool true) := by
  refine PC.of_vc mixed (phiOf []) Tryz.func13 (by kernel_rfl) (rfl : Tryz.f13.body = some _) Tryz.ntmps13 (by kernel_rfl) rfl (by kernel_rfl) Tryz.results13 fun hwf => ?_
  simp only [pvB, ↓pvP, pvDom, pvRr, pvEe, Nat.reduceAdd, Nat.reduceEqDiff, Nat.reduceLeDiff, Nat.reduceLT, Nat.reduceSub, reduceIte, reduceCtorEq, pvI, Int.reduceToNat, Int.reduceLE, Int.reduceLT, Int.reduceMul, Int.reduceAdd, Int.reduceGT, Int.reduceGE, Int.reduceEq, pvY, Nat.reduceMul, rCell, x_be, x_bn, bbE]
  have hw : x.length ≤ 140737488355328 := by
    have h := hwf.1.1
    rw [List.length_map] at h
    exact h
  clear hwf
  refine .inl ⟨[0, 1, 5], fun _ => 0, fun k vs H => ∃ i : Nat, i ≤ x.length ∧ k = x.length - i ∧ vs = [.sl 1 (x.map encI), .sl 1 (x.map encI), .int .i64 i] ∧ H = [], fun _ => Nat.zero_le _, ?_, ?_⟩
  · simp only [pvB, ↓pvP, pvDom, pvRr, pvEe, Nat.reduceAdd, Nat.reduceEqDiff, Nat.reduceLeDiff, Nat.reduceLT, Nat.reduceSub, reduceIte, reduceCtorEq, pvI, Int.reduceToNat, Int.reduceLE, Int.reduceLT, Int.reduceMul, Int.reduceAdd, Int.reduceGT, Int.reduceGE, Int.reduceEq, pvY, Nat.reduceMul, rCell, x_be, x_bn, bbE]
    exact ⟨_, 0, Nat.zero_le _, rfl, rfl⟩
  · rintro k vs H - ⟨i, hi, rfl, rfl, rfl⟩
    simp only [pvB, ↓pvP, pvDom, pvRr, pvEe, Nat.reduceAdd, Nat.reduceEqDiff, Nat.reduceLeDiff, Nat.reduceLT, Nat.reduceSub, reduceIte, reduceCtorEq, pvI, Int.reduceToNat, Int.reduceLE, Int.reduceLT, Int.reduceMul, Int.reduceAdd, Int.reduceGT, Int.reduceGE, Int.reduceEq, pvY, Nat.reduceMul, rCell, x_be, x_bn, bbE]
    refine ⟨fun h => ?_, fun _ => Le.refl _⟩
    have h1 : i < x.length := dlt h
    exact ⟨in_of i h1, in_of i h1, _, by omega, i + 1, h1, rfl, by rw [w_add (by omega)]⟩

def an168 : List PV → PV := fun _ => .bool true
theorem pc168 (x : List Bool) : PC Tryz.prog 168 [.sl 1 (x.map encB), .sl 1 (x.map encB)] (.bool true) := by
  refine PC.of_vc mixed (phiOf []) Tryz.func168 (by kernel_rfl) (rfl : Tryz.f168.body = some _) Tryz.ntmps168 (by kernel_rfl) rfl (by kernel_rfl) Tryz.results168 fun hwf => ?_
  simp only [pvB, ↓pvP, pvDom, pvRr, pvEe, Nat.reduceAdd, Nat.reduceEqDiff, Nat.reduceLeDiff, Nat.reduceLT, Nat.reduceSub, reduceIte, reduceCtorEq, pvI, Int.reduceToNat, Int.reduceLE, Int.reduceLT, Int.reduceMul, Int.reduceAdd, Int.reduceGT, Int.reduceGE, Int.reduceEq, pvY, Nat.reduceMul, rCell, x_be, x_bn, bbE]
  have hw : x.length ≤ 140737488355328 := by
    have h := hwf.1.1
    rw [List.length_map] at h
    exact h
  clear hwf
  refine .inl ⟨[0, 1, 5], fun _ => 0, fun k vs H => ∃ i : Nat, i ≤ x.length ∧ k = x.length - i ∧ vs = [.sl 1 (x.map encB), .sl 1 (x.map encB), .int .i64 i] ∧ H = [], fun _ => Nat.zero_le _, ?_, ?_⟩
  · simp only [pvB, ↓pvP, pvDom, pvRr, pvEe, Nat.reduceAdd, Nat.reduceEqDiff, Nat.reduceLeDiff, Nat.reduceLT, Nat.reduceSub, reduceIte, reduceCtorEq, pvI, Int.reduceToNat, Int.reduceLE, Int.reduceLT, Int.reduceMul, Int.reduceAdd, Int.reduceGT, Int.reduceGE, Int.reduceEq, pvY, Nat.reduceMul, rCell, x_be, x_bn, bbE]
    exact ⟨_, 0, Nat.zero_le _, rfl, rfl⟩
  · rintro k vs H - ⟨i, hi, rfl, rfl, rfl⟩
    simp only [pvB, ↓pvP, pvDom, pvRr, pvEe, Nat.reduceAdd, Nat.reduceEqDiff, Nat.reduceLeDiff, Nat.reduceLT, Nat.reduceSub, reduceIte, reduceCtorEq, pvI, Int.reduceToNat, Int.reduceLE, Int.reduceLT, Int.reduceMul, Int.reduceAdd, Int.reduceGT, Int.reduceGE, Int.reduceEq, pvY, Nat.reduceMul, rCell, x_be, x_bn, bbE]
    refine ⟨fun h => ?_, fun _ => Le.refl _⟩
    have h1 : i < x.length := dlt h
    exact ⟨in_of i h1, in_of i h1, _, by omega, i + 1, h1, rfl, by rw [w_add (by omega)]⟩

def an197 : List PV → PV := fun _ => .bool true
theorem pc197 (x : Entry) : PC Tryz.prog 197 [.agg [.str x.name, .int .i64 x.id], .agg [.str x.name, .int .i64 x.id]] (.bool true) := by
  refine PC.of_vc mixed (phiOf []) Tryz.func197 (by kernel_rfl) (rfl : Tryz.f197.body = some _) Tryz.ntmps197 (by kernel_rfl) rfl (by kernel_rfl) Tryz.results197 fun hwf => ?_
  simp only [pvB, ↓pvP, pvDom, pvRr, pvEe, Nat.reduceAdd, Nat.reduceEqDiff, Nat.reduceLeDiff, Nat.reduceLT, Nat.reduceSub, reduceIte, reduceCtorEq, pvI, Int.reduceToNat, Int.reduceLE, Int.reduceLT, Int.reduceMul, Int.reduceAdd, Int.reduceGT, Int.reduceGE, Int.reduceEq, pvY, Nat.reduceMul, rCell, x_be, x_bn, bbE]
  exact Le.refl _

def an194 : List PV → PV := fun _ => .bool true
theorem pc194 (x : List Entry) : PC Tryz.prog 194 [.sl 2 (x.map Entry.enc), .sl 2 (x.map Entry.enc)] (.bool true) := by
  refine PC.of_vc mixed (phiOf [(197, an197)]) Tryz.func194 (by kernel_rfl) (rfl : Tryz.f194.body = some _) Tryz.ntmps194 (by kernel_rfl) rfl (by kernel_rfl) Tryz.results194 fun hwf => ?_
  simp only [pvB, ↓pvP, pvDom, pvRr, pvEe, Nat.reduceAdd, Nat.reduceEqDiff, Nat.reduceLeDiff, Nat.reduceLT, Nat.reduceSub, reduceIte, reduceCtorEq, an197, pc197, pvI, Int.reduceToNat, Int.reduceLE, Int.reduceLT, Int.reduceMul, Int.reduceAdd, Int.reduceGT, Int.reduceGE, Int.reduceEq, pvY, Nat.reduceMul, rCell, x_be, x_bn, bbE]
  have hw : x.length ≤ 140737488355328 := by
    have h := hwf.1.1
    rw [List.length_map] at h
    exact h
  clear hwf
  refine .inl ⟨[0, 1, 5], fun _ => 0, fun k vs H => ∃ i : Nat, i ≤ x.length ∧ k = x.length - i ∧ vs = [.sl 2 (x.map Entry.enc), .sl 2 (x.map Entry.enc), .int .i64 i] ∧ H = [], fun _ => Nat.zero_le _, ?_, ?_⟩
  · simp only [pvB, ↓pvP, pvDom, pvRr, pvEe, Nat.reduceAdd, Nat.reduceEqDiff, Nat.reduceLeDiff, Nat.reduceLT, Nat.reduceSub, reduceIte, reduceCtorEq, pvI, Int.reduceToNat, Int.reduceLE, Int.reduceLT, Int.reduceMul, Int.reduceAdd, Int.reduceGT, Int.reduceGE, Int.reduceEq, pvY, Nat.reduceMul, rCell, x_be, x_bn, bbE]
    exact ⟨_, 0, Nat.zero_le _, rfl, rfl⟩
  · rintro k vs H - ⟨i, hi, rfl, rfl, rfl⟩
    simp only [pvB, ↓pvP, pvDom, pvRr, pvEe, Nat.reduceAdd, Nat.reduceEqDiff, Nat.reduceLeDiff, Nat.reduceLT, Nat.reduceSub, reduceIte, reduceCtorEq, pvI, Int.reduceToNat, Int.reduceLE, Int.reduceLT, Int.reduceMul, Int.reduceAdd, Int.reduceGT, Int.reduceGE, Int.reduceEq, pvY, Nat.reduceMul, rCell, x_be, x_bn, bbE, an197, pc197]
    refine ⟨fun h => ?_, fun _ => Le.refl _⟩
    have h1 : i < x.length := dlt h
    exact ⟨in_of i h1, in_of i h1, _, by omega, i + 1, h1, rfl, by rw [w_add (by omega)]⟩

def an187 : List PV → PV := fun _ => .bool true
theorem pc187 (x : Inode) : PC Tryz.prog 187 [.agg [.int .i64 x.kind, .int .i64 x.mode, .int .i64 x.owner, .int .i64 x.group, .int .i64 x.links, .int .i64 x.opens, .bool x.mark, .str x.text, .sl 2 (x.names.map Entry.enc)], .agg [.int .i64 x.kind, .int .i64 x.mode, .int .i64 x.owner, .int .i64 x.group, .int .i64 x.links, .int .i64 x.opens, .bool x.mark, .str x.text, .sl 2 (x.names.map Entry.enc)]] (.bool true) := by
  refine PC.of_vc mixed (phiOf [(194, an194)]) Tryz.func187 (by kernel_rfl) (rfl : Tryz.f187.body = some _) Tryz.ntmps187 (by kernel_rfl) rfl (by kernel_rfl) Tryz.results187 fun hwf => ?_
  simp only [pvB, ↓pvP, pvDom, pvRr, pvEe, Nat.reduceAdd, Nat.reduceEqDiff, Nat.reduceLeDiff, Nat.reduceLT, Nat.reduceSub, reduceIte, reduceCtorEq, an194, pc194, pvI, Int.reduceToNat, Int.reduceLE, Int.reduceLT, Int.reduceMul, Int.reduceAdd, Int.reduceGT, Int.reduceGE, Int.reduceEq, pvY, Nat.reduceMul, rCell, x_be, x_bn, bbE]
  exact Le.refl _

def an167 : List PV → PV := fun _ => .bool true
theorem pc167 (x : List Inode) : PC Tryz.prog 167 [.sl 9 (x.map Inode.enc), .sl 9 (x.map Inode.enc)] (.bool true) := by
  refine PC.of_vc mixed (phiOf [(187, an187)]) Tryz.func167 (by kernel_rfl) (rfl : Tryz.f167.body = some _) Tryz.ntmps167 (by kernel_rfl) rfl (by kernel_rfl) Tryz.results167 fun hwf => ?_
  simp only [pvB, ↓pvP, pvDom, pvRr, pvEe, Nat.reduceAdd, Nat.reduceEqDiff, Nat.reduceLeDiff, Nat.reduceLT, Nat.reduceSub, reduceIte, reduceCtorEq, an187, pc187, pvI, Int.reduceToNat, Int.reduceLE, Int.reduceLT, Int.reduceMul, Int.reduceAdd, Int.reduceGT, Int.reduceGE, Int.reduceEq, pvY, Nat.reduceMul, rCell, x_be, x_bn, bbE]
  have hw : x.length ≤ 140737488355328 := by
    have h := hwf.1.1
    rw [List.length_map] at h
    exact h
  clear hwf
  refine .inl ⟨[0, 1, 5], fun _ => 0, fun k vs H => ∃ i : Nat, i ≤ x.length ∧ k = x.length - i ∧ vs = [.sl 9 (x.map Inode.enc), .sl 9 (x.map Inode.enc), .int .i64 i] ∧ H = [], fun _ => Nat.zero_le _, ?_, ?_⟩
  · simp only [pvB, ↓pvP, pvDom, pvRr, pvEe, Nat.reduceAdd, Nat.reduceEqDiff, Nat.reduceLeDiff, Nat.reduceLT, Nat.reduceSub, reduceIte, reduceCtorEq, pvI, Int.reduceToNat, Int.reduceLE, Int.reduceLT, Int.reduceMul, Int.reduceAdd, Int.reduceGT, Int.reduceGE, Int.reduceEq, pvY, Nat.reduceMul, rCell, x_be, x_bn, bbE]
    exact ⟨_, 0, Nat.zero_le _, rfl, rfl⟩
  · rintro k vs H - ⟨i, hi, rfl, rfl, rfl⟩
    simp only [pvB, ↓pvP, pvDom, pvRr, pvEe, Nat.reduceAdd, Nat.reduceEqDiff, Nat.reduceLeDiff, Nat.reduceLT, Nat.reduceSub, reduceIte, reduceCtorEq, pvI, Int.reduceToNat, Int.reduceLE, Int.reduceLT, Int.reduceMul, Int.reduceAdd, Int.reduceGT, Int.reduceGE, Int.reduceEq, pvY, Nat.reduceMul, rCell, x_be, x_bn, bbE, an187, pc187]
    refine ⟨fun h => ?_, fun _ => Le.refl _⟩
    have h1 : i < x.length := dlt h
    exact ⟨in_of i h1, in_of i h1, _, by omega, i + 1, h1, rfl, by rw [w_add (by omega)]⟩

def an128 : List PV → PV := fun _ => .bool true
theorem pc128 (x : Fs) : PC Tryz.prog 128 [.agg [.sl 9 (x.nodes.map Inode.enc)], .agg [.sl 9 (x.nodes.map Inode.enc)]] (.bool true) := by
  refine PC.of_vc mixed (phiOf [(167, an167)]) Tryz.func128 (by kernel_rfl) (rfl : Tryz.f128.body = some _) Tryz.ntmps128 (by kernel_rfl) rfl (by kernel_rfl) Tryz.results128 fun hwf => ?_
  simp only [pvB, ↓pvP, pvDom, pvRr, pvEe, Nat.reduceAdd, Nat.reduceEqDiff, Nat.reduceLeDiff, Nat.reduceLT, Nat.reduceSub, reduceIte, reduceCtorEq, an167, pc167, pvI, Int.reduceToNat, Int.reduceLE, Int.reduceLT, Int.reduceMul, Int.reduceAdd, Int.reduceGT, Int.reduceGE, Int.reduceEq, pvY, Nat.reduceMul, rCell, x_be, x_bn, bbE]
  exact Le.refl _

def an81 : List PV → PV := fun _ => .bool true
theorem pc81 (x : List Fs) : PC Tryz.prog 81 [.sl 1 (x.map Fs.enc), .sl 1 (x.map Fs.enc)] (.bool true) := by
  refine PC.of_vc mixed (phiOf [(128, an128)]) Tryz.func81 (by kernel_rfl) (rfl : Tryz.f81.body = some _) Tryz.ntmps81 (by kernel_rfl) rfl (by kernel_rfl) Tryz.results81 fun hwf => ?_
  simp only [pvB, ↓pvP, pvDom, pvRr, pvEe, Nat.reduceAdd, Nat.reduceEqDiff, Nat.reduceLeDiff, Nat.reduceLT, Nat.reduceSub, reduceIte, reduceCtorEq, an128, pc128, pvI, Int.reduceToNat, Int.reduceLE, Int.reduceLT, Int.reduceMul, Int.reduceAdd, Int.reduceGT, Int.reduceGE, Int.reduceEq, pvY, Nat.reduceMul, rCell, x_be, x_bn, bbE]
  have hw : x.length ≤ 140737488355328 := by
    have h := hwf.1.1
    rw [List.length_map] at h
    exact h
  clear hwf
  refine .inl ⟨[0, 1, 5], fun _ => 0, fun k vs H => ∃ i : Nat, i ≤ x.length ∧ k = x.length - i ∧ vs = [.sl 1 (x.map Fs.enc), .sl 1 (x.map Fs.enc), .int .i64 i] ∧ H = [], fun _ => Nat.zero_le _, ?_, ?_⟩
  · simp only [pvB, ↓pvP, pvDom, pvRr, pvEe, Nat.reduceAdd, Nat.reduceEqDiff, Nat.reduceLeDiff, Nat.reduceLT, Nat.reduceSub, reduceIte, reduceCtorEq, pvI, Int.reduceToNat, Int.reduceLE, Int.reduceLT, Int.reduceMul, Int.reduceAdd, Int.reduceGT, Int.reduceGE, Int.reduceEq, pvY, Nat.reduceMul, rCell, x_be, x_bn, bbE]
    exact ⟨_, 0, Nat.zero_le _, rfl, rfl⟩
  · rintro k vs H - ⟨i, hi, rfl, rfl, rfl⟩
    simp only [pvB, ↓pvP, pvDom, pvRr, pvEe, Nat.reduceAdd, Nat.reduceEqDiff, Nat.reduceLeDiff, Nat.reduceLT, Nat.reduceSub, reduceIte, reduceCtorEq, pvI, Int.reduceToNat, Int.reduceLE, Int.reduceLT, Int.reduceMul, Int.reduceAdd, Int.reduceGT, Int.reduceGE, Int.reduceEq, pvY, Nat.reduceMul, rCell, x_be, x_bn, bbE, an128, pc128]
    refine ⟨fun h => ?_, fun _ => Le.refl _⟩
    have h1 : i < x.length := dlt h
    exact ⟨in_of i h1, in_of i h1, _, by omega, i + 1, h1, rfl, by rw [w_add (by omega)]⟩

def an39 : List PV → PV := fun _ => .bool true
theorem pc39 (x : Vfs) : PC Tryz.prog 39 [.agg [.sl 1 (x.fss.map Fs.enc), .int .i64 x.mount], .agg [.sl 1 (x.fss.map Fs.enc), .int .i64 x.mount]] (.bool true) := by
  refine PC.of_vc mixed (phiOf [(81, an81)]) Tryz.func39 (by kernel_rfl) (rfl : Tryz.f39.body = some _) Tryz.ntmps39 (by kernel_rfl) rfl (by kernel_rfl) Tryz.results39 fun hwf => ?_
  simp only [pvB, ↓pvP, pvDom, pvRr, pvEe, Nat.reduceAdd, Nat.reduceEqDiff, Nat.reduceLeDiff, Nat.reduceLT, Nat.reduceSub, reduceIte, reduceCtorEq, an81, pc81, pvI, Int.reduceToNat, Int.reduceLE, Int.reduceLT, Int.reduceMul, Int.reduceAdd, Int.reduceGT, Int.reduceGE, Int.reduceEq, pvY, Nat.reduceMul, rCell, x_be, x_bn, bbE]
  exact Le.refl _

def an185 : List PV → PV := fun _ => .bool true
theorem pc185 (x : Area) : PC Tryz.prog 185 [.agg [.int .i64 x.from_, .int .i64 x.many, .bool x.write, .bool x.shared], .agg [.int .i64 x.from_, .int .i64 x.many, .bool x.write, .bool x.shared]] (.bool true) := by
  refine PC.of_vc mixed (phiOf []) Tryz.func185 (by kernel_rfl) (rfl : Tryz.f185.body = some _) Tryz.ntmps185 (by kernel_rfl) rfl (by kernel_rfl) Tryz.results185 fun hwf => ?_
  simp only [pvB, ↓pvP, pvDom, pvRr, pvEe, Nat.reduceAdd, Nat.reduceEqDiff, Nat.reduceLeDiff, Nat.reduceLT, Nat.reduceSub, reduceIte, reduceCtorEq, pvI, Int.reduceToNat, Int.reduceLE, Int.reduceLT, Int.reduceMul, Int.reduceAdd, Int.reduceGT, Int.reduceGE, Int.reduceEq, pvY, Nat.reduceMul, rCell, x_be, x_bn, bbE]
  exact Le.refl _

def an165 : List PV → PV := fun _ => .bool true
theorem pc165 (x : List Area) : PC Tryz.prog 165 [.sl 4 (x.map Area.enc), .sl 4 (x.map Area.enc)] (.bool true) := by
  refine PC.of_vc mixed (phiOf [(185, an185)]) Tryz.func165 (by kernel_rfl) (rfl : Tryz.f165.body = some _) Tryz.ntmps165 (by kernel_rfl) rfl (by kernel_rfl) Tryz.results165 fun hwf => ?_
  simp only [pvB, ↓pvP, pvDom, pvRr, pvEe, Nat.reduceAdd, Nat.reduceEqDiff, Nat.reduceLeDiff, Nat.reduceLT, Nat.reduceSub, reduceIte, reduceCtorEq, an185, pc185, pvI, Int.reduceToNat, Int.reduceLE, Int.reduceLT, Int.reduceMul, Int.reduceAdd, Int.reduceGT, Int.reduceGE, Int.reduceEq, pvY, Nat.reduceMul, rCell, x_be, x_bn, bbE]
  have hw : x.length ≤ 140737488355328 := by
    have h := hwf.1.1
    rw [List.length_map] at h
    exact h
  clear hwf
  refine .inl ⟨[0, 1, 5], fun _ => 0, fun k vs H => ∃ i : Nat, i ≤ x.length ∧ k = x.length - i ∧ vs = [.sl 4 (x.map Area.enc), .sl 4 (x.map Area.enc), .int .i64 i] ∧ H = [], fun _ => Nat.zero_le _, ?_, ?_⟩
  · simp only [pvB, ↓pvP, pvDom, pvRr, pvEe, Nat.reduceAdd, Nat.reduceEqDiff, Nat.reduceLeDiff, Nat.reduceLT, Nat.reduceSub, reduceIte, reduceCtorEq, pvI, Int.reduceToNat, Int.reduceLE, Int.reduceLT, Int.reduceMul, Int.reduceAdd, Int.reduceGT, Int.reduceGE, Int.reduceEq, pvY, Nat.reduceMul, rCell, x_be, x_bn, bbE]
    exact ⟨_, 0, Nat.zero_le _, rfl, rfl⟩
  · rintro k vs H - ⟨i, hi, rfl, rfl, rfl⟩
    simp only [pvB, ↓pvP, pvDom, pvRr, pvEe, Nat.reduceAdd, Nat.reduceEqDiff, Nat.reduceLeDiff, Nat.reduceLT, Nat.reduceSub, reduceIte, reduceCtorEq, pvI, Int.reduceToNat, Int.reduceLE, Int.reduceLT, Int.reduceMul, Int.reduceAdd, Int.reduceGT, Int.reduceGE, Int.reduceEq, pvY, Nat.reduceMul, rCell, x_be, x_bn, bbE, an185, pc185]
    refine ⟨fun h => ?_, fun _ => Le.refl _⟩
    have h1 : i < x.length := dlt h
    exact ⟨in_of i h1, in_of i h1, _, by omega, i + 1, h1, rfl, by rw [w_add (by omega)]⟩

def an186 : List PV → PV := fun _ => .bool true
theorem pc186 (x : Slot) : PC Tryz.prog 186 [.agg [.int .i64 x.kind, .int .i64 x.at_, .bool x.own, .bool x.used], .agg [.int .i64 x.kind, .int .i64 x.at_, .bool x.own, .bool x.used]] (.bool true) := by
  refine PC.of_vc mixed (phiOf []) Tryz.func186 (by kernel_rfl) (rfl : Tryz.f186.body = some _) Tryz.ntmps186 (by kernel_rfl) rfl (by kernel_rfl) Tryz.results186 fun hwf => ?_
  simp only [pvB, ↓pvP, pvDom, pvRr, pvEe, Nat.reduceAdd, Nat.reduceEqDiff, Nat.reduceLeDiff, Nat.reduceLT, Nat.reduceSub, reduceIte, reduceCtorEq, pvI, Int.reduceToNat, Int.reduceLE, Int.reduceLT, Int.reduceMul, Int.reduceAdd, Int.reduceGT, Int.reduceGE, Int.reduceEq, pvY, Nat.reduceMul, rCell, x_be, x_bn, bbE]
  exact Le.refl _

def an166 : List PV → PV := fun _ => .bool true
theorem pc166 (x : List Slot) : PC Tryz.prog 166 [.sl 4 (x.map Slot.enc), .sl 4 (x.map Slot.enc)] (.bool true) := by
  refine PC.of_vc mixed (phiOf [(186, an186)]) Tryz.func166 (by kernel_rfl) (rfl : Tryz.f166.body = some _) Tryz.ntmps166 (by kernel_rfl) rfl (by kernel_rfl) Tryz.results166 fun hwf => ?_
  simp only [pvB, ↓pvP, pvDom, pvRr, pvEe, Nat.reduceAdd, Nat.reduceEqDiff, Nat.reduceLeDiff, Nat.reduceLT, Nat.reduceSub, reduceIte, reduceCtorEq, an186, pc186, pvI, Int.reduceToNat, Int.reduceLE, Int.reduceLT, Int.reduceMul, Int.reduceAdd, Int.reduceGT, Int.reduceGE, Int.reduceEq, pvY, Nat.reduceMul, rCell, x_be, x_bn, bbE]
  have hw : x.length ≤ 140737488355328 := by
    have h := hwf.1.1
    rw [List.length_map] at h
    exact h
  clear hwf
  refine .inl ⟨[0, 1, 5], fun _ => 0, fun k vs H => ∃ i : Nat, i ≤ x.length ∧ k = x.length - i ∧ vs = [.sl 4 (x.map Slot.enc), .sl 4 (x.map Slot.enc), .int .i64 i] ∧ H = [], fun _ => Nat.zero_le _, ?_, ?_⟩
  · simp only [pvB, ↓pvP, pvDom, pvRr, pvEe, Nat.reduceAdd, Nat.reduceEqDiff, Nat.reduceLeDiff, Nat.reduceLT, Nat.reduceSub, reduceIte, reduceCtorEq, pvI, Int.reduceToNat, Int.reduceLE, Int.reduceLT, Int.reduceMul, Int.reduceAdd, Int.reduceGT, Int.reduceGE, Int.reduceEq, pvY, Nat.reduceMul, rCell, x_be, x_bn, bbE]
    exact ⟨_, 0, Nat.zero_le _, rfl, rfl⟩
  · rintro k vs H - ⟨i, hi, rfl, rfl, rfl⟩
    simp only [pvB, ↓pvP, pvDom, pvRr, pvEe, Nat.reduceAdd, Nat.reduceEqDiff, Nat.reduceLeDiff, Nat.reduceLT, Nat.reduceSub, reduceIte, reduceCtorEq, pvI, Int.reduceToNat, Int.reduceLE, Int.reduceLT, Int.reduceMul, Int.reduceAdd, Int.reduceGT, Int.reduceGE, Int.reduceEq, pvY, Nat.reduceMul, rCell, x_be, x_bn, bbE, an186, pc186]
    refine ⟨fun h => ?_, fun _ => Le.refl _⟩
    have h1 : i < x.length := dlt h
    exact ⟨in_of i h1, in_of i h1, _, by omega, i + 1, h1, rfl, by rw [w_add (by omega)]⟩

def an127 : List PV → PV := fun _ => .bool true
theorem pc127 (x : Space) : PC Tryz.prog 127 [.agg [.bool x.live, .sl 4 (x.areas.map Area.enc), .sl 4 (x.slots.map Slot.enc)], .agg [.bool x.live, .sl 4 (x.areas.map Area.enc), .sl 4 (x.slots.map Slot.enc)]] (.bool true) := by
  refine PC.of_vc mixed (phiOf [(165, an165), (166, an166)]) Tryz.func127 (by kernel_rfl) (rfl : Tryz.f127.body = some _) Tryz.ntmps127 (by kernel_rfl) rfl (by kernel_rfl) Tryz.results127 fun hwf => ?_
  simp only [pvB, ↓pvP, pvDom, pvRr, pvEe, Nat.reduceAdd, Nat.reduceEqDiff, Nat.reduceLeDiff, Nat.reduceLT, Nat.reduceSub, reduceIte, reduceCtorEq, an165, pc165, an166, pc166, pvI, Int.reduceToNat, Int.reduceLE, Int.reduceLT, Int.reduceMul, Int.reduceAdd, Int.reduceGT, Int.reduceGE, Int.reduceEq, pvY, Nat.reduceMul, rCell, x_be, x_bn, bbE]
  exact Le.refl _

def an80 : List PV → PV := fun _ => .bool true
theorem pc80 (x : List Space) : PC Tryz.prog 80 [.sl 3 (x.map Space.enc), .sl 3 (x.map Space.enc)] (.bool true) := by
  refine PC.of_vc mixed (phiOf [(127, an127)]) Tryz.func80 (by kernel_rfl) (rfl : Tryz.f80.body = some _) Tryz.ntmps80 (by kernel_rfl) rfl (by kernel_rfl) Tryz.results80 fun hwf => ?_
  simp only [pvB, ↓pvP, pvDom, pvRr, pvEe, Nat.reduceAdd, Nat.reduceEqDiff, Nat.reduceLeDiff, Nat.reduceLT, Nat.reduceSub, reduceIte, reduceCtorEq, an127, pc127, pvI, Int.reduceToNat, Int.reduceLE, Int.reduceLT, Int.reduceMul, Int.reduceAdd, Int.reduceGT, Int.reduceGE, Int.reduceEq, pvY, Nat.reduceMul, rCell, x_be, x_bn, bbE]
  have hw : x.length ≤ 140737488355328 := by
    have h := hwf.1.1
    rw [List.length_map] at h
    exact h
  clear hwf
  refine .inl ⟨[0, 1, 5], fun _ => 0, fun k vs H => ∃ i : Nat, i ≤ x.length ∧ k = x.length - i ∧ vs = [.sl 3 (x.map Space.enc), .sl 3 (x.map Space.enc), .int .i64 i] ∧ H = [], fun _ => Nat.zero_le _, ?_, ?_⟩
  · simp only [pvB, ↓pvP, pvDom, pvRr, pvEe, Nat.reduceAdd, Nat.reduceEqDiff, Nat.reduceLeDiff, Nat.reduceLT, Nat.reduceSub, reduceIte, reduceCtorEq, pvI, Int.reduceToNat, Int.reduceLE, Int.reduceLT, Int.reduceMul, Int.reduceAdd, Int.reduceGT, Int.reduceGE, Int.reduceEq, pvY, Nat.reduceMul, rCell, x_be, x_bn, bbE]
    exact ⟨_, 0, Nat.zero_le _, rfl, rfl⟩
  · rintro k vs H - ⟨i, hi, rfl, rfl, rfl⟩
    simp only [pvB, ↓pvP, pvDom, pvRr, pvEe, Nat.reduceAdd, Nat.reduceEqDiff, Nat.reduceLeDiff, Nat.reduceLT, Nat.reduceSub, reduceIte, reduceCtorEq, pvI, Int.reduceToNat, Int.reduceLE, Int.reduceLT, Int.reduceMul, Int.reduceAdd, Int.reduceGT, Int.reduceGE, Int.reduceEq, pvY, Nat.reduceMul, rCell, x_be, x_bn, bbE, an127, pc127]
    refine ⟨fun h => ?_, fun _ => Le.refl _⟩
    have h1 : i < x.length := dlt h
    exact ⟨in_of i h1, in_of i h1, _, by omega, i + 1, h1, rfl, by rw [w_add (by omega)]⟩

def an79 : List PV → PV := fun _ => .bool true
theorem pc79 (x : Pages) : PC Tryz.prog 79 [.agg [.sl 1 (x.text.map encS), .sl 1 (x.refs.map encI)], .agg [.sl 1 (x.text.map encS), .sl 1 (x.refs.map encI)]] (.bool true) := by
  refine PC.of_vc mixed (phiOf [(126, an126), (13, an13)]) Tryz.func79 (by kernel_rfl) (rfl : Tryz.f79.body = some _) Tryz.ntmps79 (by kernel_rfl) rfl (by kernel_rfl) Tryz.results79 fun hwf => ?_
  simp only [pvB, ↓pvP, pvDom, pvRr, pvEe, Nat.reduceAdd, Nat.reduceEqDiff, Nat.reduceLeDiff, Nat.reduceLT, Nat.reduceSub, reduceIte, reduceCtorEq, an126, pc126, an13, pc13, pvI, Int.reduceToNat, Int.reduceLE, Int.reduceLT, Int.reduceMul, Int.reduceAdd, Int.reduceGT, Int.reduceGE, Int.reduceEq, pvY, Nat.reduceMul, rCell, x_be, x_bn, bbE]
  exact Le.refl _

def an38 : List PV → PV := fun _ => .bool true
theorem pc38 (x : Mem) : PC Tryz.prog 38 [.agg [.sl 1 (x.ram.text.map encS), .sl 1 (x.ram.refs.map encI), .sl 1 (x.swap.text.map encS), .sl 1 (x.swap.refs.map encI), .sl 3 (x.spaces.map Space.enc), .int .i64 x.hand], .agg [.sl 1 (x.ram.text.map encS), .sl 1 (x.ram.refs.map encI), .sl 1 (x.swap.text.map encS), .sl 1 (x.swap.refs.map encI), .sl 3 (x.spaces.map Space.enc), .int .i64 x.hand]] (.bool true) := by
  refine PC.of_vc mixed (phiOf [(79, an79), (80, an80)]) Tryz.func38 (by kernel_rfl) (rfl : Tryz.f38.body = some _) Tryz.ntmps38 (by kernel_rfl) rfl (by kernel_rfl) Tryz.results38 fun hwf => ?_
  simp only [pvB, ↓pvP, pvDom, pvRr, pvEe, Nat.reduceAdd, Nat.reduceEqDiff, Nat.reduceLeDiff, Nat.reduceLT, Nat.reduceSub, reduceIte, reduceCtorEq, an79, pc79, an80, pc80, pvI, Int.reduceToNat, Int.reduceLE, Int.reduceLT, Int.reduceMul, Int.reduceAdd, Int.reduceGT, Int.reduceGE, Int.reduceEq, pvY, Nat.reduceMul, rCell, x_be, x_bn, bbE]
  exact Le.refl _

def an129 : List PV → PV := fun _ => .bool true
theorem pc129 (x : Spt) : PC Tryz.prog 129 [.agg [.int .i64 x.fs, .int .i64 x.id], .agg [.int .i64 x.fs, .int .i64 x.id]] (.bool true) := by
  refine PC.of_vc mixed (phiOf []) Tryz.func129 (by kernel_rfl) (rfl : Tryz.f129.body = some _) Tryz.ntmps129 (by kernel_rfl) rfl (by kernel_rfl) Tryz.results129 fun hwf => ?_
  simp only [pvB, ↓pvP, pvDom, pvRr, pvEe, Nat.reduceAdd, Nat.reduceEqDiff, Nat.reduceLeDiff, Nat.reduceLT, Nat.reduceSub, reduceIte, reduceCtorEq, pvI, Int.reduceToNat, Int.reduceLE, Int.reduceLT, Int.reduceMul, Int.reduceAdd, Int.reduceGT, Int.reduceGE, Int.reduceEq, pvY, Nat.reduceMul, rCell, x_be, x_bn, bbE]
  exact Le.refl _

def an82 : List PV → PV := fun _ => .bool true
theorem pc82 (x : File) : PC Tryz.prog 82 [.agg [.int .i64 x.refs, .int .i64 x.where_.fs, .int .i64 x.where_.id, .int .i64 x.pipe, .int .i64 x.pos, .bool x.read, .bool x.write, .bool x.end_], .agg [.int .i64 x.refs, .int .i64 x.where_.fs, .int .i64 x.where_.id, .int .i64 x.pipe, .int .i64 x.pos, .bool x.read, .bool x.write, .bool x.end_]] (.bool true) := by
  refine PC.of_vc mixed (phiOf [(129, an129)]) Tryz.func82 (by kernel_rfl) (rfl : Tryz.f82.body = some _) Tryz.ntmps82 (by kernel_rfl) rfl (by kernel_rfl) Tryz.results82 fun hwf => ?_
  simp only [pvB, ↓pvP, pvDom, pvRr, pvEe, Nat.reduceAdd, Nat.reduceEqDiff, Nat.reduceLeDiff, Nat.reduceLT, Nat.reduceSub, reduceIte, reduceCtorEq, an129, pc129, pvI, Int.reduceToNat, Int.reduceLE, Int.reduceLT, Int.reduceMul, Int.reduceAdd, Int.reduceGT, Int.reduceGE, Int.reduceEq, pvY, Nat.reduceMul, rCell, x_be, x_bn, bbE]
  exact Le.refl _

def an40 : List PV → PV := fun _ => .bool true
theorem pc40 (x : List File) : PC Tryz.prog 40 [.sl 8 (x.map File.enc), .sl 8 (x.map File.enc)] (.bool true) := by
  refine PC.of_vc mixed (phiOf [(82, an82)]) Tryz.func40 (by kernel_rfl) (rfl : Tryz.f40.body = some _) Tryz.ntmps40 (by kernel_rfl) rfl (by kernel_rfl) Tryz.results40 fun hwf => ?_
  simp only [pvB, ↓pvP, pvDom, pvRr, pvEe, Nat.reduceAdd, Nat.reduceEqDiff, Nat.reduceLeDiff, Nat.reduceLT, Nat.reduceSub, reduceIte, reduceCtorEq, an82, pc82, pvI, Int.reduceToNat, Int.reduceLE, Int.reduceLT, Int.reduceMul, Int.reduceAdd, Int.reduceGT, Int.reduceGE, Int.reduceEq, pvY, Nat.reduceMul, rCell, x_be, x_bn, bbE]
  have hw : x.length ≤ 140737488355328 := by
    have h := hwf.1.1
    rw [List.length_map] at h
    exact h
  clear hwf
  refine .inl ⟨[0, 1, 5], fun _ => 0, fun k vs H => ∃ i : Nat, i ≤ x.length ∧ k = x.length - i ∧ vs = [.sl 8 (x.map File.enc), .sl 8 (x.map File.enc), .int .i64 i] ∧ H = [], fun _ => Nat.zero_le _, ?_, ?_⟩
  · simp only [pvB, ↓pvP, pvDom, pvRr, pvEe, Nat.reduceAdd, Nat.reduceEqDiff, Nat.reduceLeDiff, Nat.reduceLT, Nat.reduceSub, reduceIte, reduceCtorEq, pvI, Int.reduceToNat, Int.reduceLE, Int.reduceLT, Int.reduceMul, Int.reduceAdd, Int.reduceGT, Int.reduceGE, Int.reduceEq, pvY, Nat.reduceMul, rCell, x_be, x_bn, bbE]
    exact ⟨_, 0, Nat.zero_le _, rfl, rfl⟩
  · rintro k vs H - ⟨i, hi, rfl, rfl, rfl⟩
    simp only [pvB, ↓pvP, pvDom, pvRr, pvEe, Nat.reduceAdd, Nat.reduceEqDiff, Nat.reduceLeDiff, Nat.reduceLT, Nat.reduceSub, reduceIte, reduceCtorEq, pvI, Int.reduceToNat, Int.reduceLE, Int.reduceLT, Int.reduceMul, Int.reduceAdd, Int.reduceGT, Int.reduceGE, Int.reduceEq, pvY, Nat.reduceMul, rCell, x_be, x_bn, bbE, an82, pc82]
    refine ⟨fun h => ?_, fun _ => Le.refl _⟩
    have h1 : i < x.length := dlt h
    exact ⟨in_of i h1, in_of i h1, _, by omega, i + 1, h1, rfl, by rw [w_add (by omega)]⟩

def an83 : List PV → PV := fun _ => .bool true
theorem pc83 (x : Pipe) : PC Tryz.prog 83 [.agg [.str x.text, .int .i64 x.readers, .int .i64 x.writers], .agg [.str x.text, .int .i64 x.readers, .int .i64 x.writers]] (.bool true) := by
  refine PC.of_vc mixed (phiOf []) Tryz.func83 (by kernel_rfl) (rfl : Tryz.f83.body = some _) Tryz.ntmps83 (by kernel_rfl) rfl (by kernel_rfl) Tryz.results83 fun hwf => ?_
  simp only [pvB, ↓pvP, pvDom, pvRr, pvEe, Nat.reduceAdd, Nat.reduceEqDiff, Nat.reduceLeDiff, Nat.reduceLT, Nat.reduceSub, reduceIte, reduceCtorEq, pvI, Int.reduceToNat, Int.reduceLE, Int.reduceLT, Int.reduceMul, Int.reduceAdd, Int.reduceGT, Int.reduceGE, Int.reduceEq, pvY, Nat.reduceMul, rCell, x_be, x_bn, bbE]
  exact Le.refl _

def an41 : List PV → PV := fun _ => .bool true
theorem pc41 (x : List Pipe) : PC Tryz.prog 41 [.sl 3 (x.map Pipe.enc), .sl 3 (x.map Pipe.enc)] (.bool true) := by
  refine PC.of_vc mixed (phiOf [(83, an83)]) Tryz.func41 (by kernel_rfl) (rfl : Tryz.f41.body = some _) Tryz.ntmps41 (by kernel_rfl) rfl (by kernel_rfl) Tryz.results41 fun hwf => ?_
  simp only [pvB, ↓pvP, pvDom, pvRr, pvEe, Nat.reduceAdd, Nat.reduceEqDiff, Nat.reduceLeDiff, Nat.reduceLT, Nat.reduceSub, reduceIte, reduceCtorEq, an83, pc83, pvI, Int.reduceToNat, Int.reduceLE, Int.reduceLT, Int.reduceMul, Int.reduceAdd, Int.reduceGT, Int.reduceGE, Int.reduceEq, pvY, Nat.reduceMul, rCell, x_be, x_bn, bbE]
  have hw : x.length ≤ 140737488355328 := by
    have h := hwf.1.1
    rw [List.length_map] at h
    exact h
  clear hwf
  refine .inl ⟨[0, 1, 5], fun _ => 0, fun k vs H => ∃ i : Nat, i ≤ x.length ∧ k = x.length - i ∧ vs = [.sl 3 (x.map Pipe.enc), .sl 3 (x.map Pipe.enc), .int .i64 i] ∧ H = [], fun _ => Nat.zero_le _, ?_, ?_⟩
  · simp only [pvB, ↓pvP, pvDom, pvRr, pvEe, Nat.reduceAdd, Nat.reduceEqDiff, Nat.reduceLeDiff, Nat.reduceLT, Nat.reduceSub, reduceIte, reduceCtorEq, pvI, Int.reduceToNat, Int.reduceLE, Int.reduceLT, Int.reduceMul, Int.reduceAdd, Int.reduceGT, Int.reduceGE, Int.reduceEq, pvY, Nat.reduceMul, rCell, x_be, x_bn, bbE]
    exact ⟨_, 0, Nat.zero_le _, rfl, rfl⟩
  · rintro k vs H - ⟨i, hi, rfl, rfl, rfl⟩
    simp only [pvB, ↓pvP, pvDom, pvRr, pvEe, Nat.reduceAdd, Nat.reduceEqDiff, Nat.reduceLeDiff, Nat.reduceLT, Nat.reduceSub, reduceIte, reduceCtorEq, pvI, Int.reduceToNat, Int.reduceLE, Int.reduceLT, Int.reduceMul, Int.reduceAdd, Int.reduceGT, Int.reduceGE, Int.reduceEq, pvY, Nat.reduceMul, rCell, x_be, x_bn, bbE, an83, pc83]
    refine ⟨fun h => ?_, fun _ => Le.refl _⟩
    have h1 : i < x.length := dlt h
    exact ⟨in_of i h1, in_of i h1, _, by omega, i + 1, h1, rfl, by rw [w_add (by omega)]⟩

def an130 : List PV → PV := fun _ => .bool true
theorem pc130 (x : Cred) : PC Tryz.prog 130 [.agg [.int .i64 x.user, .int .i64 x.real, .sl 1 (x.groups.map encI)], .agg [.int .i64 x.user, .int .i64 x.real, .sl 1 (x.groups.map encI)]] (.bool true) := by
  refine PC.of_vc mixed (phiOf [(13, an13)]) Tryz.func130 (by kernel_rfl) (rfl : Tryz.f130.body = some _) Tryz.ntmps130 (by kernel_rfl) rfl (by kernel_rfl) Tryz.results130 fun hwf => ?_
  simp only [pvB, ↓pvP, pvDom, pvRr, pvEe, Nat.reduceAdd, Nat.reduceEqDiff, Nat.reduceLeDiff, Nat.reduceLT, Nat.reduceSub, reduceIte, reduceCtorEq, an13, pc13, pvI, Int.reduceToNat, Int.reduceLE, Int.reduceLT, Int.reduceMul, Int.reduceAdd, Int.reduceGT, Int.reduceGE, Int.reduceEq, pvY, Nat.reduceMul, rCell, x_be, x_bn, bbE]
  exact Le.refl _

def an131 : List PV → PV := fun _ => .bool true
theorem pc131 (x : Sigs) : PC Tryz.prog 131 [.agg [.sl 1 (x.here.map encB), .sl 1 (x.block.map encB), .sl 1 (x.does.map encI)], .agg [.sl 1 (x.here.map encB), .sl 1 (x.block.map encB), .sl 1 (x.does.map encI)]] (.bool true) := by
  refine PC.of_vc mixed (phiOf [(168, an168), (13, an13)]) Tryz.func131 (by kernel_rfl) (rfl : Tryz.f131.body = some _) Tryz.ntmps131 (by kernel_rfl) rfl (by kernel_rfl) Tryz.results131 fun hwf => ?_
  simp only [pvB, ↓pvP, pvDom, pvRr, pvEe, Nat.reduceAdd, Nat.reduceEqDiff, Nat.reduceLeDiff, Nat.reduceLT, Nat.reduceSub, reduceIte, reduceCtorEq, an168, pc168, an13, pc13, pvI, Int.reduceToNat, Int.reduceLE, Int.reduceLT, Int.reduceMul, Int.reduceAdd, Int.reduceGT, Int.reduceGE, Int.reduceEq, pvY, Nat.reduceMul, rCell, x_be, x_bn, bbE]
  exact Le.refl _

def an84 : List PV → PV := fun _ => .bool true
theorem pc84 (x : Proc) : PC Tryz.prog 84 [.agg [.int .i64 x.state, .int .i64 x.parent, .int .i64 x.code, .int .i64 x.who.user, .int .i64 x.who.real, .sl 1 (x.who.groups.map encI), .int .i64 x.space, .sl 1 (x.fds.map encI), .sl 1 (x.sigs.here.map encB), .sl 1 (x.sigs.block.map encB), .sl 1 (x.sigs.does.map encI), .int .i64 x.dir.fs, .int .i64 x.dir.id, .int .i64 x.on], .agg [.int .i64 x.state, .int .i64 x.parent, .int .i64 x.code, .int .i64 x.who.user, .int .i64 x.who.real, .sl 1 (x.who.groups.map encI), .int .i64 x.space, .sl 1 (x.fds.map encI), .sl 1 (x.sigs.here.map encB), .sl 1 (x.sigs.block.map encB), .sl 1 (x.sigs.does.map encI), .int .i64 x.dir.fs, .int .i64 x.dir.id, .int .i64 x.on]] (.bool true) := by
  refine PC.of_vc mixed (phiOf [(130, an130), (13, an13), (131, an131), (129, an129)]) Tryz.func84 (by kernel_rfl) (rfl : Tryz.f84.body = some _) Tryz.ntmps84 (by kernel_rfl) rfl (by kernel_rfl) Tryz.results84 fun hwf => ?_
  simp only [pvB, ↓pvP, pvDom, pvRr, pvEe, Nat.reduceAdd, Nat.reduceEqDiff, Nat.reduceLeDiff, Nat.reduceLT, Nat.reduceSub, reduceIte, reduceCtorEq, an130, pc130, an13, pc13, an131, pc131, an129, pc129, pvI, Int.reduceToNat, Int.reduceLE, Int.reduceLT, Int.reduceMul, Int.reduceAdd, Int.reduceGT, Int.reduceGE, Int.reduceEq, pvY, Nat.reduceMul, rCell, x_be, x_bn, bbE]
  exact Le.refl _

def an42 : List PV → PV := fun _ => .bool true
theorem pc42 (x : List Proc) : PC Tryz.prog 42 [.sl 14 (x.map Proc.enc), .sl 14 (x.map Proc.enc)] (.bool true) := by
  refine PC.of_vc mixed (phiOf [(84, an84)]) Tryz.func42 (by kernel_rfl) (rfl : Tryz.f42.body = some _) Tryz.ntmps42 (by kernel_rfl) rfl (by kernel_rfl) Tryz.results42 fun hwf => ?_
  simp only [pvB, ↓pvP, pvDom, pvRr, pvEe, Nat.reduceAdd, Nat.reduceEqDiff, Nat.reduceLeDiff, Nat.reduceLT, Nat.reduceSub, reduceIte, reduceCtorEq, an84, pc84, pvI, Int.reduceToNat, Int.reduceLE, Int.reduceLT, Int.reduceMul, Int.reduceAdd, Int.reduceGT, Int.reduceGE, Int.reduceEq, pvY, Nat.reduceMul, rCell, x_be, x_bn, bbE]
  have hw : x.length ≤ 140737488355328 := by
    have h := hwf.1.1
    rw [List.length_map] at h
    exact h
  clear hwf
  refine .inl ⟨[0, 1, 5], fun _ => 0, fun k vs H => ∃ i : Nat, i ≤ x.length ∧ k = x.length - i ∧ vs = [.sl 14 (x.map Proc.enc), .sl 14 (x.map Proc.enc), .int .i64 i] ∧ H = [], fun _ => Nat.zero_le _, ?_, ?_⟩
  · simp only [pvB, ↓pvP, pvDom, pvRr, pvEe, Nat.reduceAdd, Nat.reduceEqDiff, Nat.reduceLeDiff, Nat.reduceLT, Nat.reduceSub, reduceIte, reduceCtorEq, pvI, Int.reduceToNat, Int.reduceLE, Int.reduceLT, Int.reduceMul, Int.reduceAdd, Int.reduceGT, Int.reduceGE, Int.reduceEq, pvY, Nat.reduceMul, rCell, x_be, x_bn, bbE]
    exact ⟨_, 0, Nat.zero_le _, rfl, rfl⟩
  · rintro k vs H - ⟨i, hi, rfl, rfl, rfl⟩
    simp only [pvB, ↓pvP, pvDom, pvRr, pvEe, Nat.reduceAdd, Nat.reduceEqDiff, Nat.reduceLeDiff, Nat.reduceLT, Nat.reduceSub, reduceIte, reduceCtorEq, pvI, Int.reduceToNat, Int.reduceLE, Int.reduceLT, Int.reduceMul, Int.reduceAdd, Int.reduceGT, Int.reduceGE, Int.reduceEq, pvY, Nat.reduceMul, rCell, x_be, x_bn, bbE, an84, pc84]
    refine ⟨fun h => ?_, fun _ => Le.refl _⟩
    have h1 : i < x.length := dlt h
    exact ⟨in_of i h1, in_of i h1, _, by omega, i + 1, h1, rfl, by rw [w_add (by omega)]⟩

def an132 : List PV → PV := fun _ => .bool true
theorem pc132 (x : Task) : PC Tryz.prog 132 [.agg [.int .i64 x.id, .int .i64 x.weight, .int .i64 x.cost, .bool x.ready], .agg [.int .i64 x.id, .int .i64 x.weight, .int .i64 x.cost, .bool x.ready]] (.bool true) := by
  refine PC.of_vc mixed (phiOf []) Tryz.func132 (by kernel_rfl) (rfl : Tryz.f132.body = some _) Tryz.ntmps132 (by kernel_rfl) rfl (by kernel_rfl) Tryz.results132 fun hwf => ?_
  simp only [pvB, ↓pvP, pvDom, pvRr, pvEe, Nat.reduceAdd, Nat.reduceEqDiff, Nat.reduceLeDiff, Nat.reduceLT, Nat.reduceSub, reduceIte, reduceCtorEq, pvI, Int.reduceToNat, Int.reduceLE, Int.reduceLT, Int.reduceMul, Int.reduceAdd, Int.reduceGT, Int.reduceGE, Int.reduceEq, pvY, Nat.reduceMul, rCell, x_be, x_bn, bbE]
  exact Le.refl _

def an85 : List PV → PV := fun _ => .bool true
theorem pc85 (x : List Task) : PC Tryz.prog 85 [.sl 4 (x.map Task.enc), .sl 4 (x.map Task.enc)] (.bool true) := by
  refine PC.of_vc mixed (phiOf [(132, an132)]) Tryz.func85 (by kernel_rfl) (rfl : Tryz.f85.body = some _) Tryz.ntmps85 (by kernel_rfl) rfl (by kernel_rfl) Tryz.results85 fun hwf => ?_
  simp only [pvB, ↓pvP, pvDom, pvRr, pvEe, Nat.reduceAdd, Nat.reduceEqDiff, Nat.reduceLeDiff, Nat.reduceLT, Nat.reduceSub, reduceIte, reduceCtorEq, an132, pc132, pvI, Int.reduceToNat, Int.reduceLE, Int.reduceLT, Int.reduceMul, Int.reduceAdd, Int.reduceGT, Int.reduceGE, Int.reduceEq, pvY, Nat.reduceMul, rCell, x_be, x_bn, bbE]
  have hw : x.length ≤ 140737488355328 := by
    have h := hwf.1.1
    rw [List.length_map] at h
    exact h
  clear hwf
  refine .inl ⟨[0, 1, 5], fun _ => 0, fun k vs H => ∃ i : Nat, i ≤ x.length ∧ k = x.length - i ∧ vs = [.sl 4 (x.map Task.enc), .sl 4 (x.map Task.enc), .int .i64 i] ∧ H = [], fun _ => Nat.zero_le _, ?_, ?_⟩
  · simp only [pvB, ↓pvP, pvDom, pvRr, pvEe, Nat.reduceAdd, Nat.reduceEqDiff, Nat.reduceLeDiff, Nat.reduceLT, Nat.reduceSub, reduceIte, reduceCtorEq, pvI, Int.reduceToNat, Int.reduceLE, Int.reduceLT, Int.reduceMul, Int.reduceAdd, Int.reduceGT, Int.reduceGE, Int.reduceEq, pvY, Nat.reduceMul, rCell, x_be, x_bn, bbE]
    exact ⟨_, 0, Nat.zero_le _, rfl, rfl⟩
  · rintro k vs H - ⟨i, hi, rfl, rfl, rfl⟩
    simp only [pvB, ↓pvP, pvDom, pvRr, pvEe, Nat.reduceAdd, Nat.reduceEqDiff, Nat.reduceLeDiff, Nat.reduceLT, Nat.reduceSub, reduceIte, reduceCtorEq, pvI, Int.reduceToNat, Int.reduceLE, Int.reduceLT, Int.reduceMul, Int.reduceAdd, Int.reduceGT, Int.reduceGE, Int.reduceEq, pvY, Nat.reduceMul, rCell, x_be, x_bn, bbE, an132, pc132]
    refine ⟨fun h => ?_, fun _ => Le.refl _⟩
    have h1 : i < x.length := dlt h
    exact ⟨in_of i h1, in_of i h1, _, by omega, i + 1, h1, rfl, by rw [w_add (by omega)]⟩

def an43 : List PV → PV := fun _ => .bool true
theorem pc43 (x : Queue) : PC Tryz.prog 43 [.agg [.sl 4 (x.tasks.map Task.enc), .int .i64 x.floor], .agg [.sl 4 (x.tasks.map Task.enc), .int .i64 x.floor]] (.bool true) := by
  refine PC.of_vc mixed (phiOf [(85, an85)]) Tryz.func43 (by kernel_rfl) (rfl : Tryz.f43.body = some _) Tryz.ntmps43 (by kernel_rfl) rfl (by kernel_rfl) Tryz.results43 fun hwf => ?_
  simp only [pvB, ↓pvP, pvDom, pvRr, pvEe, Nat.reduceAdd, Nat.reduceEqDiff, Nat.reduceLeDiff, Nat.reduceLT, Nat.reduceSub, reduceIte, reduceCtorEq, an85, pc85, pvI, Int.reduceToNat, Int.reduceLE, Int.reduceLT, Int.reduceMul, Int.reduceAdd, Int.reduceGT, Int.reduceGE, Int.reduceEq, pvY, Nat.reduceMul, rCell, x_be, x_bn, bbE]
  exact Le.refl _

def an10 : List PV → PV := fun _ => .bool true
theorem pc10 (x : Kern) : PC Tryz.prog 10 [.agg [.sl 1 (x.mem.ram.text.map encS), .sl 1 (x.mem.ram.refs.map encI), .sl 1 (x.mem.swap.text.map encS), .sl 1 (x.mem.swap.refs.map encI), .sl 3 (x.mem.spaces.map Space.enc), .int .i64 x.mem.hand, .sl 1 (x.vfs.fss.map Fs.enc), .int .i64 x.vfs.mount, .sl 8 (x.files.map File.enc), .sl 3 (x.pipes.map Pipe.enc), .sl 14 (x.procs.map Proc.enc), .sl 4 (x.queue.tasks.map Task.enc), .int .i64 x.queue.floor], .agg [.sl 1 (x.mem.ram.text.map encS), .sl 1 (x.mem.ram.refs.map encI), .sl 1 (x.mem.swap.text.map encS), .sl 1 (x.mem.swap.refs.map encI), .sl 3 (x.mem.spaces.map Space.enc), .int .i64 x.mem.hand, .sl 1 (x.vfs.fss.map Fs.enc), .int .i64 x.vfs.mount, .sl 8 (x.files.map File.enc), .sl 3 (x.pipes.map Pipe.enc), .sl 14 (x.procs.map Proc.enc), .sl 4 (x.queue.tasks.map Task.enc), .int .i64 x.queue.floor]] (.bool true) := by
  refine PC.of_vc mixed (phiOf [(38, an38), (39, an39), (40, an40), (41, an41), (42, an42), (43, an43)]) Tryz.func10 (by kernel_rfl) (rfl : Tryz.f10.body = some _) Tryz.ntmps10 (by kernel_rfl) rfl (by kernel_rfl) Tryz.results10 fun hwf => ?_
  simp only [pvB, ↓pvP, pvDom, pvRr, pvEe, Nat.reduceAdd, Nat.reduceEqDiff, Nat.reduceLeDiff, Nat.reduceLT, Nat.reduceSub, reduceIte, reduceCtorEq, an38, pc38, an39, pc39, an40, pc40, an41, pc41, an42, pc42, an43, pc43, pvI, Int.reduceToNat, Int.reduceLE, Int.reduceLT, Int.reduceMul, Int.reduceAdd, Int.reduceGT, Int.reduceGE, Int.reduceEq, pvY, Nat.reduceMul, rCell, x_be, x_bn, bbE]
  exact Le.refl _

end Go.Proofs.YtemoiphdjocaiaaGreat

namespace Go.Proofs.YtemoiphdjocaiaaGreat
open Go.Pv
set_option linter.unusedSimpArgs false
set_option maxRecDepth 100000
set_option maxHeartbeats 4000000

/-- What markIntS lays into a row of n numbers. -/
def cntL (n : Nat) : List Int := (List.range n).map fun (j : Nat) => (j : Int) + 1
theorem cntL_len (n : Nat) : (cntL n).length = n := by simp [cntL]
theorem cntL_get {n i : Nat} (h : i < n) : (cntL n).getD i 0 = (i : Int) + 1 := by simp [cntL, List.getD, h]
theorem w_add1 {i : Nat} (h : i ≤ 140737488355328) : IntKind.i64.wrap ((i : Int) + 1 + 1) = (((i + 1 : Nat) : Int) + 1) := by rw [w64_of] <;> omega
def an16 : List PV → PV := fun _ => .undef
theorem pc16 (n : Nat) (hn : n ≤ 1048576) : PC Tryz.prog 16 [.sl 1 ((cntL n).map encI), .int .i64 1] (.int .i64 ((n : Int) + 1)) := by
  refine PC.of_vc mixed (phiOf []) Tryz.func16 (by kernel_rfl) (rfl : Tryz.f16.body = some _) Tryz.ntmps16 (by kernel_rfl) rfl (by kernel_rfl) Tryz.results16 fun hwf => ?_
  clear hwf
  simp only [pvB, ↓pvP, pvDom, pvRr, simprocAttr, pvI, pvY, x_be, x_bn, bbE]
  refine .inl ⟨[0, 1, 5], fun _ => 0, fun k vs H => ∃ i : Nat, i ≤ n ∧ k = n - i ∧ vs = [.sl 1 ((cntL n).map encI), .int .i64 ((i : Int) + 1), .int .i64 (i : Int)] ∧ H = [], fun _ => Nat.zero_le _, ?_, ?_⟩
  · simp only [pvB, ↓pvP, pvDom, pvRr, simprocAttr, pvI, pvY, x_be, x_bn, bbE]
    exact ⟨_, 0, Nat.zero_le _, rfl, rfl⟩
  · rintro k vs H - ⟨i, hi, rfl, rfl, rfl⟩
    simp only [pvB, ↓pvP, pvDom, pvRr, simprocAttr, pvI, pvY, x_be, x_bn, bbE, cntL_len]
    refine ⟨fun h => ?_, fun h => ?_⟩
    · have h1 : i < n := dlt h
      have hg := cntL_get h1
      refine ⟨⟨by omega, by omega⟩, fun h2 => ?_, fun h2 => ⟨_, by omega, i + 1, h1, rfl, by rw [w_add (by omega), w_add1 (by omega)]⟩⟩
      rw [hg] at h2
      simp at h2
    · obtain rfl : i = n := by
        have := of_decide_eq_false h
        omega
      exact Le.refl _
end Go.Proofs.YtemoiphdjocaiaaGreat
