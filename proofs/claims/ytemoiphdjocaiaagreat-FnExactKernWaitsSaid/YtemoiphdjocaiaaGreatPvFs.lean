/-
  What the functions on file systems answer. Conditions: none.
-/
import Derived.Test.YtemoiphdjocaiaaGreatPvTy
import Derived.Test.YtemoiphdjocaiaaGreatPvSmall
import Derived.Test.YtemoiphdjocaiaaGreatPvSimp
import Derived.Test.YtemoiphdjocaiaaGreatPvEnds
set_option linter.all false
set_option linter.unusedSimpArgs false
set_option linter.unusedVariables false
namespace Go.Proofs.YtemoiphdjocaiaaGreat
open Go.Pv
set_option linter.unusedSimpArgs false
set_option maxRecDepth 100000
set_option maxHeartbeats 4000000

def kidId (p : Fs) (x : Int) (j : Nat) : Int := ((p.nodes.getD x.toNat default).names.getD j default).id
def kidR (p : Fs) (x : Int) (j : Nat) (t : List Int) : List Int := bif decide ((p.nodes.getD (kidId p x j).toNat default).kind = 2) then t ++ [kidId p x j] else t
def kidF (p : Fs) (x : Int) (t : List Int) : List Int := itr (kidR p x) (p.nodes.getD x.toNat default).names.length t
def bfs (p : Fs) : Nat → List Bool → List Int → List Bool × Bool
  | _, m, [] => (m, true)
  | 0, m, _ :: _ => (m, false)
  | n + 1, m, x :: r => bif m.getD x.toNat false then (m, false) else bfs p n (m.set x.toNat true) (kidF p x r)
def folders (p : Fs) : List Bool × Bool := bfs p 10 (List.replicate 10 false) [0]
def an175 : List PV → PV
  | [.agg f] => .tup [.sl 1 ((folders (Fs.dec f)).1.map encB), .bool (folders (Fs.dec f)).2]
  | _ => .undef
theorem cf_set {m : List Bool} {i : Nat} (h : i < m.length) (hm : m.getD i false = false) : (m.set i true).count false + 1 = m.count false := by
  have hg : m[i] = false := by simpa [List.getD, h] using hm
  have hpos : 0 < m.count false := List.count_pos_iff.2 (hg ▸ List.getElem_mem h)
  rw [List.count_set h]
  simp [hg]
  omega
theorem kid_len (p : Fs) (x : Int) (r : List Int) : ∀ j, (itr (kidR p x) j r).length ≤ r.length + j
  | 0 => Nat.le_refl _
  | j + 1 => by
    have := kid_len p x r j
    simp only [itr, kidR]
    cases decide ((p.nodes.getD (kidId p x j).toNat default).kind = 2) <;> simp <;> omega
theorem kid_mem (p : Fs) (x : Int) (r : List Int) : ∀ j y, y ∈ itr (kidR p x) j r → y ∈ r ∨ ∃ i, i < j ∧ y = kidId p x i
  | 0, y, h => .inl h
  | j + 1, y, h => by
    simp only [itr, kidR] at h
    have ih := kid_mem p x r j y
    cases hd : decide ((p.nodes.getD (kidId p x j).toNat default).kind = 2) with
    | false =>
      rw [hd] at h
      rcases ih h with h | ⟨i, h1, h2⟩
      · exact .inl h
      · exact .inr ⟨i, by omega, h2⟩
    | true =>
      rw [hd] at h
      simp only [cond_true, List.mem_append, List.mem_singleton] at h
      rcases h with h | h
      · rcases ih h with h | ⟨i, h1, h2⟩
        · exact .inl h
        · exact .inr ⟨i, by omega, h2⟩
      · exact .inr ⟨j, by omega, h⟩
theorem bfs_met {p : Fs} {m : List Bool} {x : Int} {r : List Int} (n : Nat) (h : m.getD x.toNat false = true) : bfs p n m (x :: r) = (m, false) := by
  cases n with
  | zero => rfl
  | succ n => simp only [bfs, h, cond_true]
theorem c_0 : ((0 : Nat) : Int) = 0 := rfl
theorem c_1 : ((1 : Nat) : Int) = 1 := rfl
theorem hc_I (l : List Int) : ((l.map encI).all fun n => n.all cellB) = true := by simp [List.all_eq_true, encI, cellB]
theorem ap_I (l : List Int) (v : Int) : l.map encI ++ [[PV.int .i64 v]] = (l ++ [v]).map encI := by simp [encI]
theorem tk_B {m : List Bool} (H : Heap) (n k : Nat) (h : m.length = k) : List.map (fun e => List.map (expo .sl H (n + 1)) e) (List.take k (m.map encB)) = m.map encB := by
  rw [List.take_of_length_le (by simp [h]), List.map_map]
  apply List.map_congr_left
  intro b _
  rfl
theorem tk_I {m : List Int} (H : Heap) (n k : Nat) (h : m.length = k) : List.map (fun e => List.map (expo .sl H (n + 1)) e) (List.take k (m.map encI)) = m.map encI := by
  rw [List.take_of_length_le (by simp [h]), List.map_map]
  apply List.map_congr_left
  intro b _
  rfl

theorem pc175 (p : Fs) (hl : p.nodes.length = 10) (hnm : ∀ i, (p.nodes.getD i default).names.length ≤ 6) (hid : ∀ i j, j < (p.nodes.getD i default).names.length → 0 ≤ ((p.nodes.getD i default).names.getD j default).id ∧ ((p.nodes.getD i default).names.getD j default).id < 10) : PC Tryz.prog 175 [.agg [.sl 9 (p.nodes.map Inode.enc)]] (.tup [.sl 1 ((folders p).1.map encB), .bool (folders p).2]) := by
  refine PC.of_vc mixed (phiOf []) Tryz.func175 (by kernel_rfl) (rfl : Tryz.f175.body = some _) Tryz.ntmps175 (by kernel_rfl) rfl (by kernel_rfl) Tryz.results175 fun hwf => ?_
  simp only [pvB, ↓pvP, pvDom, pvRr, Nat.reduceAdd, Nat.reduceEqDiff, Nat.reduceLeDiff, Nat.reduceLT, Nat.reduceSub, reduceIte, reduceCtorEq, hl, pvI, Int.reduceToNat, Int.reduceLE, Int.reduceLT, Int.reduceMul, Int.reduceAdd, Int.reduceGT, Int.reduceGE, Int.reduceEq, pvY, Nat.reduceMul, pvZ, okSel, z_x1]
  clear hwf
  refine ⟨⟨by decide, by decide, by decide⟩, ?_⟩
  refine .inr ⟨[1, 4, 5], fun H => [0, 1, H.length - 1], fun k vs H => ∃ (m : List Bool) (t : List Int), k = m.count false ∧ vs = [.ptr 0 1 0 0, .own 1 1 0 10, .own 2 1 0 t.length] ∧ H = [.rows 157 1 [[.sl 9 (p.nodes.map Inode.enc)]], .rows 4 1 (m.map encB), .rows 3 1 (t.map encI)] ∧ m.length = 10 ∧ folders p = bfs p (m.count false) m t ∧ t.length + 6 * m.count false ≤ 61 ∧ ∀ y, y ∈ t → 0 ≤ y ∧ y < 10, rfl, ?_, ?_⟩
  · simp only [pvB, ↓pvP, pvDom, pvRr, Nat.reduceAdd, Nat.reduceEqDiff, Nat.reduceLeDiff, Nat.reduceLT, Nat.reduceSub, reduceIte, reduceCtorEq, pvI, Int.reduceToNat, Int.reduceLE, Int.reduceLT, Int.reduceMul, Int.reduceAdd, Int.reduceGT, Int.reduceGE, Int.reduceEq, pvY, Nat.reduceMul, pvZ, okSel, z_x1]
    exact ⟨_, List.replicate 10 false, [0], rfl, rfl, rfl, by simp, rfl, by decide, by simp⟩
  · rintro k vs H - ⟨m, t, rfl, rfl, rfl, hm, hb, hlen, hr⟩
    rcases t with _ | ⟨x, t⟩
    · simp only [pvB, ↓pvP, pvDom, pvRr, Nat.reduceAdd, Nat.reduceEqDiff, Nat.reduceLeDiff, Nat.reduceLT, Nat.reduceSub, reduceIte, reduceCtorEq, pvI, Int.reduceToNat, Int.reduceLE, Int.reduceLT, Int.reduceMul, Int.reduceAdd, Int.reduceGT, Int.reduceGE, Int.reduceEq, pvY, Nat.reduceMul, pvZ, okSel, z_x1, c_0, c_1, hc_I, ap_I, hm]
      have e : folders p = (m, true) := by rw [hb]; cases m.count false <;> rfl
      rw [e, tk_B _ 5 10 hm]; exact Le.refl _
    · have hx := hr x (by simp)
      have hxm : x.toNat < m.length := by omega
      rcases t with _ | ⟨y, t⟩
      · simp only [pvB, ↓pvP, pvDom, pvRr, Nat.reduceAdd, Nat.reduceEqDiff, Nat.reduceLeDiff, Nat.reduceLT, Nat.reduceSub, reduceIte, reduceCtorEq, pvI, Int.reduceToNat, Int.reduceLE, Int.reduceLT, Int.reduceMul, Int.reduceAdd, Int.reduceGT, Int.reduceGE, Int.reduceEq, pvY, Nat.reduceMul, pvZ, okSel, z_x1, c_0, c_1, hc_I, ap_I]
        refine ⟨hx, hxm, fun h1 => ?_, fun h1 => ⟨hx, hxm, ?_⟩⟩
        · rw [hb, bfs_met _ h1, show decide (10 ≤ m.length) = true from by rw [hm]; rfl, q_bt, tk_B _ 5 10 hm]; exact Le.refl _
        · refine .inr ⟨[1, 4, 5, 6, 7], fun H => [0, 1, H.length - 1], fun k vs H => ∃ (j : Nat), j ≤ (p.nodes.getD x.toNat default).names.length ∧ k = (p.nodes.getD x.toNat default).names.length - j ∧ vs = [.ptr 0 1 0 0, .own 1 1 0 10, .own 2 1 0 (itr (kidR p x) j []).length, .int .i64 x, .int .i64 j] ∧ H = [.rows 157 1 [[.sl 9 (p.nodes.map Inode.enc)]], .rows 4 1 ((m.set x.toNat true).map encB), .rows 3 1 ((itr (kidR p x) j []).map encI)], rfl, ?_, ?_⟩
          · simp only [pvB, ↓pvP, pvDom, pvRr, Nat.reduceAdd, Nat.reduceEqDiff, Nat.reduceLeDiff, Nat.reduceLT, Nat.reduceSub, reduceIte, reduceCtorEq, pvI, Int.reduceToNat, Int.reduceLE, Int.reduceLT, Int.reduceMul, Int.reduceAdd, Int.reduceGT, Int.reduceGE, Int.reduceEq, pvY, Nat.reduceMul, pvZ, okSel, z_x1]
            exact ⟨_, 0, Nat.zero_le _, rfl, rfl, rfl⟩
          · rintro k vs H - ⟨j, hj, rfl, rfl, rfl⟩
            simp only [pvB, ↓pvP, pvDom, pvRr, Nat.reduceAdd, Nat.reduceEqDiff, Nat.reduceLeDiff, Nat.reduceLT, Nat.reduceSub, reduceIte, reduceCtorEq, pvI, Int.reduceToNat, Int.reduceLE, Int.reduceLT, Int.reduceMul, Int.reduceAdd, Int.reduceGT, Int.reduceGE, Int.reduceEq, pvY, Nat.reduceMul, pvZ, okSel, z_x1, c_0, c_1, hc_I, ap_I]
            have hj6 : j ≤ 6 := Nat.le_trans hj (hnm x.toNat)
            refine ⟨⟨hx.1, by omega⟩, fun h2 => ?_, fun h2 => ?_⟩
            · have h2 := dlt h2
              have hk := hid x.toNat j h2
              have hkl := kid_len p x [] j
              simp only [List.length_cons, List.length_nil] at hkl hlen
              refine ⟨⟨hx.1, by omega⟩, in_of j h2, ⟨hk.1, by omega⟩, fun h => ?_, fun h => ?_⟩
              · have e : itr (kidR p x) (j + 1) [] = itr (kidR p x) j [] ++ [kidId p x j] := by simp only [itr]; exact bif_tI h
                exact ⟨⟨by omega, by omega⟩, _, by omega, j + 1, h2, rfl, by rw [w_add (by omega), e, List.length_append]; rfl, by rw [e]; rfl⟩
              · have e : itr (kidR p x) (j + 1) [] = itr (kidR p x) j [] := by simp only [itr]; exact bif_fI h
                exact ⟨_, by omega, j + 1, h2, rfl, by rw [w_add (by omega), e], by rw [e]⟩
            · obtain rfl := dge h2 hj
              have hc := cf_set hxm h1
              have hkl := kid_len p x [] (p.nodes.getD x.toNat default).names.length
              have hn6 := hnm x.toNat
              refine ⟨_, by omega, m.set x.toNat true, _, rfl, rfl, rfl, by simp [hm], ?_, ?_, fun z hy => ?_⟩
              · rw [hb, ← hc]; simp only [bfs, h1, cond_false]; rfl
              · simp only [List.length_cons, List.length_nil] at hlen hkl ⊢; omega
              · rcases kid_mem p x [] _ z hy with h | ⟨i, h3, rfl⟩
                · exact hr z (List.mem_cons_of_mem _ h)
                · exact hid x.toNat i h3
      · generalize ht : x :: y :: t = t'
        have hl1 : decide ((1 : Int) = (t'.length : Int)) = false := by rw [← ht]; simp; omega
        have hl2 : decide ((t'.length : Int) > 0) = true := by rw [← ht]; simp; omega
        have hle : (1 + (t'.length - 1) ≤ t'.length) = True := by rw [← ht]; simp; omega
        have hg : t'.getD 0 0 = x := by rw [← ht]; rfl
        have htl : t'.tail = y :: t := by rw [← ht]; rfl
        simp only [pvB, ↓pvP, pvDom, pvRr, Nat.reduceAdd, Nat.reduceEqDiff, Nat.reduceLeDiff, Nat.reduceLT, Nat.reduceSub, reduceIte, reduceCtorEq, pvI, Int.reduceToNat, Int.reduceLE, Int.reduceLT, Int.reduceMul, Int.reduceAdd, Int.reduceGT, Int.reduceGE, Int.reduceEq, pvY, Nat.reduceMul, pvZ, okSel, z_x1, hl1, hl2, hle, z_dt, hc_I, hg, htl, ap_I]
        have hlt : t.length ≤ 61 := by simp only [List.length_cons] at hlen; omega
        have hpos : 0 < t'.length := by rw [← ht]; simp
        refine ⟨by omega, hpos, by omega, ⟨by omega, by omega⟩, hx, hxm, fun h1 => ?_, fun h1 => ⟨hx, hxm, ?_⟩⟩
        · rw [hb, bfs_met _ h1, show decide (10 ≤ m.length) = true from by rw [hm]; rfl, q_bt, tk_B _ 5 10 hm]; exact Le.refl _
        · refine .inr ⟨[1, 4, 5, 6, 7], fun H => [0, 1, H.length - 1], fun k vs H => ∃ (j : Nat), j ≤ (p.nodes.getD x.toNat default).names.length ∧ k = (p.nodes.getD x.toNat default).names.length - j ∧ vs = [.ptr 0 1 0 0, .own 1 1 0 10, .own 2 1 0 (itr (kidR p x) j (y :: t)).length, .int .i64 x, .int .i64 j] ∧ H = [.rows 157 1 [[.sl 9 (p.nodes.map Inode.enc)]], .rows 4 1 ((m.set x.toNat true).map encB), .rows 3 1 ((itr (kidR p x) j (y :: t)).map encI)], rfl, ?_, ?_⟩
          · simp only [pvB, ↓pvP, pvDom, pvRr, Nat.reduceAdd, Nat.reduceEqDiff, Nat.reduceLeDiff, Nat.reduceLT, Nat.reduceSub, reduceIte, reduceCtorEq, pvI, Int.reduceToNat, Int.reduceLE, Int.reduceLT, Int.reduceMul, Int.reduceAdd, Int.reduceGT, Int.reduceGE, Int.reduceEq, pvY, Nat.reduceMul, pvZ, okSel, z_x1]
            exact ⟨_, 0, Nat.zero_le _, rfl, rfl, rfl⟩
          · rintro k vs H - ⟨j, hj, rfl, rfl, rfl⟩
            simp only [pvB, ↓pvP, pvDom, pvRr, Nat.reduceAdd, Nat.reduceEqDiff, Nat.reduceLeDiff, Nat.reduceLT, Nat.reduceSub, reduceIte, reduceCtorEq, pvI, Int.reduceToNat, Int.reduceLE, Int.reduceLT, Int.reduceMul, Int.reduceAdd, Int.reduceGT, Int.reduceGE, Int.reduceEq, pvY, Nat.reduceMul, pvZ, okSel, z_x1, c_0, c_1, hc_I, ap_I]
            have hj6 : j ≤ 6 := Nat.le_trans hj (hnm x.toNat)
            refine ⟨⟨hx.1, by omega⟩, fun h2 => ?_, fun h2 => ?_⟩
            · have h2 := dlt h2
              have hk := hid x.toNat j h2
              have hkl := kid_len p x (y :: t) j
              simp only [List.length_cons, List.length_nil] at hkl hlen
              refine ⟨⟨hx.1, by omega⟩, in_of j h2, ⟨hk.1, by omega⟩, fun h => ?_, fun h => ?_⟩
              · have e : itr (kidR p x) (j + 1) (y :: t) = itr (kidR p x) j (y :: t) ++ [kidId p x j] := by simp only [itr]; exact bif_tI h
                exact ⟨⟨by omega, by omega⟩, _, by omega, j + 1, h2, rfl, by rw [w_add (by omega), e, List.length_append]; rfl, by rw [e]; rfl⟩
              · have e : itr (kidR p x) (j + 1) (y :: t) = itr (kidR p x) j (y :: t) := by simp only [itr]; exact bif_fI h
                exact ⟨_, by omega, j + 1, h2, rfl, by rw [w_add (by omega), e], by rw [e]⟩
            · obtain rfl := dge h2 hj
              have hc := cf_set hxm h1
              have hkl := kid_len p x (y :: t) (p.nodes.getD x.toNat default).names.length
              have hn6 := hnm x.toNat
              refine ⟨_, by omega, m.set x.toNat true, _, rfl, rfl, rfl, by simp [hm], ?_, ?_, fun z hy => ?_⟩
              · rw [hb, ← hc]; simp only [bfs, h1, cond_false]; rfl
              · simp only [List.length_cons, List.length_nil] at hlen hkl ⊢; omega
              · rcases kid_mem p x (y :: t) _ z hy with h | ⟨i, h3, rfl⟩
                · exact hr z (List.mem_cons_of_mem _ h)
                · exact hid x.toNat i h3

end Go.Proofs.YtemoiphdjocaiaaGreat

namespace Go.Proofs.YtemoiphdjocaiaaGreat
open Go.Pv
set_option linter.unusedSimpArgs false
set_option maxRecDepth 100000
set_option maxHeartbeats 4000000

def lkR (p : Fs) (i j : Nat) (l : List Int) : List Int := inc l ((p.nodes.getD i default).names.getD j default).id
def lkF (p : Fs) (i : Nat) (l : List Int) : List Int := itr (lkR p i) (p.nodes.getD i default).names.length l
def lkL (p : Fs) : List Int := itr (lkF p) 10 (List.replicate 10 0)
def fsBad (p : Fs) (i : Nat) : Bool := decide ((lkL p).getD i 0 > 0) && decide ((p.nodes.getD i default).kind = 0) || !decide ((p.nodes.getD i default).kind = 0) && !decide ((p.nodes.getD i default).links = (lkL p).getD i 0) || decide ((p.nodes.getD i default).kind = 2) && !(folders p).1.getD i false || decide ((p.nodes.getD i default).kind = 1) && decide ((p.nodes.getD i default).links = 0) && decide ((p.nodes.getD i default).opens = 0)
def fsEnd (p : Fs) : Bool := bif !decide ((p.nodes.getD 0 default).kind = 2) then false else ((folders p).2 && (List.range 10).all (fun i => !fsBad p i))
def fsOk (p : Fs) : Bool := !(!decide ((p.nodes.length : Int) = 10)) && ((List.range 10).all (fun i => nodeOk (p.nodes.getD i default)) && fsEnd p)
theorem bfs_len (p : Fs) : ∀ (n : Nat) (m : List Bool) (t : List Int), (bfs p n m t).1.length = m.length
  | n, m, [] => by cases n <;> rfl
  | 0, m, _ :: _ => rfl
  | n + 1, m, x :: r => by
    simp only [bfs]
    cases m.getD x.toNat false with
    | true => rfl
    | false => simp only [cond_false]; rw [bfs_len p n]; simp
theorem folders_len (p : Fs) : (folders p).1.length = 10 := by unfold folders; rw [bfs_len]; simp
theorem nodeOk_names {n : Inode} (h : nodeOk n = true) : n.names.length ≤ 6 ∧ ∀ j, j < n.names.length → 1 ≤ (n.names.getD j default).id ∧ (n.names.getD j default).id ≤ 9 := by
  unfold nodeOk at h
  cases h0 : decide (n.kind = 0) with
  | true =>
    rw [h0] at h
    simp only [cond_true, nodeZero, Bool.and_eq_true, decide_eq_true_eq] at h
    have : n.names.length = 0 := by have := h.2; omega
    exact ⟨by omega, fun j hj => by omega⟩
  | false =>
    rw [h0] at h
    simp only [cond_false, Bool.and_eq_true, Bool.not_eq_true', Bool.or_eq_false_iff] at h
    obtain ⟨⟨h1, _⟩, h2⟩ := h
    simp only [nodeBad1, Bool.or_eq_false_iff, decide_eq_false_iff_not] at h1
    refine ⟨by have := h1.2; omega, fun j hj => ?_⟩
    have := List.all_eq_true.1 h2 j (List.mem_range.2 hj)
    simp only [nameAt, Bool.not_eq_true', Bool.or_eq_false_iff, Bool.not_eq_false', inB, Bool.and_eq_true, decide_eq_true_eq] at this
    have := this.1.2
    omega
theorem names_all {p : Fs} (hl : p.nodes.length = 10) (hP : ∀ j, j < 10 → nodeOk (p.nodes.getD j default) = true) : (∀ i, (p.nodes.getD i default).names.length ≤ 6) ∧ ∀ i j, j < (p.nodes.getD i default).names.length → 0 ≤ ((p.nodes.getD i default).names.getD j default).id ∧ ((p.nodes.getD i default).names.getD j default).id < 10 := by
  have hd : ∀ i, ¬ i < 10 → p.nodes.getD i default = default := fun i hi => by simp [List.getD, show ¬ i < p.nodes.length by omega]
  constructor
  · intro i
    by_cases hi : i < 10
    · exact (nodeOk_names (hP i hi)).1
    · rw [hd i hi]; decide
  · intro i j hj
    by_cases hi : i < 10
    · have := (nodeOk_names (hP i hi)).2 j hj
      omega
    · rw [hd i hi] at hj; exact absurd hj (Nat.not_lt_zero j)

theorem pc145 (p : Fs) : PC Tryz.prog 145 [.agg [.sl 9 (p.nodes.map Inode.enc)]] (.bool (fsOk p)) := by
  refine PC.of_vc mixed (phiOf [(174, an174), (175, an175)]) Tryz.func145 (by kernel_rfl) (rfl : Tryz.f145.body = some _) Tryz.ntmps145 (by kernel_rfl) rfl (by kernel_rfl) Tryz.results145 fun hwf => ?_
  simp only [pvB, ↓pvP, pvDom, pvRr, Nat.reduceAdd, Nat.reduceEqDiff, Nat.reduceLeDiff, Nat.reduceLT, Nat.reduceSub, reduceIte, reduceCtorEq, an174, pc174, pvI, Int.reduceToNat, Int.reduceLE, Int.reduceLT, Int.reduceMul, Int.reduceAdd, Int.reduceGT, Int.reduceGE, Int.reduceEq, pvY, Nat.reduceMul]
  clear hwf
  refine ⟨fun h0 => ?_, fun h0 => ?_⟩
  · exact pre_bad h0
  rw [show fsOk p = ((List.range 10).all (fun i => nodeOk (p.nodes.getD i default)) && fsEnd p) from by unfold fsOk; rw [h0]; rfl]
  have hl : p.nodes.length = 10 := by
    simp only [Bool.not_eq_false', decide_eq_true_eq] at h0
    omega
  refine .inl ⟨[1, 3, 4], fun _ => 2, fun k vs H => ∃ (i : Nat) (l : List Int), i ≤ 10 ∧ k = 10 - i ∧ vs = [.ptr 0 1 0 0, .own 1 1 0 10, .int .i64 i] ∧ H = [.rows 157 1 [[.sl 9 (p.nodes.map Inode.enc)]], .rows 3 1 (l.map encI)] ∧ l = itr (lkF p) i (List.replicate 10 0) ∧ l.length = 10 ∧ ∀ j, j < i → nodeOk (p.nodes.getD j default) = true, fun _ => Nat.zero_le _, ?_, ?_⟩
  · simp only [pvB, ↓pvP, pvDom, pvRr, Nat.reduceAdd, Nat.reduceEqDiff, Nat.reduceLeDiff, Nat.reduceLT, Nat.reduceSub, reduceIte, reduceCtorEq, pvI, Int.reduceToNat, Int.reduceLE, Int.reduceLT, Int.reduceMul, Int.reduceAdd, Int.reduceGT, Int.reduceGE, Int.reduceEq, pvY, Nat.reduceMul]
    exact ⟨_, 0, _, Nat.zero_le _, rfl, rfl, rfl, rfl, by simp, fun j hj => absurd hj (Nat.not_lt_zero j)⟩
  · rintro k vs H - ⟨i, l, hi, rfl, rfl, rfl, hll, hlen, hP⟩
    rcases Nat.lt_or_ge i 10 with h1 | h1
    · simp only [pvB, ↓pvP, pvDom, pvRr, Nat.reduceAdd, Nat.reduceEqDiff, Nat.reduceLeDiff, Nat.reduceLT, Nat.reduceSub, reduceIte, reduceCtorEq, pvI, Int.reduceToNat, Int.reduceLE, Int.reduceLT, Int.reduceMul, Int.reduceAdd, Int.reduceGT, Int.reduceGE, Int.reduceEq, pvY, Nat.reduceMul, an174, pc174]
      refine ⟨fun _ => ⟨in_of i (by omega), fun h2 => all_bad h1 (nb_t h2), fun h2 => ?_⟩, fun h => absurd (of_decide_eq_false h) (by omega)⟩
      have hnk := nodeOk_names (nb_f h2)
      refine .inl ⟨[1, 3, 4, 5], fun _ => 2, fun k vs H => ∃ (j : Nat) (l' : List Int), j ≤ (p.nodes.getD i default).names.length ∧ k = (p.nodes.getD i default).names.length - j ∧ vs = [.ptr 0 1 0 0, .own 1 1 0 10, .int .i64 i, .int .i64 j] ∧ H = [.rows 157 1 [[.sl 9 (p.nodes.map Inode.enc)]], .rows 3 1 (l'.map encI)] ∧ l' = itr (lkR p i) j l ∧ l'.length = 10, fun _ => Nat.zero_le _, ?_, ?_⟩
      · simp only [pvB, ↓pvP, pvDom, pvRr, Nat.reduceAdd, Nat.reduceEqDiff, Nat.reduceLeDiff, Nat.reduceLT, Nat.reduceSub, reduceIte, reduceCtorEq, pvI, Int.reduceToNat, Int.reduceLE, Int.reduceLT, Int.reduceMul, Int.reduceAdd, Int.reduceGT, Int.reduceGE, Int.reduceEq, pvY, Nat.reduceMul]
        exact ⟨_, 0, _, Nat.zero_le _, rfl, rfl, rfl, rfl, hlen⟩
      · rintro k vs H - ⟨j, l', hj, rfl, rfl, rfl, hl', hlen'⟩
        simp only [pvB, ↓pvP, pvDom, pvRr, Nat.reduceAdd, Nat.reduceEqDiff, Nat.reduceLeDiff, Nat.reduceLT, Nat.reduceSub, reduceIte, reduceCtorEq, pvI, Int.reduceToNat, Int.reduceLE, Int.reduceLT, Int.reduceMul, Int.reduceAdd, Int.reduceGT, Int.reduceGE, Int.reduceEq, pvY, Nat.reduceMul]
        refine ⟨in_of i (by omega), fun h3 => ?_, fun h3 => ?_⟩
        · have h3 := dlt h3
          have hr := hnk.2 j h3
          have hb : (0 ≤ ((p.nodes.getD i default).names.getD j default).id ∧ ((p.nodes.getD i default).names.getD j default).id < ((10 : Nat) : Int)) := ⟨by omega, by omega⟩
          have hb2 : (((p.nodes.getD i default).names.getD j default).id).toNat < l'.length := by omega
          exact ⟨in_of i (by omega), in_of j h3, in_of i (by omega), in_of j h3, hb, hb2, hb, hb2, _, by omega, j + 1, _, h3, rfl, by rw [w_add (by omega)], rfl, by rw [hl']; rfl, by rw [inc_len']; exact hlen'⟩
        · obtain rfl := dge h3 hj
          exact ⟨_, by omega, i + 1, _, h1, rfl, by rw [w_add (by omega)], rfl, by rw [hl', hll]; rfl, hlen', all_next hP (nb_f h2)⟩
    · obtain rfl : i = 10 := by omega
      obtain ⟨hnm, hid⟩ := names_all hl hP
      have h175 := pc175 p hl hnm hid
      simp only [pvB, ↓pvP, pvDom, pvRr, Nat.reduceAdd, Nat.reduceEqDiff, Nat.reduceLeDiff, Nat.reduceLT, Nat.reduceSub, reduceIte, reduceCtorEq, pvI, Int.reduceToNat, Int.reduceLE, Int.reduceLT, Int.reduceMul, Int.reduceAdd, Int.reduceGT, Int.reduceGE, Int.reduceEq, pvY, Nat.reduceMul, an174, pc174, an175, h175]
      have hfl := folders_len p
      have hL : l = lkL p := hll
      subst hL
      have hA : (List.range 10).all (fun i => nodeOk (p.nodes.getD i default)) = true := List.all_eq_true.2 fun j hj => hP j (List.mem_range.1 hj)
      rw [hA, Bool.true_and]
      refine ⟨fun h => absurd (of_decide_eq_true h) (by omega), fun _ => ⟨by omega, fun h2 => ?_, fun h2 => ?_⟩⟩
      · rw [fsEnd, bif_t h2]; exact Le.refl _
      · rw [fsEnd, bif_f h2]
        refine .inl ⟨[1, 3, 6, 7, 8], fun _ => 2, fun k vs H => ∃ (i : Nat), i ≤ 10 ∧ k = 10 - i ∧ vs = [.ptr 0 1 0 0, .own 1 1 0 10, .sl 1 ((folders p).1.map encB), .bool (folders p).2, .int .i64 i] ∧ H = [.rows 157 1 [[.sl 9 (p.nodes.map Inode.enc)]], .rows 3 1 ((lkL p).map encI)] ∧ ∀ j, j < i → (!fsBad p j) = true, fun _ => Nat.zero_le _, ?_, ?_⟩
        · simp only [pvB, ↓pvP, pvDom, pvRr, Nat.reduceAdd, Nat.reduceEqDiff, Nat.reduceLeDiff, Nat.reduceLT, Nat.reduceSub, reduceIte, reduceCtorEq, pvI, Int.reduceToNat, Int.reduceLE, Int.reduceLT, Int.reduceMul, Int.reduceAdd, Int.reduceGT, Int.reduceGE, Int.reduceEq, pvY, Nat.reduceMul]
          exact ⟨_, 0, Nat.zero_le _, rfl, rfl, fun j hj => absurd hj (Nat.not_lt_zero j)⟩
        · rintro k vs H - ⟨i, hi, rfl, rfl, rfl, hP⟩
          simp only [pvB, ↓pvP, pvDom, pvRr, Nat.reduceAdd, Nat.reduceEqDiff, Nat.reduceLeDiff, Nat.reduceLT, Nat.reduceSub, reduceIte, reduceCtorEq, pvI, Int.reduceToNat, Int.reduceLE, Int.reduceLT, Int.reduceMul, Int.reduceAdd, Int.reduceGT, Int.reduceGE, Int.reduceEq, pvY, Nat.reduceMul]
          refine ⟨fun h3 => ?_, fun h3 => ?_⟩
          · have h3' : i < 10 ∧ (folders p).2 = true := by
              simp only [Bool.and_eq_true, decide_eq_true_eq] at h3
              exact ⟨by omega, h3.2⟩
            have hc : (0 : Int) ≤ (i : Int) ∧ (i : Int) < ((10 : Nat) : Int) := ⟨by omega, by omega⟩
            refine ⟨in_of i (by omega), hc, by omega, fun _ => hc, fun _ => by omega, fun _ => in_of i (by omega), fun h => ?_, fun h => ⟨_, by omega, i + 1, h3'.1, rfl, by rw [w_add (by omega)], all_next hP (congrArg not h)⟩⟩
            rw [h3'.2, Bool.true_and]
            have := all_bad (P := fun i => !fsBad p i) (r := true) h3'.1 (congrArg not h)
            rwa [Bool.and_true] at this
          · cases hf : (folders p).2 with
            | false => exact Le.refl _
            | true =>
              rw [hf, Bool.and_true] at h3
              obtain rfl : i = 10 := by have := of_decide_eq_false h3; omega
              have := all_end (P := fun i => !fsBad p i) (r := true) hP
              rw [Bool.true_and]
              rwa [Bool.and_true] at this

end Go.Proofs.YtemoiphdjocaiaaGreat

namespace Go.Proofs.YtemoiphdjocaiaaGreat
open Go.Pv
set_option linter.unusedSimpArgs false
set_option maxRecDepth 100000
set_option maxHeartbeats 4000000

def abR (p : Fs) (i j : Nat) (l : List Int) : List Int := l.set (((p.nodes.getD i default).names.getD j default).id).toNat (i : Int)
def abF (p : Fs) (i : Nat) (l : List Int) : List Int := itr (abR p i) (p.nodes.getD i default).names.length l
def abL (p : Fs) : List Int := itr (abF p) 10 (List.replicate 10 0)
def nodeBadI1 (n : Inode) : Bool := !inB n.kind 1 2 || !inB n.mode 0 511 || !inB n.owner 0 9 || !inB n.group 0 9 || !inB n.opens 0 99
def nodeBadI2 (n : Inode) : Bool := decide (n.kind = 1) && (decide ((n.text.size : Int) > 40) || decide ((n.names.length : Int) > 0)) || decide (n.kind = 2) && (!eqS n.text ⟨#[]⟩ || n.mark || decide ((n.names.length : Int) > 6))
def nameBadI (p : Fs) (i j : Nat) : Bool := !nameOk ((p.nodes.getD i default).names.getD j default).name || !inB ((p.nodes.getD i default).names.getD j default).id 0 9 || decide ((p.nodes.getD ((p.nodes.getD i default).names.getD j default).id.toNat default).kind = 0) || decide ((j : Int) > 0) && !ltS ((p.nodes.getD i default).names.getD (bef j) default).name ((p.nodes.getD i default).names.getD j default).name
/-- Up to node 0. -/
def climb (p : Fs) : Nat → Int → Bool
  | 0, a => decide (a = 0)
  | f + 1, a => decide (a = 0) || climb p f ((abL p).getD a.toNat 0)
def fsC1 (p : Fs) (i : Nat) : Bool := !decide ((p.nodes.getD i default).links = (lkL p).getD i 0)
def fsC2 (p : Fs) (i : Nat) : Bool := decide ((p.nodes.getD i default).kind = 1) && decide ((p.nodes.getD i default).links = 0) && decide ((p.nodes.getD i default).opens = 0)
def fsC3 (p : Fs) (i : Nat) : Bool := decide ((p.nodes.getD i default).kind = 2) && decide ((i : Int) > 0) && !decide ((p.nodes.getD i default).links = 1)
def fsC4 (p : Fs) (i : Nat) : Bool := decide ((i : Int) = 0) && !decide ((p.nodes.getD i default).links = 0)
def fsAtI (p : Fs) (i : Nat) : Bool := bif decide ((p.nodes.getD i default).kind = 0) then true else bif fsC1 p i then false else bif fsC2 p i then false else bif fsC3 p i then false else bif fsC4 p i then false else
  bif decide ((p.nodes.getD i default).kind = 2) then climb p 11 i else true
theorem namesI {n : Inode} (h1 : nodeBadI1 n = false) (h2 : nodeBadI2 n = false) : n.names.length ≤ 6 := by
  simp only [nodeBadI1, Bool.or_eq_false_iff, Bool.not_eq_false', inB, Bool.and_eq_true, decide_eq_true_eq] at h1
  simp only [nodeBadI2, Bool.or_eq_false_iff] at h2
  rcases (show n.kind = 1 ∨ n.kind = 2 by omega) with h | h
  · have := h2.1
    rw [h] at this
    simp only [decide_true, Bool.true_and, Bool.or_eq_false_iff, decide_eq_false_iff_not] at this
    omega
  · have := h2.2
    rw [h] at this
    simp only [decide_true, Bool.true_and, Bool.or_eq_false_iff, decide_eq_false_iff_not] at this
    omega
theorem climb0 (p : Fs) (n : Nat) : climb p n 0 = true := by cases n <;> simp [climb]
theorem all_false {P : Nat → Bool} {n i : Nat} (h1 : i < n) (h : P i = false) : (List.range n).all P = false := by
  rw [← Bool.not_eq_true]; intro hall
  have := List.all_eq_true.1 hall i (List.mem_range.2 h1)
  rw [h] at this; cases this
theorem all_true {P : Nat → Bool} {n : Nat} (h : ∀ i, i < n → P i = true) : (List.range n).all P = true := List.all_eq_true.2 fun j hj => h j (List.mem_range.1 hj)
theorem ab_in (p : Fs) : ∀ x, x ∈ abL p → 0 ≤ x ∧ x < 10 := by
  have h1 : ∀ i, i < 10 → ∀ (n : Nat) (l : List Int), (∀ x, x ∈ l → 0 ≤ x ∧ x < 10) → ∀ x, x ∈ itr (abR p i) n l → 0 ≤ x ∧ x < 10 := by
    intro i hi n
    induction n with
    | zero => intro l hl x hx; exact hl x hx
    | succ n ih =>
      intro l hl x hx
      simp only [itr, abR] at hx
      rcases List.mem_or_eq_of_mem_set hx with h | h
      · exact ih l hl x h
      · omega
  have h2 : ∀ n, n ≤ 10 → ∀ x, x ∈ itr (abF p) n (List.replicate 10 0) → 0 ≤ x ∧ x < 10 := by
    intro n
    induction n with
    | zero => intro _ x hx; have := List.eq_of_mem_replicate hx; omega
    | succ n ih => intro hn x hx; exact h1 n (by omega) _ _ (ih (by omega)) x hx
  exact h2 10 (by omega)
def nodeOkI (p : Fs) (i : Nat) : Bool := bif decide ((p.nodes.getD i default).kind = 0) then nodeZero (p.nodes.getD i default) else !(nodeBadI1 (p.nodes.getD i default) || nodeBadI2 (p.nodes.getD i default)) && (List.range (p.nodes.getD i default).names.length).all (fun j => !nameBadI p i j)
def fsOkI (p : Fs) : Bool := !(!decide ((p.nodes.length : Int) = 10) || !decide ((p.nodes.getD 0 default).kind = 2)) && ((List.range 10).all (nodeOkI p) && (List.range 10).all (fsAtI p))

theorem pc121 (p : Fs) : PC Tryz.prog 121 [.agg [.sl 9 (p.nodes.map Inode.enc)]] (.bool (fsOkI p)) := by
  refine PC.of_vc mixed (phiOf [(35, an35), (161, an161), (162, an162)]) Tryz.func121 (by kernel_rfl) (rfl : Tryz.f121.body = some _) Tryz.ntmps121 (by kernel_rfl) rfl (by kernel_rfl) Tryz.results121 fun hwf => ?_
  simp only [pvB, ↓pvP, pvDom, pvRr, Nat.reduceAdd, Nat.reduceEqDiff, Nat.reduceLeDiff, Nat.reduceLT, Nat.reduceSub, reduceIte, reduceCtorEq, an35, pc35, an161, pc161, an162, pc162, pvI, Int.reduceToNat, Int.reduceLE, Int.reduceLT, Int.reduceMul, Int.reduceAdd, Int.reduceGT, Int.reduceGE, Int.reduceEq, pvY, Nat.reduceMul]
  clear hwf
  refine ⟨fun h => by have := of_decide_eq_true h; omega, fun h0 => ?_, fun h0 => ?_⟩
  · exact pre_bad h0
  rw [show fsOkI p = ((List.range 10).all (nodeOkI p) && (List.range 10).all (fsAtI p)) from by unfold fsOkI; rw [h0]; rfl]
  have hl : p.nodes.length = 10 := by
    simp only [Bool.or_eq_false_iff, Bool.not_eq_false', decide_eq_true_eq] at h0
    omega
  refine .inl ⟨[1, 3, 4, 28, 29, 30], fun _ => 3, fun k vs H => ∃ (i : Nat) (l a : List Int), i ≤ 10 ∧ k = 10 - i ∧ vs = [.ptr 0 1 0 0, .own 1 1 0 10, .own 2 1 0 10, .sl 9 (p.nodes.map Inode.enc), .int .i64 p.nodes.length, .int .i64 i] ∧ H = [.rows 157 1 [[.sl 9 (p.nodes.map Inode.enc)]], .rows 3 1 (l.map encI), .rows 3 1 (a.map encI)] ∧ l = itr (lkF p) i (List.replicate 10 0) ∧ a = itr (abF p) i (List.replicate 10 0) ∧ l.length = 10 ∧ a.length = 10 ∧ ∀ j, j < i → nodeOkI p j = true, fun _ => Nat.zero_le _, ?_, ?_⟩
  · simp only [pvB, ↓pvP, pvDom, pvRr, Nat.reduceAdd, Nat.reduceEqDiff, Nat.reduceLeDiff, Nat.reduceLT, Nat.reduceSub, reduceIte, reduceCtorEq, pvI, Int.reduceToNat, Int.reduceLE, Int.reduceLT, Int.reduceMul, Int.reduceAdd, Int.reduceGT, Int.reduceGE, Int.reduceEq, pvY, Nat.reduceMul]
    exact ⟨_, 0, _, _, Nat.zero_le _, rfl, rfl, rfl, rfl, rfl, by simp, by simp, fun j hj => absurd hj (Nat.not_lt_zero j)⟩
  · rintro k vs H - ⟨i, l, a, hi, rfl, rfl, rfl, hll, haa, hlen, halen, hP⟩
    simp only [pvB, ↓pvP, pvDom, pvRr, Nat.reduceAdd, Nat.reduceEqDiff, Nat.reduceLeDiff, Nat.reduceLT, Nat.reduceSub, reduceIte, reduceCtorEq, pvI, Int.reduceToNat, Int.reduceLE, Int.reduceLT, Int.reduceMul, Int.reduceAdd, Int.reduceGT, Int.reduceGE, Int.reduceEq, pvY, Nat.reduceMul, an35, pc35, an161, pc161, an162, pc162]
    refine ⟨fun h1 => ?_, fun h1 => ?_⟩
    · have h1 : i < 10 := by have := dlt h1; omega
      refine ⟨in_of i (by omega), fun h2 => ⟨fun h3 => ?_, fun h3 => ?_⟩, fun h2 => ⟨fun h3 => ?_, fun h3 => ⟨fun h4 => ?_, fun h4 => ?_⟩⟩⟩
      · exact all_bad h1 ((bif_t h2).trans (nb_t h3))
      · have hz : (p.nodes.getD i default).names.length = 0 := by
          have := nb_f h3
          simp only [nodeZero, Bool.and_eq_true, decide_eq_true_eq] at this
          omega
        exact ⟨_, by omega, i + 1, l, a, h1, rfl, by rw [w_add (by omega)], rfl, by simp only [itr, lkF, hz]; exact hll, by simp only [itr, abF, hz]; exact haa, hlen, halen, all_next hP ((bif_t h2).trans (nb_f h3))⟩
      · exact all_bad h1 ((bif_f h2).trans (by rw [show nodeBadI1 (p.nodes.getD i default) = true from h3]; rfl))
      · exact all_bad h1 ((bif_f h2).trans (by rw [show nodeBadI2 (p.nodes.getD i default) = true from h4, Bool.or_true]; rfl))
      · refine .inl ⟨[1, 3, 4, 28, 29, 30, 5, 6, 105, 106, 107], fun _ => 4, fun k vs H => ∃ (j : Nat) (l' a' : List Int), j ≤ (p.nodes.getD i default).names.length ∧ k = (p.nodes.getD i default).names.length - j ∧ vs = [.ptr 0 1 0 0, .own 1 1 0 10, .own 2 1 0 10, .sl 9 (p.nodes.map Inode.enc), .int .i64 p.nodes.length, .int .i64 i, .int .i64 i, .ptr 3 9 0 0, .sl 2 ((p.nodes.getD i default).names.map Entry.enc), .int .i64 (p.nodes.getD i default).names.length, .int .i64 j] ∧ H = [.rows 157 1 [[.sl 9 (p.nodes.map Inode.enc)]], .rows 3 1 (l'.map encI), .rows 3 1 (a'.map encI), .rows 146 9 [[.int .i64 (p.nodes.getD i default).kind, .int .i64 (p.nodes.getD i default).mode, .int .i64 (p.nodes.getD i default).owner, .int .i64 (p.nodes.getD i default).group, .int .i64 (p.nodes.getD i default).links, .int .i64 (p.nodes.getD i default).opens, .bool (p.nodes.getD i default).mark, .str (p.nodes.getD i default).text, .sl 2 ((p.nodes.getD i default).names.map Entry.enc)]]] ∧ l' = itr (lkR p i) j l ∧ a' = itr (abR p i) j a ∧ l'.length = 10 ∧ a'.length = 10 ∧ ∀ x, x < j → (!nameBadI p i x) = true, fun _ => Nat.zero_le _, ?_, ?_⟩
        · simp only [pvB, ↓pvP, pvDom, pvRr, Nat.reduceAdd, Nat.reduceEqDiff, Nat.reduceLeDiff, Nat.reduceLT, Nat.reduceSub, reduceIte, reduceCtorEq, pvI, Int.reduceToNat, Int.reduceLE, Int.reduceLT, Int.reduceMul, Int.reduceAdd, Int.reduceGT, Int.reduceGE, Int.reduceEq, pvY, Nat.reduceMul]
          exact ⟨_, 0, _, _, Nat.zero_le _, rfl, rfl, rfl, rfl, rfl, hlen, halen, fun j hj => absurd hj (Nat.not_lt_zero j)⟩
        · rintro k vs H - ⟨j, l', a', hj, rfl, rfl, rfl, hl', ha', hlen', halen', hPj⟩
          simp only [pvB, ↓pvP, pvDom, pvRr, Nat.reduceAdd, Nat.reduceEqDiff, Nat.reduceLeDiff, Nat.reduceLT, Nat.reduceSub, reduceIte, reduceCtorEq, pvI, Int.reduceToNat, Int.reduceLE, Int.reduceLT, Int.reduceMul, Int.reduceAdd, Int.reduceGT, Int.reduceGE, Int.reduceEq, pvY, Nat.reduceMul, an35, pc35, an161, pc161, an162, pc162]
          have hbad : (nodeBadI1 (p.nodes.getD i default) || nodeBadI2 (p.nodes.getD i default)) = false := by rw [show nodeBadI1 (p.nodes.getD i default) = false from h3, show nodeBadI2 (p.nodes.getD i default) = false from h4]; rfl
          have hn6 := namesI (n := p.nodes.getD i default) h3 h4
          refine ⟨fun h5 => ?_, fun h5 => ?_⟩
          · have h5 := dlt h5
            refine ⟨in_of j h5, fun h => ?_, fun h => pre_in h h5 (by omega), fun h => ?_, fun h => ?_⟩
            · simp only [Bool.not_eq_true', Bool.or_eq_false_iff, Bool.not_eq_false', inB, Bool.and_eq_true, decide_eq_true_eq] at h
              omega
            · refine all_bad h1 ((bif_f h2).trans ?_)
              rw [all_false (P := fun j => !nameBadI p i j) h5 (congrArg not h), Bool.and_false]
            · have hid : 0 ≤ ((p.nodes.getD i default).names.getD j default).id ∧ ((p.nodes.getD i default).names.getD j default).id < ((10 : Nat) : Int) := by
                have h := h
                simp only [Bool.or_eq_false_iff, Bool.not_eq_false', inB, Bool.and_eq_true, decide_eq_true_eq] at h
                omega
              have hb2 : (((p.nodes.getD i default).names.getD j default).id).toNat < l'.length := by omega
              have hb3 : (((p.nodes.getD i default).names.getD j default).id).toNat < a'.length := by omega
              exact ⟨hid, hb2, hid, hb2, hid, hb3, _, by omega, j + 1, _, _, h5, rfl, by rw [w_add (by omega)], rfl, by rw [hl']; rfl, by rw [ha']; rfl, by rw [inc_len']; exact hlen', by rw [inc_len']; exact halen', all_next hPj (congrArg not h)⟩
          · obtain rfl := dge h5 hj
            exact ⟨_, by omega, i + 1, _, _, h1, rfl, by rw [w_add (by omega)], rfl, by rw [hl', hll]; rfl, by rw [ha', haa]; rfl, hlen', halen', all_next hP ((bif_f h2).trans (by rw [hbad, all_true hPj]; rfl))⟩
    · obtain rfl : i = 10 := by have := dge h1 (by omega); omega
      have hL : l = lkL p := hll
      have hA : a = abL p := haa
      subst hL hA
      rw [all_true hP, Bool.true_and]
      refine .inl ⟨[1, 3, 4, 163, 164, 165], fun _ => 3, fun k vs H => ∃ (i : Nat), i ≤ 10 ∧ k = 10 - i ∧ vs = [.ptr 0 1 0 0, .own 1 1 0 10, .own 2 1 0 10, .sl 9 (p.nodes.map Inode.enc), .int .i64 p.nodes.length, .int .i64 i] ∧ H = [.rows 157 1 [[.sl 9 (p.nodes.map Inode.enc)]], .rows 3 1 ((lkL p).map encI), .rows 3 1 ((abL p).map encI)] ∧ ∀ j, j < i → fsAtI p j = true, fun _ => Nat.zero_le _, ?_, ?_⟩
      · simp only [pvB, ↓pvP, pvDom, pvRr, Nat.reduceAdd, Nat.reduceEqDiff, Nat.reduceLeDiff, Nat.reduceLT, Nat.reduceSub, reduceIte, reduceCtorEq, pvI, Int.reduceToNat, Int.reduceLE, Int.reduceLT, Int.reduceMul, Int.reduceAdd, Int.reduceGT, Int.reduceGE, Int.reduceEq, pvY, Nat.reduceMul]
        exact ⟨_, 0, Nat.zero_le _, rfl, rfl, fun j hj => absurd hj (Nat.not_lt_zero j)⟩
      · rintro k vs H - ⟨i, hi, rfl, rfl, rfl, hP⟩
        simp only [pvB, ↓pvP, pvDom, pvRr, Nat.reduceAdd, Nat.reduceEqDiff, Nat.reduceLeDiff, Nat.reduceLT, Nat.reduceSub, reduceIte, reduceCtorEq, pvI, Int.reduceToNat, Int.reduceLE, Int.reduceLT, Int.reduceMul, Int.reduceAdd, Int.reduceGT, Int.reduceGE, Int.reduceEq, pvY, Nat.reduceMul]
        refine ⟨fun h1 => ?_, fun h1 => ?_⟩
        · have h1 : i < 10 := by have := dlt h1; omega
          have hc : (0 : Int) ≤ (i : Int) ∧ (i : Int) < ((10 : Nat) : Int) := ⟨by omega, by omega⟩
          refine ⟨in_of i (by omega), fun h2 => ⟨_, by omega, i + 1, h1, rfl, by rw [w_add (by omega)], all_next hP (bif_t h2)⟩, fun h2 => ⟨hc, by omega, fun c1 => ⟨fun _ => ?_, fun c => absurd (c1.symm.trans c) (by decide)⟩, fun c1 => ⟨fun c2 => ⟨fun _ => ?_, fun c => absurd (c2.symm.trans c) (by decide)⟩, fun c2 => ⟨fun c3 => ⟨fun _ => ?_, fun c => absurd (c3.symm.trans c) (by decide)⟩, fun c3 => ⟨fun c4 => ?_, fun c4 => ⟨fun kf => ?_, fun kf => ⟨_, by omega, i + 1, h1, rfl, by rw [w_add (by omega)], all_next hP ((bif_f h2).trans ((bif_f c1).trans ((bif_f c2).trans ((bif_f c3).trans ((bif_f c4).trans (bif_f kf))))))⟩⟩⟩⟩⟩⟩⟩
          · exact all1_bad h1 ((bif_f h2).trans (bif_t c1))
          · exact all1_bad h1 ((bif_f h2).trans ((bif_f c1).trans (bif_t c2)))
          · exact all1_bad h1 ((bif_f h2).trans ((bif_f c1).trans ((bif_f c2).trans (bif_t c3))))
          · exact all1_bad h1 ((bif_f h2).trans ((bif_f c1).trans ((bif_f c2).trans ((bif_f c3).trans (bif_t c4)))))
          · have hat : fsAtI p i = climb p 11 i := (bif_f h2).trans ((bif_f c1).trans ((bif_f c2).trans ((bif_f c3).trans ((bif_f c4).trans (bif_t kf)))))
            refine .inl ⟨[1, 3, 4, 163, 164, 165, 11, 12], fun _ => 3, fun k vs H => ∃ (n : Nat) (a : Int), n ≤ 11 ∧ 0 ≤ a ∧ a < 10 ∧ climb p 11 i = climb p (11 - n) a ∧ k = 12 - n ∧ vs = [.ptr 0 1 0 0, .own 1 1 0 10, .own 2 1 0 10, .sl 9 (p.nodes.map Inode.enc), .int .i64 p.nodes.length, .int .i64 i, .int .i64 a, .int .i64 n] ∧ H = [.rows 157 1 [[.sl 9 (p.nodes.map Inode.enc)]], .rows 3 1 ((lkL p).map encI), .rows 3 1 ((abL p).map encI)], fun _ => Nat.zero_le _, ?_, ?_⟩
            · simp only [pvB, ↓pvP, pvDom, pvRr, Nat.reduceAdd, Nat.reduceEqDiff, Nat.reduceLeDiff, Nat.reduceLT, Nat.reduceSub, reduceIte, reduceCtorEq, pvI, Int.reduceToNat, Int.reduceLE, Int.reduceLT, Int.reduceMul, Int.reduceAdd, Int.reduceGT, Int.reduceGE, Int.reduceEq, pvY, Nat.reduceMul]
              exact ⟨_, 0, i, by omega, by omega, by omega, rfl, rfl, rfl⟩
            · rintro k vs H - ⟨n, a, hn, ha0, ha1, hcl, rfl, rfl, rfl⟩
              simp only [pvB, ↓pvP, pvDom, pvRr, Nat.reduceAdd, Nat.reduceEqDiff, Nat.reduceLeDiff, Nat.reduceLT, Nat.reduceSub, reduceIte, reduceCtorEq, pvI, Int.reduceToNat, Int.reduceLE, Int.reduceLT, Int.reduceMul, Int.reduceAdd, Int.reduceGT, Int.reduceGE, Int.reduceEq, pvY, Nat.reduceMul]
              refine ⟨fun h3 => ?_, fun h3 => ?_⟩
              · have ha : decide (a = 0) = false := nb_t h3
                refine ⟨fun h => ?_, fun h => ?_⟩
                · have hn11 : n = 11 := by have := of_decide_eq_true h; omega
                  subst hn11
                  exact all1_bad h1 (hat.trans (hcl.trans ha))
                · have hn10 : n ≤ 10 := by have := of_decide_eq_false h; omega
                  have hm : (abL p).getD a.toNat 0 ∈ abL p := by
                    have : a.toNat < (abL p).length := by omega
                    simp [List.getD, this]
                  have hb := ab_in p _ hm
                  refine ⟨⟨ha0, ha1⟩, by omega, _, by omega, n + 1, _, by omega, hb.1, hb.2, hcl.trans ?_, rfl, by rw [w_add (by omega)]⟩
                  obtain ⟨f, hf⟩ : ∃ f, 11 - n = f + 1 := ⟨10 - n, by omega⟩
                  rw [hf, climb, ha, Bool.false_or, show 11 - (n + 1) = f by omega]
              · have ha : a = 0 := of_decide_eq_true (nb_f h3)
                have : fsAtI p i = true := by rw [hat, hcl, ha, climb0]
                exact ⟨_, by omega, i + 1, h1, rfl, by rw [w_add (by omega)], all_next hP this⟩
        · obtain rfl : i = 10 := by have := dge h1 (by omega); omega
          exact all1_end hP

end Go.Proofs.YtemoiphdjocaiaaGreat

namespace Go.Proofs.YtemoiphdjocaiaaGreat
open Go.Pv
set_option linter.unusedSimpArgs false
set_option maxRecDepth 100000
set_option maxHeartbeats 4000000

def an145 : List PV → PV
  | [.agg f] => .bool (fsOk (Fs.dec f))
  | _ => .undef
def an121 : List PV → PV
  | [.agg f] => .bool (fsOkI (Fs.dec f))
  | _ => .undef
theorem fsOk_len {f : Fs} (h : fsOk f = true) : f.nodes.length = 10 := by
  simp only [fsOk, Bool.and_eq_true, Bool.not_eq_true', Bool.not_eq_false', decide_eq_true_eq] at h
  have := h.1; omega
theorem fsOkI_len {f : Fs} (h : fsOkI f = true) : f.nodes.length = 10 := by
  simp only [fsOkI, Bool.and_eq_true, Bool.not_eq_true', Bool.or_eq_false_iff, Bool.not_eq_false', decide_eq_true_eq] at h
  have := h.1.1; omega
def fs0 (p : Vfs) : Fs := p.fss.getD 0 default
def fs1 (p : Vfs) : Fs := p.fss.getD 1 default
def vfsMt (p : Vfs) : Inode := (fs0 p).nodes.getD p.mount.toNat default
def vfsBad (p : Vfs) : Bool := !decide ((p.fss.length : Int) = 2) || !fsOk (fs0 p) || !fsOk (fs1 p) || !inB p.mount (-1) 9 || decide (p.mount = 0)
def vfsEnd (p : Vfs) : Bool := bif decide (p.mount < 0) then decide (opensW (fs1 p) = 0) else (decide ((vfsMt p).kind = 2) && decide ((vfsMt p).opens > 0))
def vfsOk (p : Vfs) : Bool := !vfsBad p && vfsEnd p
def vfsBadI (p : Vfs) : Bool := !decide ((p.fss.length : Int) = 2) || !fsOkI (fs0 p) || !fsOkI (fs1 p)
def vfsEndI (p : Vfs) : Bool := bif decide (p.mount = -1) then !decide (fnd (nodeOpen (fs1 p).nodes) (fs1 p).nodes.length ≥ 0) else (inB p.mount 1 9 && decide ((vfsMt p).kind = 2) && decide ((vfsMt p).opens > 0))
def vfsOkI (p : Vfs) : Bool := !vfsBadI p && vfsEndI p
def an99 : List PV → PV
  | [.agg v] => .bool (vfsOk (Vfs.dec v))
  | _ => .undef
def an68 : List PV → PV
  | [.agg v] => .bool (vfsOkI (Vfs.dec v))
  | _ => .undef
theorem and_f {c x y : Bool} (h : c = false) (he : x = y) : Le (PV.bool x) (PV.bool (!c && y)) := by subst h he; exact Le.refl _

theorem pc99 (p : Vfs) : PC Tryz.prog 99 [.agg [.sl 1 (p.fss.map Fs.enc), .int .i64 p.mount]] (.bool (vfsOk p)) := by
  refine PC.of_vc mixed (phiOf [(26, an26), (145, an145), (146, an146)]) Tryz.func99 (by kernel_rfl) (rfl : Tryz.f99.body = some _) Tryz.ntmps99 (by kernel_rfl) rfl (by kernel_rfl) Tryz.results99 fun hwf => ?_
  simp only [pvB, ↓pvP, pvDom, simprocAttr, an26, pc26, an145, pc145, an146, pc146, pvI, pvY]
  clear hwf
  refine ⟨fun h => by have := of_decide_eq_true h; omega, fun h => ?_, fun h0 => ?_, fun h0 => ?_⟩
  · simp only [Bool.not_eq_true', Bool.or_eq_false_iff, Bool.not_eq_false', decide_eq_true_eq] at h
    have := h.1; omega
  · exact pre_bad (c := vfsBad p) h0
  have hf : p.fss.length = 2 ∧ (fs0 p).nodes.length = 10 ∧ (fs1 p).nodes.length = 10 ∧ -1 ≤ p.mount ∧ p.mount ≤ 9 := by
    have h := h0
    simp only [Bool.or_eq_false_iff, Bool.not_eq_false', decide_eq_true_eq, inB, Bool.and_eq_true] at h
    exact ⟨by omega, fsOk_len h.1.1.1.2, fsOk_len h.1.1.2, by omega, by omega⟩
  have hn : (p.fss.getD 0 default).nodes.length = 10 := hf.2.1
  refine ⟨fun h1 => ⟨by omega, and_f (c := vfsBad p) h0 (bif_t h1).symm⟩, fun h1 => ?_⟩
  have h1' := of_decide_eq_false h1
  exact ⟨by omega, by omega, and_f (c := vfsBad p) h0 (bif_f h1).symm⟩

theorem pc68 (p : Vfs) : PC Tryz.prog 68 [.agg [.sl 1 (p.fss.map Fs.enc), .int .i64 p.mount]] (.bool (vfsOkI p)) := by
  refine PC.of_vc mixed (phiOf [(35, an35), (121, an121), (122, an122)]) Tryz.func68 (by kernel_rfl) (rfl : Tryz.f68.body = some _) Tryz.ntmps68 (by kernel_rfl) rfl (by kernel_rfl) Tryz.results68 fun hwf => ?_
  simp only [pvB, ↓pvP, pvDom, simprocAttr, an35, pc35, an121, pc121, an122, pc122, pvI, pvY]
  clear hwf
  refine ⟨fun h => by have := of_decide_eq_true h; omega, fun h => ?_, fun h0 => ?_, fun h0 => ?_⟩
  · simp only [Bool.not_eq_true', Bool.or_eq_false_iff, Bool.not_eq_false', decide_eq_true_eq] at h
    have := h.1; omega
  · exact pre_bad (c := vfsBadI p) h0
  have hf : p.fss.length = 2 ∧ (fs0 p).nodes.length = 10 := by
    have h := h0
    simp only [Bool.or_eq_false_iff, Bool.not_eq_false', decide_eq_true_eq] at h
    exact ⟨by omega, fsOkI_len h.1.2⟩
  have hn : (p.fss.getD 0 default).nodes.length = 10 := hf.2
  have hb : ∀ x : Bool, (inB p.mount 1 9 && x) = true → 0 ≤ p.mount ∧ p.mount < ((p.fss.getD 0 default).nodes.length : Int) := fun x h => by
    simp only [Bool.and_eq_true, inB, decide_eq_true_eq] at h
    omega
  exact ⟨fun h1 => ⟨by omega, and_f (c := vfsBadI p) h0 (bif_t h1).symm⟩, fun h1 => ⟨fun _ => by omega, fun h => hb true (by rw [h]; rfl), fun _ => by omega, fun h => hb _ h, and_f (c := vfsBadI p) h0 (bif_f h1).symm⟩⟩

end Go.Proofs.YtemoiphdjocaiaaGreat
