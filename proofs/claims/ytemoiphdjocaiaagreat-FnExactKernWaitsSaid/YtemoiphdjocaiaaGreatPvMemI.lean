/-
  What the program's check of memory answers. Conditions: none.
-/
import Derived.Test.YtemoiphdjocaiaaGreatPvTy
import Derived.Test.YtemoiphdjocaiaaGreatPvKern
import Derived.Test.YtemoiphdjocaiaaGreatPvSimp
set_option linter.all false
set_option linter.unusedSimpArgs false
set_option linter.unusedVariables false
namespace Go.Proofs.YtemoiphdjocaiaaGreat
open Go.Pv
set_option linter.unusedSimpArgs false
set_option maxRecDepth 100000
set_option maxHeartbeats 4000000

theorem y_gn {H R : Heap} (n : Nat) : (H ++ R)[H.length + n]? = R[n]? := by
  rw [List.getElem?_append_right (by omega)]; congr 1; omega
theorem y_gl {H R : Heap} : (H ++ R)[H.length]? = R[0]? := by
  rw [List.getElem?_append_right (by omega)]; congr 1; omega
theorem y_sgn {H R : Heap} {i : Nat} {x : Blk} (n : Nat) : (H.set i x ++ R)[H.length + n]? = R[n]? := by
  have := y_gn (H := H.set i x) (R := R) n
  rwa [List.length_set] at this
theorem y_sgl {H R : Heap} {i : Nat} {x : Blk} : (H.set i x ++ R)[H.length]? = R[0]? := by
  have := y_gl (H := H.set i x) (R := R)
  rwa [List.length_set] at this
theorem y_ssgn {H R : Heap} {i j : Nat} {x y : Blk} (n : Nat) : ((H.set i x).set j y ++ R)[H.length + n]? = R[n]? := by
  have := y_sgn (H := H.set i x) (R := R) (i := j) (x := y) n
  rwa [List.length_set] at this
theorem y_ssgl {H R : Heap} {i j : Nat} {x y : Blk} : ((H.set i x).set j y ++ R)[H.length]? = R[0]? := by
  have := y_sgl (H := H.set i x) (R := R) (i := j) (x := y)
  rwa [List.length_set] at this
theorem y_gk {H R : Heap} {k : Nat} (h : k < H.length) : (H ++ R)[k]? = H[k]? := List.getElem?_append_left h
theorem y_sn {H R : Heap} {x : Blk} (n : Nat) : (H ++ R).set (H.length + n) x = H ++ R.set n x := by
  rw [List.set_append_right _ _ (by omega)]; congr 2; omega
theorem y_sl {H R : Heap} {x : Blk} : (H ++ R).set H.length x = H ++ R.set 0 x := by
  rw [List.set_append_right _ _ (by omega)]; congr 2; omega
theorem y_ssn {H R : Heap} {i : Nat} {x y : Blk} (n : Nat) : (H.set i y ++ R).set (H.length + n) x = H.set i y ++ R.set n x := by
  have := y_sn (H := H.set i y) (R := R) (x := x) n
  rwa [List.length_set] at this
theorem y_sk {H R : Heap} {k : Nat} {x : Blk} (h : k < H.length) : (H ++ R).set k x = H.set k x ++ R := List.set_append_left _ _ h
theorem y_ls {H : Heap} {i : Nat} {x : Blk} : (H.set i x).length = H.length := List.length_set
theorem y_as (a n k : Nat) : a + n + k = a + (n + k) := Nat.add_assoc a n k
theorem y_ne {H : Heap} {i j : Nat} {x : Blk} (h : i ≠ j) : (H.set i x)[j]? = H[j]? := List.getElem?_set_ne h
theorem y_eq {H : Heap} {i : Nat} {x : Blk} (h : i < H.length) : (H.set i x)[i]? = some x := by simp [h]
theorem y_tl {H : Heap} : H.take H.length = H := List.take_length
theorem y_tf {H R : Heap} (n : Nat) : (H ++ R).take (H.length + n) = H ++ R.take n := by
  rw [List.take_append, List.take_of_length_le (by omega)]; congr 2; omega
theorem y_ha {H R : Heap} : (H ++ R).length = H.length + R.length := List.length_append
theorem y_dr {H R : Heap} (n : Nat) : (H ++ R).drop (H.length + n) = R.drop n := by
  rw [List.drop_append, List.drop_of_length_le (by omega)]; simp
theorem y_sdr {H R : Heap} {i : Nat} {x : Blk} (n : Nat) : (H.set i x ++ R).drop (H.length + n) = R.drop n := by
  have := y_dr (H := H.set i x) (R := R) n
  rwa [List.length_set] at this
theorem y_ssdr {H R : Heap} {i j : Nat} {x y : Blk} (n : Nat) : ((H.set i x).set j y ++ R).drop (H.length + n) = R.drop n := by
  have := y_sdr (H := H.set i x) (R := R) (i := j) (x := y) n
  rwa [List.length_set] at this
theorem y_stf {H R : Heap} {i : Nat} {x : Blk} (n : Nat) : (H.set i x ++ R).take (H.length + n) = H.set i x ++ R.take n := by
  have := y_tf (H := H.set i x) (R := R) n
  rwa [List.length_set] at this
theorem y_sstf {H R : Heap} {i j : Nat} {x y : Blk} (n : Nat) : ((H.set i x).set j y ++ R).take (H.length + n) = (H.set i x).set j y ++ R.take n := by
  have := y_stf (H := H.set i x) (R := R) (i := j) (x := y) n
  rwa [List.length_set] at this
theorem y_com {H : Heap} {i j : Nat} {x y z : Blk} (h : i ≠ j) : ((H.set i x).set j y).set i z = (H.set i z).set j y := by
  rw [List.set_comm _ _ h.symm, List.set_set]
theorem y_put2 (v w : PV) : mput [2] w (mput [1] v []) = [([1], v), ([2], w)] := rfl
theorem all_two {α : Type} (a b : α) (P : Nat → Prop) : (∀ j, j < List.length [a, b] → P j) ↔ P 0 ∧ P 1 := by
  constructor
  · intro h; exact ⟨h 0 (by simp), h 1 (by simp)⟩
  · intro h j hj
    match j, hj with
    | 0, _ => exact h.1
    | 1, _ => exact h.2
theorem y_last (l : List Nat) (j : Nat) : lastP (l ++ [j]) = some j := by
  induction l with
  | nil => rfl
  | cons a r ih =>
    match r, ih with
    | [], _ => rfl
    | b :: r, ih => simpa [lastP] using ih
theorem y_kpv (a : Int) : kpv false [a] = .int .i64 a := rfl
def encT (v : Bool × Bool) : List PV := [.bool v.1, .bool v.2]
theorem y_row {L : List (Bool × Bool)} {i : Nat} (h : i < L.length) (d : List PV) : (L.map encT).getD i d = [.bool (L.getD i default).1, .bool (L.getD i default).2] := by
  simp [List.getD, h, encT]
theorem y_rlen (L : List (Bool × Bool)) : (L.map encT).length = L.length := List.length_map _
theorem seen_len {l : List Nat} {j : Nat} (hn : l.Nodup) (hl : ∀ s, s ∈ l → s < 2) (hj : j < 2) (h : ¬ j ∈ l) : l.length ≤ 1 ∧ (l ++ [j]).Nodup ∧ (∀ s, s ∈ l ++ [j] → s < 2) ∧ (l ++ [j]).length = l.length + 1 := by
  refine ⟨?_, ?_, ?_, by simp⟩
  · match l, hn, hl, h with
    | [], _, _, _ => simp
    | [_], _, _, _ => simp
    | a :: b :: r, hn, hl, h =>
      have h1 := hl a (by simp)
      have h2 := hl b (by simp)
      simp only [List.nodup_cons, List.mem_cons, not_or] at hn h
      omega
  · rw [List.nodup_append]
    refine ⟨hn, by simp, fun a ha b hb => ?_⟩
    rw [List.mem_singleton] at hb
    subst hb
    rintro rfl
    exact h ha
  · intro s hs
    rcases List.mem_append.1 hs with h' | h'
    · exact hl s h'
    · rw [List.mem_singleton] at h'; omega
def boxM (m : Mem) : Blk := .rows 46 6 [[.sl 1 (m.ram.text.map encS), .sl 1 (m.ram.refs.map encI), .sl 1 (m.swap.text.map encS), .sl 1 (m.swap.refs.map encI), .sl 3 (m.spaces.map Space.enc), .int .i64 m.hand]]

structure TS (m : Mem) (H : Heap) (es : ME) (T : Tell) (n : Nat) : Prop where
  len : 1 < H.length
  box : H[0]? = some (.rows 46 6 [[.sl 1 (m.ram.text.map encS), .sl 1 (m.ram.refs.map encI), .sl 1 (m.swap.text.map encS), .sl 1 (m.swap.refs.map encI), .sl 3 (m.spaces.map Space.enc), .int .i64 m.hand]])
  map : H[1]? = some (.map true es)
  all : ∀ k, H.length ≤ k → H.all (hbB k) = true
  ent : ∀ a b, (T a b).length ≤ n ∧ (T a b = [] ∧ mget .nil [a, b] es = .nil ∨ ∃ h, mget .nil [a, b] es = .own h 2 0 (T a b).length ∧ H[h]? = some (.rows 202 2 ((T a b).map encT)))
  inj : ∀ a b a' b' h n n', mget .nil [a, b] es = .own h 2 0 n → mget .nil [a', b'] es = .own h 2 0 n' → a = a' ∧ b = b'
theorem TS.grow {m : Mem} {H R : Heap} {es : ME} {T : Tell} {n : Nat} (h : TS m H es T n) (hR : ∀ k, H.length + R.length ≤ k → R.all (hbB k) = true) : TS m (H ++ R) es T n := by
  have hl := h.len
  refine ⟨by simp; omega, by rw [y_gk (by omega)]; exact h.box, by rw [y_gk (by omega)]; exact h.map, fun k hk => ?_, fun a b => ?_, h.inj⟩
  · rw [List.length_append] at hk
    rw [List.all_append, h.all k (by omega), hR k hk]; rfl
  · obtain ⟨h1, h2⟩ := h.ent a b
    refine ⟨h1, h2.imp id fun ⟨x, h3, h4⟩ => ⟨x, h3, ?_⟩⟩
    rw [y_gk (List.getElem?_eq_some_iff.1 h4).1]; exact h4
theorem TS.more {m : Mem} {H : Heap} {es : ME} {T : Tell} {n n' : Nat} (h : TS m H es T n) (hn : n ≤ n') : TS m H es T n' :=
  ⟨h.len, h.box, h.map, h.all, fun a b => ⟨Nat.le_trans (h.ent a b).1 hn, (h.ent a b).2⟩, h.inj⟩
theorem TS.put {m : Mem} {H H2 : Heap} {es : ME} {T : Tell} {n h' : Nat} {x y : Int} {v : Bool × Bool} {len' : Nat} (h : TS m H es T n) (hl : H.length ≤ H2.length) (h0 : H2[0]? = H[0]?) (h1 : H2[1]? = some (.map true (mput [x, y] (.own h' 2 0 len') es)))
    (hall : ∀ k, H2.length ≤ k → H2.all (hbB k) = true) (hlen : len' = (T x y).length + 1) (hnew : H2[h']? = some (.rows 202 2 ((T x y ++ [v]).map encT)))
    (hold : ∀ a b, ¬ (x = a ∧ y = b) → ∀ hh n0, mget .nil [a, b] es = .own hh 2 0 n0 → H2[hh]? = H[hh]? ∧ hh ≠ h') : TS m H2 (mput [x, y] (.own h' 2 0 len') es) (tellU T x y v) (n + 1) := by
  have hg : ∀ a b, mget .nil [a, b] (mput [x, y] (.own h' 2 0 len') es) = if x = a ∧ y = b then .own h' 2 0 len' else mget .nil [a, b] es := by
    intro a b
    rw [mget_mput]
    by_cases hx : x = a <;> by_cases hy : y = b <;> simp [hx, hy]
  have ht : ∀ a b, tellU T x y v a b = if x = a ∧ y = b then T x y ++ [v] else T a b := by
    intro a b
    unfold tellU
    by_cases hx : x = a <;> by_cases hy : y = b <;> simp [hx, hy]
  refine ⟨by have := h.len; omega, by rw [h0]; exact h.box, h1, hall, fun a b => ?_, fun a b a' b' hh n1 n2 e1 e2 => ?_⟩
  · rw [ht, hg]
    by_cases hxy : x = a ∧ y = b
    · rw [if_pos hxy, if_pos hxy]
      have := (h.ent x y).1
      refine ⟨by simp; omega, .inr ⟨h', by rw [hlen]; simp, hnew⟩⟩
    · rw [if_neg hxy, if_neg hxy]
      refine ⟨by have := (h.ent a b).1; omega, (h.ent a b).2.imp id fun ⟨hh, g1, g2⟩ => ⟨hh, g1, ?_⟩⟩
      rw [(hold a b hxy hh _ g1).1]; exact g2
  · rw [hg] at e1 e2
    by_cases hxy : x = a ∧ y = b
    · rw [if_pos hxy] at e1
      by_cases hxy' : x = a' ∧ y = b'
      · exact ⟨hxy.1.symm.trans hxy'.1, hxy.2.symm.trans hxy'.2⟩
      · rw [if_neg hxy'] at e2
        have := (hold a' b' hxy' hh _ e2).2
        simp only [PV.own.injEq] at e1
        exact absurd e1.1.symm this
    · rw [if_neg hxy] at e1
      by_cases hxy' : x = a' ∧ y = b'
      · rw [if_pos hxy'] at e2
        have := (hold a b hxy hh _ e1).2
        simp only [PV.own.injEq] at e2
        exact absurd e2.1.symm this
      · rw [if_neg hxy'] at e2
        exact h.inj a b a' b' hh n1 n2 e1 e2
theorem all_set {k : Nat} {H : Heap} {i : Nat} {x : Blk} (h : H.all (hbB k) = true) (hx : hbB k x = true) : (H.set i x).all (hbB k) = true := by
  rw [List.all_eq_true] at h ⊢
  intro b hb
  rcases List.mem_or_eq_of_mem_set hb with h' | h'
  · exact h b h'
  · rw [h']; exact hx
theorem TS.esall {m : Mem} {H : Heap} {es : ME} {T : Tell} {n k : Nat} (h : TS m H es T n) (hk : H.length ≤ k) : (es.all fun e => hb k e.2) = true := by
  have := List.all_eq_true.1 (h.all k hk) _ (List.mem_of_getElem? h.map)
  exact this
theorem TS.app0 {m : Mem} {H : Heap} {es : ME} {T : Tell} {n : Nat} {x y : Int} {v : Bool × Bool} {c1 c2 c3 : Blk} (h : TS m H es T n) (ho : T x y = []) (hc : ∀ k, (hbB k c1 && (hbB k c2 && hbB k c3)) = true) :
    TS m (H.set 1 (.map true (mput [x, y] (.own (H.length + 3) 2 0 1) es)) ++ [c1, c2, c3, .rows 202 2 [encT v]]) (mput [x, y] (.own (H.length + 3) 2 0 1) es) (tellU T x y v) (n + 1) := by
  have hl := h.len
  have hl' : ∀ b : Blk, (H.set 1 b).length = H.length := fun b => List.length_set
  refine h.put (by simp) ?_ ?_ (fun k hk => ?_) (by rw [ho]; rfl) ?_ fun a b hab hh n0 e => ?_
  · rw [y_gk (by rw [hl']; omega), y_ne (by omega)]
  · rw [y_gk (by rw [hl']; omega), y_eq hl]
  · rw [List.length_append, hl'] at hk
    simp only [List.length_cons, List.length_nil] at hk
    have hck := hc k
    simp only [Bool.and_eq_true] at hck
    rw [List.all_append, all_set (h.all k (by omega)) (show hbB k (.map true (mput [x, y] _ es)) = true from all_mput (hb k) _ _ _ (h.esall (by omega)) (by simp [hb]; omega))]
    simp only [List.all_cons, hck.1, hck.2.1, hck.2.2]
    simp [hbB, encT, hbL, hb]
  · rw [y_sgn, ho]; rfl
  · have := h.ent a b
    rcases this.2 with ⟨_, g⟩ | ⟨h2, g1, g2⟩
    · rw [g] at e; cases e
    · rw [g1] at e
      simp only [PV.own.injEq] at e
      obtain ⟨rfl, _⟩ := e
      have hlt := (List.getElem?_eq_some_iff.1 g2).1
      have hne : h2 ≠ 1 := by
        rintro rfl
        rw [h.map] at g2; cases g2
      refine ⟨by rw [y_gk (by rw [hl']; exact hlt), y_ne (Ne.symm hne)], by omega⟩
theorem TS.app1 {m : Mem} {H : Heap} {es : ME} {T : Tell} {n oh : Nat} {x y : Int} {v : Bool × Bool} {c1 c2 c3 : Blk} (h : TS m H es T n) (ho : mget .nil [x, y] es = .own oh 2 0 (T x y).length) (ho2 : H[oh]? = some (.rows 202 2 ((T x y).map encT))) (hc : ∀ k, (hbB k c1 && (hbB k c2 && hbB k c3)) = true) :
    TS m ((H.set 1 (.map true (mput [x, y] (.own (H.length + 3) 2 0 ((T x y).length + 1)) es))).set oh .dead ++ [c1, c2, c3, .rows 202 2 ((T x y).map encT ++ [encT v])]) (mput [x, y] (.own (H.length + 3) 2 0 ((T x y).length + 1)) es) (tellU T x y v) (n + 1) := by
  have hl := h.len
  have hlt0 := (List.getElem?_eq_some_iff.1 ho2).1
  have hl' : ∀ b c : Blk, ((H.set 1 b).set oh c).length = H.length := fun b c => by rw [List.length_set, List.length_set]
  have ho1 : oh ≠ 1 := by
    rintro rfl
    rw [h.map] at ho2; cases ho2
  have ho0 : oh ≠ 0 := by
    rintro rfl
    rw [h.box] at ho2; cases ho2
  refine h.put (by simp) ?_ ?_ (fun k hk => ?_) rfl ?_ fun a b hab hh n0 e => ?_
  · rw [y_gk (by rw [hl']; omega), y_ne ho0, y_ne (by omega)]
  · rw [y_gk (by rw [hl']; omega), y_ne ho1, y_eq hl]
  · rw [List.length_append, hl'] at hk
    simp only [List.length_cons, List.length_nil] at hk
    have hck := hc k
    simp only [Bool.and_eq_true] at hck
    rw [List.all_append, all_set (all_set (h.all k (by omega)) (show hbB k (.map true (mput [x, y] _ es)) = true from all_mput (hb k) _ _ _ (h.esall (by omega)) (by simp [hb]; omega))) rfl]
    simp only [List.all_cons, hck.1, hck.2.1, hck.2.2]
    simp [hbB, encT, hbL, hb]
  · rw [y_ssgn, List.map_append]; rfl
  · have := h.ent a b
    rcases this.2 with ⟨_, g⟩ | ⟨h2, g1, g2⟩
    · rw [g] at e; cases e
    · rw [g1] at e
      simp only [PV.own.injEq] at e
      obtain ⟨rfl, _⟩ := e
      have hlt := (List.getElem?_eq_some_iff.1 g2).1
      have hne : h2 ≠ 1 := by
        rintro rfl
        rw [h.map] at g2; cases g2
      have hno : oh ≠ h2 := by
        rintro rfl
        exact hab (h.inj _ _ _ _ _ _ _ ho g1)
      refine ⟨by rw [y_gk (by rw [hl']; exact hlt), y_ne hno, y_ne (Ne.symm hne)], by omega⟩
theorem TS.nil (m : Mem) : TS m [.rows 46 6 [[.sl 1 (m.ram.text.map encS), .sl 1 (m.ram.refs.map encI), .sl 1 (m.swap.text.map encS), .sl 1 (m.swap.refs.map encI), .sl 3 (m.spaces.map Space.enc), .int .i64 m.hand]], .map true []] [] (fun _ _ => []) 0 := by
  refine ⟨by simp, rfl, rfl, fun k hk => ?_, fun a b => ⟨Nat.le_refl _, .inl ⟨rfl, rfl⟩⟩, fun a b a' b' h n n' h1 => by cases h1⟩
  have e1 : ∀ (l : List ByteArray), hb k (.sl 1 (l.map encS)) = true := fun l => rfl
  rfl

theorem pc67 (m : Mem) : PC Tryz.prog 67 [.agg [.sl 1 (m.ram.text.map encS), .sl 1 (m.ram.refs.map encI), .sl 1 (m.swap.text.map encS), .sl 1 (m.swap.refs.map encI), .sl 3 (m.spaces.map Space.enc), .int .i64 m.hand]] (.bool (memOkI m)) := by
  refine PC.of_vc mixed (phiOf [(35, an35), (116, an116), (117, an117), (118, an118), (119, an119), (120, an120)]) Tryz.func67 (by kernel_rfl) (rfl : Tryz.f67.body = some _) Tryz.ntmps67 (by kernel_rfl) rfl (by kernel_rfl) Tryz.results67 fun hwf => ?_
  simp only [pvB, ↓pvP, pvDom, pvRr, pvMm, simprocAttr, an35, pc35, an116, pc116, an117, pc117, an118, pc118, an119, pc119, an120, pc120, pvI, pvY, x_be, x_bn, bbE, eqOk81, eqOk87, eqOk197]
  simp only [pvAll, pvStd, pvDom] at hwf
  refine ⟨fun h0 => pre_bad (c := memBadI m) h0, fun h0 => ?_⟩
  rw [show memOkI m = ((List.range m.spaces.length).all (spI m) && (kdOk m m.ram 1 && kdOk m m.swap 2)) from by unfold memOkI; rw [show memBadI m = false from h0]; rfl]
  have hsl : m.spaces.length = 5 := by
    simp only [Bool.or_eq_false_iff, Bool.not_eq_false', decide_eq_true_eq] at h0
    omega
  clear h0
  refine .inl ⟨[1, 3, 56, 57, 58], fun H => H.length, fun k vs H => ∃ (i : Nat) (es : ME), i ≤ m.spaces.length ∧ k = m.spaces.length - i ∧ vs = [.ptr 0 6 0 0, .mp 1, .sl 3 (m.spaces.map Space.enc), .int .i64 m.spaces.length, .int .i64 i] ∧ TS m H es (tlA m i) (16 * i) ∧ ∀ j, j < i → spI m j = true, fun _ => Nat.zero_le _, ?_, ?_⟩
  · simp only [pvB, ↓pvP, pvDom, pvRr, pvMm, pvLl, simprocAttr, pvI, pvY, x_be, x_bn, bbE, eqOk81, eqOk87, eqOk197, y_gn, y_gl, y_sgn, y_sgl, y_ssgn, y_ssgl, y_gk, y_sn, y_sl, y_ssn, y_sk, y_ls, y_as, y_eq, y_tl, y_tf, y_ha, y_dr, y_sdr, y_ssdr, y_stf, y_sstf]
    exact ⟨_, 0, [], Nat.zero_le _, rfl, rfl, TS.nil m, fun j hj => absurd hj (Nat.not_lt_zero j)⟩
  · rintro k vs H - ⟨i, es, hi, rfl, rfl, hT, hP⟩
    have hlen := hT.len
    have hl0 : 0 < H.length := by omega
    have hbox := hT.box
    have hmap := hT.map
    rcases Nat.lt_or_ge i m.spaces.length with h1 | h1
    · refine vc_body (by rfl) ?_
      simp (maxSteps := 4000000) only [pvB, ↓pvP, pvDom, pvRr, pvMm, pvLl, simprocAttr, pvI, pvY, x_be, x_bn, bbE, eqOk81, eqOk87, eqOk197, an35, pc35, an116, pc116, an117, pc117, an118, pc118, an119, pc119, an120, pc120, rBuild, rBuildA, rAppN, nilZ, ↓List.append, q_bly, q_label, zok200, key199, key3, y_put2, ↓all_two, y_last, y_kpv, List.getD_cons_zero, List.getD_cons_succ, y_rlen, y_gn, y_gl, y_sgn, y_sgl, y_ssgn, y_ssgl, y_gk, y_sn, y_sl, y_ssn, y_sk, y_ls, y_as, y_eq, y_tl, y_tf, y_ha, y_dr, y_sdr, y_ssdr, y_stf, y_sstf, hl0, hlen, hbox, hmap]
      have hT' : TS m (H ++ [.rows 153 3 [[.bool (spB m i).live, .sl 4 ((spB m i).areas.map Area.enc), .sl 4 ((spB m i).slots.map Slot.enc)]]]) es (tlA m i) (16 * i) := hT.grow fun k _ => rfl
      refine ⟨fun _ => ⟨in_of i h1, fun h2 => ⟨fun h3 => all_bad h1 ((bif_t h2).trans (congrArg not h3)), fun h3 => ?_⟩, fun h2 => ⟨fun h3 => all_bad h1 ((bif_f h2).trans (bif_t h3)), fun h3 => ?_⟩⟩, fun h => absurd (of_decide_eq_false h) (by omega)⟩
      · exact ⟨by simp; omega, hT'.all _ (by simp), _, by omega, i + 1, es, h1, rfl, by rw [w_add (by omega)], by show TS m _ es (tlF m i (tlA m i)) _; rw [show tlF m i (tlA m i) = tlA m i from bif_tI h2]; exact hT'.more (by omega), all_next hP ((bif_t h2).trans (congrArg not h3))⟩
      · refine .inl ⟨[1, 3, 5, 56, 57, 58, 86, 87, 88], fun H => H.length, fun k vs H => ∃ (k0 b : Nat) (es : ME), k0 ≤ (spB m i).slots.length ∧ k = (spB m i).slots.length - k0 ∧ vs = [.ptr 0 6 0 0, .mp 1, .ptr b 3 0 0, .sl 3 (m.spaces.map Space.enc), .int .i64 m.spaces.length, .int .i64 i, .sl 4 ((spB m i).slots.map Slot.enc), .int .i64 (spB m i).slots.length, .int .i64 k0] ∧ TS m H es (itr (tlS m i) k0 (tlA m i)) (16 * i + k0) ∧ b ≠ 1 ∧ H[b]? = some (.rows 153 3 [[.bool (spB m i).live, .sl 4 ((spB m i).areas.map Area.enc), .sl 4 ((spB m i).slots.map Slot.enc)]]) ∧ ∀ j, j < k0 → msS m i j = true, fun _ => Nat.zero_le _, ?_, ?_⟩
        · simp only [pvB, ↓pvP, pvDom, pvRr, pvMm, pvLl, simprocAttr, pvI, pvY, x_be, x_bn, bbE, eqOk81, eqOk87, eqOk197, y_gn, y_gl, y_sgn, y_sgl, y_ssgn, y_ssgl, y_gk, y_sn, y_sl, y_ssn, y_sk, y_ls, y_as, y_eq, y_tl, y_tf, y_ha, y_dr, y_sdr, y_ssdr, y_stf, y_sstf]
          exact ⟨by simp; omega, hT'.all _ (by simp), _, 0, H.length, es, Nat.zero_le _, rfl, rfl, hT', by omega, y_gl, fun j hj => absurd hj (Nat.not_lt_zero j)⟩
        · clear hT hT' hbox hmap hlen hl0
          clear H es
          rintro k vs H - ⟨k0, b, es, hk0, rfl, rfl, hT, hb1, hbb, hP2⟩
          have hlen := hT.len
          have hl0 : 0 < H.length := by omega
          have hbox := hT.box
          have hmap := hT.map
          have hbl := (List.getElem?_eq_some_iff.1 hbb).1
          have hs16 : (spB m i).slots.length = 16 := by
            have h3' := h3
            simp only [Bool.or_eq_false_iff, Bool.not_eq_false', decide_eq_true_eq] at h3'
            have : ((spB m i).slots.length : Int) = 16 := h3'.2
            omega
          have bad : ∀ (h4 : k0 < (spB m i).slots.length), msS m i k0 = false → spI m i = false := fun h4 hm => (bif_f h2).trans ((bif_f h3).trans (all_false h4 hm))
          rcases Nat.lt_or_ge k0 (spB m i).slots.length with h4 | h4
          · have hent := (hT.ent (slotAt m i k0).kind (slotAt m i k0).at_).2
            simp only [show slotAt m i k0 = (spB m i).slots.getD k0 default from rfl] at hent
            rcases hent with ⟨ho1, ho2⟩ | ⟨oh, ho2, ho3⟩
            · refine vc_body (by rfl) ?_
              simp (maxSteps := 4000000) only [pvB, ↓pvP, pvDom, pvRr, pvMm, pvLl, simprocAttr, pvI, pvY, x_be, x_bn, bbE, eqOk81, eqOk87, eqOk197, an35, pc35, an116, pc116, an117, pc117, an118, pc118, an119, pc119, an120, pc120, rBuild, rBuildA, rAppN, nilZ, ↓List.append, q_bly, q_label, zok200, key199, key3, y_put2, ↓all_two, y_last, y_kpv, List.getD_cons_zero, List.getD_cons_succ, y_rlen, y_gn, y_gl, y_sgn, y_sgl, y_ssgn, y_ssgl, y_gk, y_sn, y_sl, y_ssn, y_sk, y_ls, y_as, y_eq, y_tl, y_tf, y_ha, y_dr, y_sdr, y_ssdr, y_stf, y_sstf, hl0, hlen, hbox, hmap, hbl, hbb, y_ne, hb1, Ne.symm, ho2]
              refine ⟨fun _ => ⟨in_of k0 h4, fun h5 => ⟨fun h6 => all_bad h1 (bad h4 ((bif_t (c := msC m i k0) h5).trans (nb_t h6))), fun h6 => ?_⟩, fun h5 => ⟨fun h6 => ⟨fun _ => all_bad h1 (bad h4 ((bif_f (c := msC m i k0) h5).trans (bif_t h6))), fun h7 => by rw [h6] at h7; cases h7⟩, fun h6 => ⟨fun h7 => ⟨fun _ => all_bad h1 (bad h4 ((bif_f (c := msC m i k0) h5).trans ((bif_f h6).trans (bif_t h7)))), fun h8 => by rw [h7] at h8; cases h8⟩, fun h7 => ⟨fun h8 => all_bad h1 (bad h4 ((bif_f (c := msC m i k0) h5).trans ((bif_f h6).trans ((bif_f h7).trans (bif_t h8))))), fun h8 => ⟨fun h9 => all_bad h1 (bad h4 ((bif_f (c := msC m i k0) h5).trans ((bif_f h6).trans ((bif_f h7).trans ((bif_f h8).trans (congrArg not h9)))))), fun h9 => ?_⟩⟩⟩⟩⟩, fun h => absurd (of_decide_eq_false h) (by omega)⟩
              · have hT' : TS m (H ++ [.rows 197 4 [[.int .i64 ((spB m i).slots.getD k0 default).kind, .int .i64 ((spB m i).slots.getD k0 default).at_, .bool ((spB m i).slots.getD k0 default).own, .bool ((spB m i).slots.getD k0 default).used]]]) es _ _ := hT.grow fun k _ => rfl
                exact ⟨by simp; omega, hT'.all _ (by simp), _, by omega, k0 + 1, b, es, h4, rfl, by rw [w_add (by omega)], by show TS m _ es (tlS m i k0 _) _; rw [show tlS m i k0 (itr (tlS m i) k0 (tlA m i)) = itr (tlS m i) k0 (tlA m i) from bif_tI h5]; exact hT'.more (by omega), hb1, by rw [y_gk hbl]; exact hbb, all_next hP2 ((bif_t (c := msC m i k0) h5).trans (nb_f h6))⟩
              · have hT' := hT.app0 (v := (((spB m i).slots.getD k0 default).own, sharedI (spB m i) k0)) (c1 := .rows 197 4 [[.int .i64 ((spB m i).slots.getD k0 default).kind, .int .i64 ((spB m i).slots.getD k0 default).at_, .bool ((spB m i).slots.getD k0 default).own, .bool ((spB m i).slots.getD k0 default).used]]) (c2 := .rows 199 2 [[.int .i64 ((spB m i).slots.getD k0 default).kind, .int .i64 ((spB m i).slots.getD k0 default).at_]]) (c3 := .rows 202 2 [[.bool ((spB m i).slots.getD k0 default).own, .bool (sharedI (spB m i) k0)]]) ho1 fun k => rfl
                exact ⟨by omega, by simp; omega, hT'.all _ (by simp), _, by omega, k0 + 1, b, _, h4, rfl, by rw [w_add (by omega)], by show TS m _ _ (tlS m i k0 _) _; rw [show tlS m i k0 (itr (tlS m i) k0 (tlA m i)) = tellU (itr (tlS m i) k0 (tlA m i)) _ _ _ from bif_fI h5]; exact hT', hb1, by rw [y_gk (by rw [y_ls]; exact hbl), y_ne (Ne.symm hb1)]; exact hbb, all_next hP2 ((bif_f (c := msC m i k0) h5).trans ((bif_f h6).trans ((bif_f h7).trans ((bif_f h8).trans (congrArg not h9)))))⟩
            · have hol := (List.getElem?_eq_some_iff.1 ho3).1
              have hoh1 : oh ≠ 1 := by
                rintro rfl
                rw [hmap] at ho3; cases ho3
              have hohb : oh ≠ b := by
                rintro rfl
                rw [hbb] at ho3; cases ho3
              have hohb' : b ≠ oh := Ne.symm hohb
              have hoh1' : 1 ≠ oh := Ne.symm hoh1
              refine vc_body (by rfl) ?_
              simp (maxSteps := 4000000) only [pvB, ↓pvP, pvDom, pvRr, pvMm, pvLl, simprocAttr, pvI, pvY, x_be, x_bn, bbE, eqOk81, eqOk87, eqOk197, an35, pc35, an116, pc116, an117, pc117, an118, pc118, an119, pc119, an120, pc120, rBuild, rBuildA, rAppN, nilZ, ↓List.append, q_bly, q_label, zok200, key199, key3, y_put2, ↓all_two, y_last, y_kpv, List.getD_cons_zero, List.getD_cons_succ, y_rlen, y_gn, y_gl, y_sgn, y_sgl, y_ssgn, y_ssgl, y_gk, y_sn, y_sl, y_ssn, y_sk, y_ls, y_as, y_eq, y_tl, y_tf, y_ha, y_dr, y_sdr, y_ssdr, y_stf, y_sstf, hl0, hlen, hbox, hmap, hbl, hbb, y_ne, hb1, Ne.symm, ho2, ho3, hol, hoh1, hohb, hohb', y_com, hoh1']
              refine ⟨fun _ => ⟨in_of k0 h4, fun h5 => ⟨fun h6 => all_bad h1 (bad h4 ((bif_t (c := msC m i k0) h5).trans (nb_t h6))), fun h6 => ?_⟩, fun h5 => ⟨fun h6 => ⟨fun _ => all_bad h1 (bad h4 ((bif_f (c := msC m i k0) h5).trans (bif_t h6))), fun h7 => by rw [h6] at h7; cases h7⟩, fun h6 => ⟨fun h7 => ⟨fun _ => all_bad h1 (bad h4 ((bif_f (c := msC m i k0) h5).trans ((bif_f h6).trans (bif_t h7)))), fun h8 => by rw [h7] at h8; cases h8⟩, fun h7 => ⟨fun h8 => all_bad h1 (bad h4 ((bif_f (c := msC m i k0) h5).trans ((bif_f h6).trans ((bif_f h7).trans (bif_t h8))))), fun h8 => ⟨fun h9 => all_bad h1 (bad h4 ((bif_f (c := msC m i k0) h5).trans ((bif_f h6).trans ((bif_f h7).trans ((bif_f h8).trans (congrArg not h9)))))), fun h9 => ?_⟩⟩⟩⟩⟩, fun h => absurd (of_decide_eq_false h) (by omega)⟩
              · have hT' : TS m (H ++ [.rows 197 4 [[.int .i64 ((spB m i).slots.getD k0 default).kind, .int .i64 ((spB m i).slots.getD k0 default).at_, .bool ((spB m i).slots.getD k0 default).own, .bool ((spB m i).slots.getD k0 default).used]]]) es _ _ := hT.grow fun k _ => rfl
                exact ⟨by simp; omega, hT'.all _ (by simp), _, by omega, k0 + 1, b, es, h4, rfl, by rw [w_add (by omega)], by show TS m _ es (tlS m i k0 _) _; rw [show tlS m i k0 (itr (tlS m i) k0 (tlA m i)) = itr (tlS m i) k0 (tlA m i) from bif_tI h5]; exact hT'.more (by omega), hb1, by rw [y_gk hbl]; exact hbb, all_next hP2 ((bif_t (c := msC m i k0) h5).trans (nb_f h6))⟩
              · have hT' := hT.app1 (v := (((spB m i).slots.getD k0 default).own, sharedI (spB m i) k0)) (c1 := .rows 197 4 [[.int .i64 ((spB m i).slots.getD k0 default).kind, .int .i64 ((spB m i).slots.getD k0 default).at_, .bool ((spB m i).slots.getD k0 default).own, .bool ((spB m i).slots.getD k0 default).used]]) (c2 := .rows 199 2 [[.int .i64 ((spB m i).slots.getD k0 default).kind, .int .i64 ((spB m i).slots.getD k0 default).at_]]) (c3 := .rows 202 2 [[.bool ((spB m i).slots.getD k0 default).own, .bool (sharedI (spB m i) k0)]]) ho2 ho3 fun k => rfl
                have hle := (hT.ent ((spB m i).slots.getD k0 default).kind ((spB m i).slots.getD k0 default).at_).1
                exact ⟨⟨by omega, by omega, by omega⟩, by omega, by simp; omega, hT'.all _ (by simp), _, by omega, k0 + 1, b, _, h4, rfl, by rw [w_add (by omega)], by show TS m _ _ (tlS m i k0 _) _; rw [show tlS m i k0 (itr (tlS m i) k0 (tlA m i)) = tellU (itr (tlS m i) k0 (tlA m i)) _ _ _ from bif_fI h5]; exact hT', hb1, by rw [y_gk (by rw [y_ls, y_ls]; exact hbl), y_ne hohb, y_ne (Ne.symm hb1)]; exact hbb, all_next hP2 ((bif_f (c := msC m i k0) h5).trans ((bif_f h6).trans ((bif_f h7).trans ((bif_f h8).trans (congrArg not h9)))))⟩
          · refine vc_exit (by rfl) ?_
            simp (maxSteps := 4000000) only [pvB, ↓pvP, pvDom, pvRr, pvMm, pvLl, simprocAttr, pvI, pvY, x_be, x_bn, bbE, eqOk81, eqOk87, eqOk197, an35, pc35, an116, pc116, an117, pc117, an118, pc118, an119, pc119, an120, pc120, rBuild, rBuildA, rAppN, nilZ, ↓List.append, q_bly, q_label, zok200, key199, key3, y_put2, ↓all_two, y_last, y_kpv, List.getD_cons_zero, List.getD_cons_succ, y_rlen, y_gn, y_gl, y_sgn, y_sgl, y_ssgn, y_ssgl, y_gk, y_sn, y_sl, y_ssn, y_sk, y_ls, y_as, y_eq, y_tl, y_tf, y_ha, y_dr, y_sdr, y_ssdr, y_stf, y_sstf, hl0, hlen, hbox, hmap, hbl, hbb]
            obtain rfl : k0 = (spB m i).slots.length := by omega
            exact ⟨fun h => absurd (of_decide_eq_true h) (by omega), fun _ => ⟨hT.all _ (Nat.le_refl _), _, by omega, i + 1, es, h1, rfl, by rw [w_add (by omega)], by show TS m H es (tlF m i (tlA m i)) _; rw [show tlF m i (tlA m i) = itr (tlS m i) (spB m i).slots.length (tlA m i) from bif_fI h2]; exact hT.more (by omega), all_next hP ((bif_f h2).trans ((bif_f h3).trans (all_true hP2)))⟩⟩
    · refine vc_exit (by rfl) ?_
      simp (maxSteps := 4000000) only [pvB, ↓pvP, pvDom, pvRr, pvMm, pvLl, simprocAttr, pvI, pvY, x_be, x_bn, bbE, eqOk81, eqOk87, eqOk197, an35, pc35, an116, pc116, an117, pc117, an118, pc118, an119, pc119, an120, pc120, rBuild, rBuildA, rAppN, nilZ, ↓List.append, q_bly, q_label, zok200, key199, key3, y_put2, ↓all_two, y_last, y_kpv, List.getD_cons_zero, List.getD_cons_succ, y_rlen, y_gn, y_gl, y_sgn, y_sgl, y_ssgn, y_ssgl, y_gk, y_sn, y_sl, y_ssn, y_sk, y_ls, y_as, y_eq, y_tl, y_tf, y_ha, y_dr, y_sdr, y_ssdr, y_stf, y_sstf, hl0, hlen, hbox, hmap]
      obtain rfl : i = m.spaces.length := by omega
      refine ⟨fun h => absurd (of_decide_eq_true h) (by omega), fun _ => ?_⟩
      rw [all_true hP, Bool.true_and]
      clear hP hi h1
      have hR : ∀ seen, (H ++ [Blk.map false [([1], .agg [.sl 1 (m.ram.text.map encS), .sl 1 (m.ram.refs.map encI)]), ([2], .agg [.sl 1 (m.swap.text.map encS), .sl 1 (m.swap.refs.map encI)])], Blk.iter H.length 2 seen]).all (hbB (H.length + 2)) = true := by
        intro seen
        rw [List.all_append, hT.all _ (by omega)]
        simp only [List.all_cons, List.all_nil, hbB, hb, hbL, decide_eq_true (show H.length < H.length + 2 by omega)]
        rfl
      have hR3 : ∀ seen b1 b2, (H ++ [Blk.map false [([1], .agg [.sl 1 (m.ram.text.map encS), .sl 1 (m.ram.refs.map encI)]), ([2], .agg [.sl 1 (m.swap.text.map encS), .sl 1 (m.swap.refs.map encI)])], Blk.iter H.length 2 seen, Blk.rows 202 2 [[.bool b1, .bool b2]]]).all (hbB (H.length + 3)) = true := by
        intro seen b1 b2
        rw [List.all_append, hT.all _ (by omega)]
        simp only [List.all_cons, List.all_nil, hbB, hb, hbL, decide_eq_true (show H.length < H.length + 3 by omega)]
        rfl
      refine .inl ⟨[3, 169], fun _ => H.length + 2, fun k vs H' => ∃ seen : List Nat, seen.length ≤ 2 ∧ k = 2 - seen.length ∧ vs = [.mp 1, .ptr (H.length + 1) 1 0 0] ∧ H' = H ++ [Blk.map false [([1], .agg [.sl 1 (m.ram.text.map encS), .sl 1 (m.ram.refs.map encI)]), ([2], .agg [.sl 1 (m.swap.text.map encS), .sl 1 (m.swap.refs.map encI)])], Blk.iter H.length 2 seen] ∧ seen.Nodup ∧ (∀ s, s ∈ seen → s < 2) ∧ (0 ∈ seen → kdOk m m.ram 1 = true) ∧ (1 ∈ seen → kdOk m m.swap 2 = true), fun _ => Nat.zero_le _, ?_, ?_⟩
      · simp (maxSteps := 4000000) only [pvB, ↓pvP, pvDom, pvRr, pvMm, pvLl, simprocAttr, pvI, pvY, x_be, x_bn, bbE, eqOk81, eqOk87, eqOk197, an35, pc35, an116, pc116, an117, pc117, an118, pc118, an119, pc119, an120, pc120, rBuild, rBuildA, rAppN, nilZ, ↓List.append, q_bly, q_label, zok200, key199, key3, y_put2, ↓all_two, y_last, y_kpv, List.getD_cons_zero, List.getD_cons_succ, y_rlen, y_gn, y_gl, y_sgn, y_sgl, y_ssgn, y_ssgl, y_gk, y_sn, y_sl, y_ssn, y_sk, y_ls, y_as, y_eq, y_tl, y_tf, y_ha, y_dr, y_sdr, y_ssdr, y_stf, y_sstf, hl0, hlen, hbox, hmap]
        exact ⟨by simp, hR _, _, [], by simp, rfl, rfl, by simp, fun s h => by simp at h, fun h => by simp at h, fun h => by simp at h⟩
      · rintro k vs H' - ⟨seen, hs2, rfl, rfl, rfl, hnd, hsl2, hk1, hk2⟩
        simp (maxSteps := 4000000) only [pvB, ↓pvP, pvDom, pvRr, pvMm, pvLl, simprocAttr, pvI, pvY, x_be, x_bn, bbE, eqOk81, eqOk87, eqOk197, an35, pc35, an116, pc116, an117, pc117, an118, pc118, an119, pc119, an120, pc120, rBuild, rBuildA, rAppN, nilZ, ↓List.append, q_bly, q_label, zok200, key199, key3, y_put2, ↓all_two, y_last, y_kpv, List.getD_cons_zero, List.getD_cons_succ, y_rlen, y_gn, y_gl, y_sgn, y_sgl, y_ssgn, y_ssgl, y_gk, y_sn, y_sl, y_ssn, y_sk, y_ls, y_as, y_eq, y_tl, y_tf, y_ha, y_dr, y_sdr, y_ssdr, y_stf, y_sstf, hl0, hlen, hbox, hmap]
        refine ⟨fun h => by rw [hk1 h.1, hk2 h.2]; exact Le.refl _, fun h2 => ?_, fun h2 => ?_⟩
        · refine .inl ⟨[3, 9, 169, 176, 177, 178], fun _ => H.length + 2, fun k vs H' => ∃ a : Nat, a ≤ m.ram.refs.length ∧ k = m.ram.refs.length - a ∧ vs = [.mp 1, .int .i64 1, .ptr (H.length + 1) 1 0 0, .sl 1 (m.ram.refs.map encI), .int .i64 m.ram.refs.length, .int .i64 a] ∧ H' = H ++ [Blk.map false [([1], .agg [.sl 1 (m.ram.text.map encS), .sl 1 (m.ram.refs.map encI)]), ([2], .agg [.sl 1 (m.swap.text.map encS), .sl 1 (m.swap.refs.map encI)])], Blk.iter H.length 2 (seen ++ [0])] ∧ ∀ x, x < a → atOk (tlA m m.spaces.length 1 x) (m.ram.refs.getD x 0) = true, fun _ => Nat.zero_le _, ?_, ?_⟩
          · simp (maxSteps := 4000000) only [pvB, ↓pvP, pvDom, pvRr, pvMm, pvLl, simprocAttr, pvI, pvY, x_be, x_bn, bbE, eqOk81, eqOk87, eqOk197, an35, pc35, an116, pc116, an117, pc117, an118, pc118, an119, pc119, an120, pc120, rBuild, rBuildA, rAppN, nilZ, ↓List.append, q_bly, q_label, zok200, key199, key3, y_put2, ↓all_two, y_last, y_kpv, List.getD_cons_zero, List.getD_cons_succ, y_rlen, y_gn, y_gl, y_sgn, y_sgl, y_ssgn, y_ssgl, y_gk, y_sn, y_sl, y_ssn, y_sk, y_ls, y_as, y_eq, y_tl, y_tf, y_ha, y_dr, y_sdr, y_ssdr, y_stf, y_sstf, hl0, hlen, hbox, hmap]
            exact ⟨by simp, hR _, _, 0, Nat.zero_le _, rfl, rfl, fun j hj => absurd hj (Nat.not_lt_zero j)⟩
          · rintro k vs H' - ⟨a, ha, rfl, rfl, rfl, hA⟩
            have fail : kdOk m m.ram 1 = false → Le (PV.bool false) (PV.bool (kdOk m m.ram 1 && kdOk m m.swap 2)) := fun h => by rw [h]; exact Le.refl _
            have hw : m.ram.refs.length ≤ 140737488355328 := hwf.2.1.1
            rcases Nat.lt_or_ge a m.ram.refs.length with h4 | h4
            · obtain ⟨hL1, hL2⟩ := hT.ent 1 a
              have bad : atOk (tlA m m.spaces.length 1 a) (m.ram.refs.getD a 0) = false → kdOk m m.ram 1 = false := fun h => all_false (P := fun a : Nat => atOk (tlA m m.spaces.length 1 a) (m.ram.refs.getD a 0)) h4 h
              have next : atOk (tlA m m.spaces.length 1 a) (m.ram.refs.getD a 0) = true → ∀ x, x < a + 1 → atOk (tlA m m.spaces.length 1 x) (m.ram.refs.getD x 0) = true := all_next hA
              generalize tlA m m.spaces.length 1 a = L at hL1 hL2 bad next
              rcases hL2 with ⟨rfl, ho2⟩ | ⟨oh, ho2, ho3⟩
              · refine vc_body (by rfl) ?_
                simp (maxSteps := 4000000) only [pvB, ↓pvP, pvDom, pvRr, pvMm, pvLl, simprocAttr, pvI, pvY, x_be, x_bn, bbE, eqOk81, eqOk87, eqOk197, an35, pc35, an116, pc116, an117, pc117, an118, pc118, an119, pc119, an120, pc120, rBuild, rBuildA, rAppN, nilZ, ↓List.append, q_bly, q_label, zok200, key199, key3, y_put2, ↓all_two, y_last, y_kpv, List.getD_cons_zero, List.getD_cons_succ, y_rlen, y_gn, y_gl, y_sgn, y_sgl, y_ssgn, y_ssgl, y_gk, y_sn, y_sl, y_ssn, y_sk, y_ls, y_as, y_eq, y_tl, y_tf, y_ha, y_dr, y_sdr, y_ssdr, y_stf, y_sstf, hl0, hlen, hbox, hmap, ho2]
                refine ⟨fun _ => ⟨in_of a h4, fun h5 => fail (bad (bif_t h5)), fun h5 => ?_⟩, fun h => absurd (of_decide_eq_false h) (by omega)⟩
                refine .inl ⟨[3, 9, 169, 176, 177, 178, 193, 194], fun _ => H.length + 2, fun k vs H' => k = 0 ∧ vs = [.mp 1, .int .i64 1, .ptr (H.length + 1) 1 0 0, .sl 1 (m.ram.refs.map encI), .int .i64 m.ram.refs.length, .int .i64 a, .int .i64 0, .int .i64 0] ∧ H' = H ++ [Blk.map false [([1], .agg [.sl 1 (m.ram.text.map encS), .sl 1 (m.ram.refs.map encI)]), ([2], .agg [.sl 1 (m.swap.text.map encS), .sl 1 (m.swap.refs.map encI)])], Blk.iter H.length 2 (seen ++ [0])], fun _ => Nat.zero_le _, ?_, ?_⟩
                · simp (maxSteps := 4000000) only [pvB, ↓pvP, pvDom, pvRr, pvMm, pvLl, simprocAttr, pvI, pvY, x_be, x_bn, bbE, eqOk81, eqOk87, eqOk197, an35, pc35, an116, pc116, an117, pc117, an118, pc118, an119, pc119, an120, pc120, rBuild, rBuildA, rAppN, nilZ, ↓List.append, q_bly, q_label, zok200, key199, key3, y_put2, ↓all_two, y_last, y_kpv, List.getD_cons_zero, List.getD_cons_succ, y_rlen, y_gn, y_gl, y_sgn, y_sgl, y_ssgn, y_ssgl, y_gk, y_sn, y_sl, y_ssn, y_sk, y_ls, y_as, y_eq, y_tl, y_tf, y_ha, y_dr, y_sdr, y_ssdr, y_stf, y_sstf, hl0, hlen, hbox, hmap]
                  exact ⟨by simp, hR _, _, rfl⟩
                · rintro k vs H' - ⟨rfl, rfl, rfl⟩
                  refine vc_exit (by rfl) ?_
                  simp (maxSteps := 4000000) only [pvB, ↓pvP, pvDom, pvRr, pvMm, pvLl, simprocAttr, pvI, pvY, x_be, x_bn, bbE, eqOk81, eqOk87, eqOk197, an35, pc35, an116, pc116, an117, pc117, an118, pc118, an119, pc119, an120, pc120, rBuild, rBuildA, rAppN, nilZ, ↓List.append, q_bly, q_label, zok200, key199, key3, y_put2, ↓all_two, y_last, y_kpv, List.getD_cons_zero, List.getD_cons_succ, y_rlen, y_gn, y_gl, y_sgn, y_sgl, y_ssgn, y_ssgl, y_gk, y_sn, y_sl, y_ssn, y_sk, y_ls, y_as, y_eq, y_tl, y_tf, y_ha, y_dr, y_sdr, y_ssdr, y_stf, y_sstf, hl0, hlen, hbox, hmap]
                  exact ⟨by simp, hR _, _, by omega, a + 1, h4, rfl, by rw [w_add (by omega)], next (bif_f h5)⟩
              · have hol := (List.getElem?_eq_some_iff.1 ho3).1
                refine vc_body (by rfl) ?_
                simp (maxSteps := 4000000) only [pvB, ↓pvP, pvDom, pvRr, pvMm, pvLl, simprocAttr, pvI, pvY, x_be, x_bn, bbE, eqOk81, eqOk87, eqOk197, an35, pc35, an116, pc116, an117, pc117, an118, pc118, an119, pc119, an120, pc120, rBuild, rBuildA, rAppN, nilZ, ↓List.append, q_bly, q_label, zok200, key199, key3, y_put2, ↓all_two, y_last, y_kpv, List.getD_cons_zero, List.getD_cons_succ, y_rlen, y_gn, y_gl, y_sgn, y_sgl, y_ssgn, y_ssgl, y_gk, y_sn, y_sl, y_ssn, y_sk, y_ls, y_as, y_eq, y_tl, y_tf, y_ha, y_dr, y_sdr, y_ssdr, y_stf, y_sstf, hl0, hlen, hbox, hmap, ho2, ho3, hol]
                refine ⟨fun _ => ⟨in_of a h4, fun h5 => fail (bad (bif_t h5)), fun h5 => ?_⟩, fun h => absurd (of_decide_eq_false h) (by omega)⟩
                have fail2 : ∀ i j, i < L.length → j < L.length → prOk L i j = false → Le (PV.bool false) (PV.bool (kdOk m m.ram 1 && kdOk m m.swap 2)) := fun i j hi hj hp => fail (bad ((bif_f h5).trans (all_false hi (all_false hj hp))))
                refine .inl ⟨[3, 9, 13, 169, 176, 177, 178, 192, 193, 194], fun _ => H.length + 2, fun k vs H' => ∃ i : Nat, i ≤ L.length ∧ k = L.length - i ∧ vs = [.mp 1, .int .i64 1, .own oh 2 0 L.length, .ptr (H.length + 1) 1 0 0, .sl 1 (m.ram.refs.map encI), .int .i64 m.ram.refs.length, .int .i64 a, .own oh 2 0 L.length, .int .i64 L.length, .int .i64 i] ∧ H' = H ++ [Blk.map false [([1], .agg [.sl 1 (m.ram.text.map encS), .sl 1 (m.ram.refs.map encI)]), ([2], .agg [.sl 1 (m.swap.text.map encS), .sl 1 (m.swap.refs.map encI)])], Blk.iter H.length 2 (seen ++ [0])] ∧ ∀ x, x < i → (List.range L.length).all (prOk L x) = true, fun _ => Nat.zero_le _, ?_, ?_⟩
                · simp (maxSteps := 4000000) only [pvB, ↓pvP, pvDom, pvRr, pvMm, pvLl, simprocAttr, pvI, pvY, x_be, x_bn, bbE, eqOk81, eqOk87, eqOk197, an35, pc35, an116, pc116, an117, pc117, an118, pc118, an119, pc119, an120, pc120, rBuild, rBuildA, rAppN, nilZ, ↓List.append, q_bly, q_label, zok200, key199, key3, y_put2, ↓all_two, y_last, y_kpv, List.getD_cons_zero, List.getD_cons_succ, y_rlen, y_gn, y_gl, y_sgn, y_sgl, y_ssgn, y_ssgl, y_gk, y_sn, y_sl, y_ssn, y_sk, y_ls, y_as, y_eq, y_tl, y_tf, y_ha, y_dr, y_sdr, y_ssdr, y_stf, y_sstf, hl0, hlen, hbox, hmap]
                  exact ⟨by simp; omega, hR _, _, 0, Nat.zero_le _, rfl, rfl, fun j hj => absurd hj (Nat.not_lt_zero j)⟩
                · rintro k vs H' - ⟨i, hi, rfl, rfl, rfl, hI⟩
                  rcases Nat.lt_or_ge i L.length with h6 | h6
                  · have hrow := y_row h6
                    refine vc_body (by rfl) ?_
                    simp (maxSteps := 4000000) only [pvB, ↓pvP, pvDom, pvRr, pvMm, pvLl, simprocAttr, pvI, pvY, x_be, x_bn, bbE, eqOk81, eqOk87, eqOk197, an35, pc35, an116, pc116, an117, pc117, an118, pc118, an119, pc119, an120, pc120, rBuild, rBuildA, rAppN, nilZ, ↓List.append, q_bly, q_label, zok200, key199, key3, y_put2, ↓all_two, y_last, y_kpv, List.getD_cons_zero, List.getD_cons_succ, y_rlen, y_gn, y_gl, y_sgn, y_sgl, y_ssgn, y_ssgl, y_gk, y_sn, y_sl, y_ssn, y_sk, y_ls, y_as, y_eq, y_tl, y_tf, y_ha, y_dr, y_sdr, y_ssdr, y_stf, y_sstf, hl0, hlen, hbox, hmap, ho3, hol, hrow]
                    refine ⟨fun _ => ⟨in_of i h6, h6, ?_⟩, fun h => absurd (of_decide_eq_false h) (by omega)⟩
                    refine .inl ⟨[3, 9, 13, 14, 15, 169, 176, 177, 178, 192, 193, 194, 199, 200, 201], fun _ => H.length + 3, fun k vs H' => ∃ j : Nat, j ≤ L.length ∧ k = L.length - j ∧ vs = [.mp 1, .int .i64 1, .own oh 2 0 L.length, .int .i64 i, .ptr (H.length + 2) 2 0 0, .ptr (H.length + 1) 1 0 0, .sl 1 (m.ram.refs.map encI), .int .i64 m.ram.refs.length, .int .i64 a, .own oh 2 0 L.length, .int .i64 L.length, .int .i64 i, .own oh 2 0 L.length, .int .i64 L.length, .int .i64 j] ∧ H' = H ++ [Blk.map false [([1], .agg [.sl 1 (m.ram.text.map encS), .sl 1 (m.ram.refs.map encI)]), ([2], .agg [.sl 1 (m.swap.text.map encS), .sl 1 (m.swap.refs.map encI)])], Blk.iter H.length 2 (seen ++ [0]), Blk.rows 202 2 [[PV.bool (L.getD i default).fst, PV.bool (L.getD i default).snd]]] ∧ ∀ x, x < j → prOk L i x = true, fun _ => Nat.zero_le _, ?_, ?_⟩
                    · simp (maxSteps := 4000000) only [pvB, ↓pvP, pvDom, pvRr, pvMm, pvLl, simprocAttr, pvI, pvY, x_be, x_bn, bbE, eqOk81, eqOk87, eqOk197, an35, pc35, an116, pc116, an117, pc117, an118, pc118, an119, pc119, an120, pc120, rBuild, rBuildA, rAppN, nilZ, ↓List.append, q_bly, q_label, zok200, key199, key3, y_put2, ↓all_two, y_last, y_kpv, List.getD_cons_zero, List.getD_cons_succ, y_rlen, y_gn, y_gl, y_sgn, y_sgl, y_ssgn, y_ssgl, y_gk, y_sn, y_sl, y_ssn, y_sk, y_ls, y_as, y_eq, y_tl, y_tf, y_ha, y_dr, y_sdr, y_ssdr, y_stf, y_sstf, hl0, hlen, hbox, hmap]
                      exact ⟨by simp; omega, hR3 _ _ _, _, 0, Nat.zero_le _, rfl, rfl, fun j hj => absurd hj (Nat.not_lt_zero j)⟩
                    · rintro k vs H' - ⟨j, hj, rfl, rfl, rfl, hJ⟩
                      rcases Nat.lt_or_ge j L.length with h7 | h7
                      · have hrow2 := y_row h7
                        refine vc_body (by rfl) ?_
                        simp (maxSteps := 4000000) only [pvB, ↓pvP, pvDom, pvRr, pvMm, pvLl, simprocAttr, pvI, pvY, x_be, x_bn, bbE, eqOk81, eqOk87, eqOk197, an35, pc35, an116, pc116, an117, pc117, an118, pc118, an119, pc119, an120, pc120, rBuild, rBuildA, rAppN, nilZ, ↓List.append, q_bly, q_label, zok200, key199, key3, y_put2, ↓all_two, y_last, y_kpv, List.getD_cons_zero, List.getD_cons_succ, y_rlen, y_gn, y_gl, y_sgn, y_sgl, y_ssgn, y_ssgl, y_gk, y_sn, y_sl, y_ssn, y_sk, y_ls, y_as, y_eq, y_tl, y_tf, y_ha, y_dr, y_sdr, y_ssdr, y_stf, y_sstf, hl0, hlen, hbox, hmap, ho3, hol, hrow, hrow2]
                        exact ⟨fun _ => ⟨in_of j h7, h7, fun h8 => fail2 i j h6 h7 (congrArg not h8), fun h8 => ⟨by simp; omega, hR3 _ _ _, _, by omega, j + 1, h7, rfl, by rw [w_add (by omega)], all_next hJ (congrArg not h8)⟩⟩, fun h => absurd (of_decide_eq_false h) (by omega)⟩
                      · refine vc_exit (by rfl) ?_
                        simp (maxSteps := 4000000) only [pvB, ↓pvP, pvDom, pvRr, pvMm, pvLl, simprocAttr, pvI, pvY, x_be, x_bn, bbE, eqOk81, eqOk87, eqOk197, an35, pc35, an116, pc116, an117, pc117, an118, pc118, an119, pc119, an120, pc120, rBuild, rBuildA, rAppN, nilZ, ↓List.append, q_bly, q_label, zok200, key199, key3, y_put2, ↓all_two, y_last, y_kpv, List.getD_cons_zero, List.getD_cons_succ, y_rlen, y_gn, y_gl, y_sgn, y_sgl, y_ssgn, y_ssgl, y_gk, y_sn, y_sl, y_ssn, y_sk, y_ls, y_as, y_eq, y_tl, y_tf, y_ha, y_dr, y_sdr, y_ssdr, y_stf, y_sstf, hl0, hlen, hbox, hmap]
                        obtain rfl : j = L.length := by omega
                        exact ⟨fun h => absurd (of_decide_eq_true h) (by omega), fun _ => ⟨by simp; omega, hR _, _, by omega, i + 1, h6, rfl, by rw [w_add (by omega)], all_next hI (all_true hJ)⟩⟩
                  · refine vc_exit (by rfl) ?_
                    simp (maxSteps := 4000000) only [pvB, ↓pvP, pvDom, pvRr, pvMm, pvLl, simprocAttr, pvI, pvY, x_be, x_bn, bbE, eqOk81, eqOk87, eqOk197, an35, pc35, an116, pc116, an117, pc117, an118, pc118, an119, pc119, an120, pc120, rBuild, rBuildA, rAppN, nilZ, ↓List.append, q_bly, q_label, zok200, key199, key3, y_put2, ↓all_two, y_last, y_kpv, List.getD_cons_zero, List.getD_cons_succ, y_rlen, y_gn, y_gl, y_sgn, y_sgl, y_ssgn, y_ssgl, y_gk, y_sn, y_sl, y_ssn, y_sk, y_ls, y_as, y_eq, y_tl, y_tf, y_ha, y_dr, y_sdr, y_ssdr, y_stf, y_sstf, hl0, hlen, hbox, hmap]
                    obtain rfl : i = L.length := by omega
                    exact ⟨fun h => absurd (of_decide_eq_true h) (by omega), fun _ => ⟨by simp, hR _, _, by omega, a + 1, h4, rfl, by rw [w_add (by omega)], next ((bif_f h5).trans (all_true hI))⟩⟩
            · refine vc_exit (by rfl) ?_
              simp (maxSteps := 4000000) only [pvB, ↓pvP, pvDom, pvRr, pvMm, pvLl, simprocAttr, pvI, pvY, x_be, x_bn, bbE, eqOk81, eqOk87, eqOk197, an35, pc35, an116, pc116, an117, pc117, an118, pc118, an119, pc119, an120, pc120, rBuild, rBuildA, rAppN, nilZ, ↓List.append, q_bly, q_label, zok200, key199, key3, y_put2, ↓all_two, y_last, y_kpv, List.getD_cons_zero, List.getD_cons_succ, y_rlen, y_gn, y_gl, y_sgn, y_sgl, y_ssgn, y_ssgl, y_gk, y_sn, y_sl, y_ssn, y_sk, y_ls, y_as, y_eq, y_tl, y_tf, y_ha, y_dr, y_sdr, y_ssdr, y_stf, y_sstf, hl0, hlen, hbox, hmap]
              obtain rfl : a = m.ram.refs.length := by omega
              have hkd : kdOk m m.ram 1 = true := all_true (P := fun a : Nat => atOk (tlA m m.spaces.length 1 a) (m.ram.refs.getD a 0)) hA
              obtain ⟨n1, n2, n3, n4⟩ := seen_len hnd hsl2 (by omega) h2
              exact ⟨fun h => absurd (of_decide_eq_true h) (by omega), fun _ => ⟨by simp, hR _, _, by omega, seen ++ [0], by omega, rfl, rfl, n2, n3, fun _ => hkd, fun h => hk2 (by simpa using h)⟩⟩
        · refine .inl ⟨[3, 9, 169, 176, 177, 178], fun _ => H.length + 2, fun k vs H' => ∃ a : Nat, a ≤ m.swap.refs.length ∧ k = m.swap.refs.length - a ∧ vs = [.mp 1, .int .i64 2, .ptr (H.length + 1) 1 0 0, .sl 1 (m.swap.refs.map encI), .int .i64 m.swap.refs.length, .int .i64 a] ∧ H' = H ++ [Blk.map false [([1], .agg [.sl 1 (m.ram.text.map encS), .sl 1 (m.ram.refs.map encI)]), ([2], .agg [.sl 1 (m.swap.text.map encS), .sl 1 (m.swap.refs.map encI)])], Blk.iter H.length 2 (seen ++ [1])] ∧ ∀ x, x < a → atOk (tlA m m.spaces.length 2 x) (m.swap.refs.getD x 0) = true, fun _ => Nat.zero_le _, ?_, ?_⟩
          · simp (maxSteps := 4000000) only [pvB, ↓pvP, pvDom, pvRr, pvMm, pvLl, simprocAttr, pvI, pvY, x_be, x_bn, bbE, eqOk81, eqOk87, eqOk197, an35, pc35, an116, pc116, an117, pc117, an118, pc118, an119, pc119, an120, pc120, rBuild, rBuildA, rAppN, nilZ, ↓List.append, q_bly, q_label, zok200, key199, key3, y_put2, ↓all_two, y_last, y_kpv, List.getD_cons_zero, List.getD_cons_succ, y_rlen, y_gn, y_gl, y_sgn, y_sgl, y_ssgn, y_ssgl, y_gk, y_sn, y_sl, y_ssn, y_sk, y_ls, y_as, y_eq, y_tl, y_tf, y_ha, y_dr, y_sdr, y_ssdr, y_stf, y_sstf, hl0, hlen, hbox, hmap]
            exact ⟨by simp, hR _, _, 0, Nat.zero_le _, rfl, rfl, fun j hj => absurd hj (Nat.not_lt_zero j)⟩
          · rintro k vs H' - ⟨a, ha, rfl, rfl, rfl, hA⟩
            have fail : kdOk m m.swap 2 = false → Le (PV.bool false) (PV.bool (kdOk m m.ram 1 && kdOk m m.swap 2)) := fun h => by rw [h, Bool.and_false]; exact Le.refl _
            have hw : m.swap.refs.length ≤ 140737488355328 := hwf.2.2.2.1.1
            rcases Nat.lt_or_ge a m.swap.refs.length with h4 | h4
            · obtain ⟨hL1, hL2⟩ := hT.ent 2 a
              have bad : atOk (tlA m m.spaces.length 2 a) (m.swap.refs.getD a 0) = false → kdOk m m.swap 2 = false := fun h => all_false (P := fun a : Nat => atOk (tlA m m.spaces.length 2 a) (m.swap.refs.getD a 0)) h4 h
              have next : atOk (tlA m m.spaces.length 2 a) (m.swap.refs.getD a 0) = true → ∀ x, x < a + 1 → atOk (tlA m m.spaces.length 2 x) (m.swap.refs.getD x 0) = true := all_next hA
              generalize tlA m m.spaces.length 2 a = L at hL1 hL2 bad next
              rcases hL2 with ⟨rfl, ho2⟩ | ⟨oh, ho2, ho3⟩
              · refine vc_body (by rfl) ?_
                simp (maxSteps := 4000000) only [pvB, ↓pvP, pvDom, pvRr, pvMm, pvLl, simprocAttr, pvI, pvY, x_be, x_bn, bbE, eqOk81, eqOk87, eqOk197, an35, pc35, an116, pc116, an117, pc117, an118, pc118, an119, pc119, an120, pc120, rBuild, rBuildA, rAppN, nilZ, ↓List.append, q_bly, q_label, zok200, key199, key3, y_put2, ↓all_two, y_last, y_kpv, List.getD_cons_zero, List.getD_cons_succ, y_rlen, y_gn, y_gl, y_sgn, y_sgl, y_ssgn, y_ssgl, y_gk, y_sn, y_sl, y_ssn, y_sk, y_ls, y_as, y_eq, y_tl, y_tf, y_ha, y_dr, y_sdr, y_ssdr, y_stf, y_sstf, hl0, hlen, hbox, hmap, ho2]
                refine ⟨fun _ => ⟨in_of a h4, fun h5 => fail (bad (bif_t h5)), fun h5 => ?_⟩, fun h => absurd (of_decide_eq_false h) (by omega)⟩
                refine .inl ⟨[3, 9, 169, 176, 177, 178, 193, 194], fun _ => H.length + 2, fun k vs H' => k = 0 ∧ vs = [.mp 1, .int .i64 2, .ptr (H.length + 1) 1 0 0, .sl 1 (m.swap.refs.map encI), .int .i64 m.swap.refs.length, .int .i64 a, .int .i64 0, .int .i64 0] ∧ H' = H ++ [Blk.map false [([1], .agg [.sl 1 (m.ram.text.map encS), .sl 1 (m.ram.refs.map encI)]), ([2], .agg [.sl 1 (m.swap.text.map encS), .sl 1 (m.swap.refs.map encI)])], Blk.iter H.length 2 (seen ++ [1])], fun _ => Nat.zero_le _, ?_, ?_⟩
                · simp (maxSteps := 4000000) only [pvB, ↓pvP, pvDom, pvRr, pvMm, pvLl, simprocAttr, pvI, pvY, x_be, x_bn, bbE, eqOk81, eqOk87, eqOk197, an35, pc35, an116, pc116, an117, pc117, an118, pc118, an119, pc119, an120, pc120, rBuild, rBuildA, rAppN, nilZ, ↓List.append, q_bly, q_label, zok200, key199, key3, y_put2, ↓all_two, y_last, y_kpv, List.getD_cons_zero, List.getD_cons_succ, y_rlen, y_gn, y_gl, y_sgn, y_sgl, y_ssgn, y_ssgl, y_gk, y_sn, y_sl, y_ssn, y_sk, y_ls, y_as, y_eq, y_tl, y_tf, y_ha, y_dr, y_sdr, y_ssdr, y_stf, y_sstf, hl0, hlen, hbox, hmap]
                  exact ⟨by simp, hR _, _, rfl⟩
                · rintro k vs H' - ⟨rfl, rfl, rfl⟩
                  refine vc_exit (by rfl) ?_
                  simp (maxSteps := 4000000) only [pvB, ↓pvP, pvDom, pvRr, pvMm, pvLl, simprocAttr, pvI, pvY, x_be, x_bn, bbE, eqOk81, eqOk87, eqOk197, an35, pc35, an116, pc116, an117, pc117, an118, pc118, an119, pc119, an120, pc120, rBuild, rBuildA, rAppN, nilZ, ↓List.append, q_bly, q_label, zok200, key199, key3, y_put2, ↓all_two, y_last, y_kpv, List.getD_cons_zero, List.getD_cons_succ, y_rlen, y_gn, y_gl, y_sgn, y_sgl, y_ssgn, y_ssgl, y_gk, y_sn, y_sl, y_ssn, y_sk, y_ls, y_as, y_eq, y_tl, y_tf, y_ha, y_dr, y_sdr, y_ssdr, y_stf, y_sstf, hl0, hlen, hbox, hmap]
                  exact ⟨by simp, hR _, _, by omega, a + 1, h4, rfl, by rw [w_add (by omega)], next (bif_f h5)⟩
              · have hol := (List.getElem?_eq_some_iff.1 ho3).1
                refine vc_body (by rfl) ?_
                simp (maxSteps := 4000000) only [pvB, ↓pvP, pvDom, pvRr, pvMm, pvLl, simprocAttr, pvI, pvY, x_be, x_bn, bbE, eqOk81, eqOk87, eqOk197, an35, pc35, an116, pc116, an117, pc117, an118, pc118, an119, pc119, an120, pc120, rBuild, rBuildA, rAppN, nilZ, ↓List.append, q_bly, q_label, zok200, key199, key3, y_put2, ↓all_two, y_last, y_kpv, List.getD_cons_zero, List.getD_cons_succ, y_rlen, y_gn, y_gl, y_sgn, y_sgl, y_ssgn, y_ssgl, y_gk, y_sn, y_sl, y_ssn, y_sk, y_ls, y_as, y_eq, y_tl, y_tf, y_ha, y_dr, y_sdr, y_ssdr, y_stf, y_sstf, hl0, hlen, hbox, hmap, ho2, ho3, hol]
                refine ⟨fun _ => ⟨in_of a h4, fun h5 => fail (bad (bif_t h5)), fun h5 => ?_⟩, fun h => absurd (of_decide_eq_false h) (by omega)⟩
                have fail2 : ∀ i j, i < L.length → j < L.length → prOk L i j = false → Le (PV.bool false) (PV.bool (kdOk m m.ram 1 && kdOk m m.swap 2)) := fun i j hi hj hp => fail (bad ((bif_f h5).trans (all_false hi (all_false hj hp))))
                refine .inl ⟨[3, 9, 13, 169, 176, 177, 178, 192, 193, 194], fun _ => H.length + 2, fun k vs H' => ∃ i : Nat, i ≤ L.length ∧ k = L.length - i ∧ vs = [.mp 1, .int .i64 2, .own oh 2 0 L.length, .ptr (H.length + 1) 1 0 0, .sl 1 (m.swap.refs.map encI), .int .i64 m.swap.refs.length, .int .i64 a, .own oh 2 0 L.length, .int .i64 L.length, .int .i64 i] ∧ H' = H ++ [Blk.map false [([1], .agg [.sl 1 (m.ram.text.map encS), .sl 1 (m.ram.refs.map encI)]), ([2], .agg [.sl 1 (m.swap.text.map encS), .sl 1 (m.swap.refs.map encI)])], Blk.iter H.length 2 (seen ++ [1])] ∧ ∀ x, x < i → (List.range L.length).all (prOk L x) = true, fun _ => Nat.zero_le _, ?_, ?_⟩
                · simp (maxSteps := 4000000) only [pvB, ↓pvP, pvDom, pvRr, pvMm, pvLl, simprocAttr, pvI, pvY, x_be, x_bn, bbE, eqOk81, eqOk87, eqOk197, an35, pc35, an116, pc116, an117, pc117, an118, pc118, an119, pc119, an120, pc120, rBuild, rBuildA, rAppN, nilZ, ↓List.append, q_bly, q_label, zok200, key199, key3, y_put2, ↓all_two, y_last, y_kpv, List.getD_cons_zero, List.getD_cons_succ, y_rlen, y_gn, y_gl, y_sgn, y_sgl, y_ssgn, y_ssgl, y_gk, y_sn, y_sl, y_ssn, y_sk, y_ls, y_as, y_eq, y_tl, y_tf, y_ha, y_dr, y_sdr, y_ssdr, y_stf, y_sstf, hl0, hlen, hbox, hmap]
                  exact ⟨by simp; omega, hR _, _, 0, Nat.zero_le _, rfl, rfl, fun j hj => absurd hj (Nat.not_lt_zero j)⟩
                · rintro k vs H' - ⟨i, hi, rfl, rfl, rfl, hI⟩
                  rcases Nat.lt_or_ge i L.length with h6 | h6
                  · have hrow := y_row h6
                    refine vc_body (by rfl) ?_
                    simp (maxSteps := 4000000) only [pvB, ↓pvP, pvDom, pvRr, pvMm, pvLl, simprocAttr, pvI, pvY, x_be, x_bn, bbE, eqOk81, eqOk87, eqOk197, an35, pc35, an116, pc116, an117, pc117, an118, pc118, an119, pc119, an120, pc120, rBuild, rBuildA, rAppN, nilZ, ↓List.append, q_bly, q_label, zok200, key199, key3, y_put2, ↓all_two, y_last, y_kpv, List.getD_cons_zero, List.getD_cons_succ, y_rlen, y_gn, y_gl, y_sgn, y_sgl, y_ssgn, y_ssgl, y_gk, y_sn, y_sl, y_ssn, y_sk, y_ls, y_as, y_eq, y_tl, y_tf, y_ha, y_dr, y_sdr, y_ssdr, y_stf, y_sstf, hl0, hlen, hbox, hmap, ho3, hol, hrow]
                    refine ⟨fun _ => ⟨in_of i h6, h6, ?_⟩, fun h => absurd (of_decide_eq_false h) (by omega)⟩
                    refine .inl ⟨[3, 9, 13, 14, 15, 169, 176, 177, 178, 192, 193, 194, 199, 200, 201], fun _ => H.length + 3, fun k vs H' => ∃ j : Nat, j ≤ L.length ∧ k = L.length - j ∧ vs = [.mp 1, .int .i64 2, .own oh 2 0 L.length, .int .i64 i, .ptr (H.length + 2) 2 0 0, .ptr (H.length + 1) 1 0 0, .sl 1 (m.swap.refs.map encI), .int .i64 m.swap.refs.length, .int .i64 a, .own oh 2 0 L.length, .int .i64 L.length, .int .i64 i, .own oh 2 0 L.length, .int .i64 L.length, .int .i64 j] ∧ H' = H ++ [Blk.map false [([1], .agg [.sl 1 (m.ram.text.map encS), .sl 1 (m.ram.refs.map encI)]), ([2], .agg [.sl 1 (m.swap.text.map encS), .sl 1 (m.swap.refs.map encI)])], Blk.iter H.length 2 (seen ++ [1]), Blk.rows 202 2 [[PV.bool (L.getD i default).fst, PV.bool (L.getD i default).snd]]] ∧ ∀ x, x < j → prOk L i x = true, fun _ => Nat.zero_le _, ?_, ?_⟩
                    · simp (maxSteps := 4000000) only [pvB, ↓pvP, pvDom, pvRr, pvMm, pvLl, simprocAttr, pvI, pvY, x_be, x_bn, bbE, eqOk81, eqOk87, eqOk197, an35, pc35, an116, pc116, an117, pc117, an118, pc118, an119, pc119, an120, pc120, rBuild, rBuildA, rAppN, nilZ, ↓List.append, q_bly, q_label, zok200, key199, key3, y_put2, ↓all_two, y_last, y_kpv, List.getD_cons_zero, List.getD_cons_succ, y_rlen, y_gn, y_gl, y_sgn, y_sgl, y_ssgn, y_ssgl, y_gk, y_sn, y_sl, y_ssn, y_sk, y_ls, y_as, y_eq, y_tl, y_tf, y_ha, y_dr, y_sdr, y_ssdr, y_stf, y_sstf, hl0, hlen, hbox, hmap]
                      exact ⟨by simp; omega, hR3 _ _ _, _, 0, Nat.zero_le _, rfl, rfl, fun j hj => absurd hj (Nat.not_lt_zero j)⟩
                    · rintro k vs H' - ⟨j, hj, rfl, rfl, rfl, hJ⟩
                      rcases Nat.lt_or_ge j L.length with h7 | h7
                      · have hrow2 := y_row h7
                        refine vc_body (by rfl) ?_
                        simp (maxSteps := 4000000) only [pvB, ↓pvP, pvDom, pvRr, pvMm, pvLl, simprocAttr, pvI, pvY, x_be, x_bn, bbE, eqOk81, eqOk87, eqOk197, an35, pc35, an116, pc116, an117, pc117, an118, pc118, an119, pc119, an120, pc120, rBuild, rBuildA, rAppN, nilZ, ↓List.append, q_bly, q_label, zok200, key199, key3, y_put2, ↓all_two, y_last, y_kpv, List.getD_cons_zero, List.getD_cons_succ, y_rlen, y_gn, y_gl, y_sgn, y_sgl, y_ssgn, y_ssgl, y_gk, y_sn, y_sl, y_ssn, y_sk, y_ls, y_as, y_eq, y_tl, y_tf, y_ha, y_dr, y_sdr, y_ssdr, y_stf, y_sstf, hl0, hlen, hbox, hmap, ho3, hol, hrow, hrow2]
                        exact ⟨fun _ => ⟨in_of j h7, h7, fun h8 => fail2 i j h6 h7 (congrArg not h8), fun h8 => ⟨by simp; omega, hR3 _ _ _, _, by omega, j + 1, h7, rfl, by rw [w_add (by omega)], all_next hJ (congrArg not h8)⟩⟩, fun h => absurd (of_decide_eq_false h) (by omega)⟩
                      · refine vc_exit (by rfl) ?_
                        simp (maxSteps := 4000000) only [pvB, ↓pvP, pvDom, pvRr, pvMm, pvLl, simprocAttr, pvI, pvY, x_be, x_bn, bbE, eqOk81, eqOk87, eqOk197, an35, pc35, an116, pc116, an117, pc117, an118, pc118, an119, pc119, an120, pc120, rBuild, rBuildA, rAppN, nilZ, ↓List.append, q_bly, q_label, zok200, key199, key3, y_put2, ↓all_two, y_last, y_kpv, List.getD_cons_zero, List.getD_cons_succ, y_rlen, y_gn, y_gl, y_sgn, y_sgl, y_ssgn, y_ssgl, y_gk, y_sn, y_sl, y_ssn, y_sk, y_ls, y_as, y_eq, y_tl, y_tf, y_ha, y_dr, y_sdr, y_ssdr, y_stf, y_sstf, hl0, hlen, hbox, hmap]
                        obtain rfl : j = L.length := by omega
                        exact ⟨fun h => absurd (of_decide_eq_true h) (by omega), fun _ => ⟨by simp; omega, hR _, _, by omega, i + 1, h6, rfl, by rw [w_add (by omega)], all_next hI (all_true hJ)⟩⟩
                  · refine vc_exit (by rfl) ?_
                    simp (maxSteps := 4000000) only [pvB, ↓pvP, pvDom, pvRr, pvMm, pvLl, simprocAttr, pvI, pvY, x_be, x_bn, bbE, eqOk81, eqOk87, eqOk197, an35, pc35, an116, pc116, an117, pc117, an118, pc118, an119, pc119, an120, pc120, rBuild, rBuildA, rAppN, nilZ, ↓List.append, q_bly, q_label, zok200, key199, key3, y_put2, ↓all_two, y_last, y_kpv, List.getD_cons_zero, List.getD_cons_succ, y_rlen, y_gn, y_gl, y_sgn, y_sgl, y_ssgn, y_ssgl, y_gk, y_sn, y_sl, y_ssn, y_sk, y_ls, y_as, y_eq, y_tl, y_tf, y_ha, y_dr, y_sdr, y_ssdr, y_stf, y_sstf, hl0, hlen, hbox, hmap]
                    obtain rfl : i = L.length := by omega
                    exact ⟨fun h => absurd (of_decide_eq_true h) (by omega), fun _ => ⟨by simp, hR _, _, by omega, a + 1, h4, rfl, by rw [w_add (by omega)], next ((bif_f h5).trans (all_true hI))⟩⟩
            · refine vc_exit (by rfl) ?_
              simp (maxSteps := 4000000) only [pvB, ↓pvP, pvDom, pvRr, pvMm, pvLl, simprocAttr, pvI, pvY, x_be, x_bn, bbE, eqOk81, eqOk87, eqOk197, an35, pc35, an116, pc116, an117, pc117, an118, pc118, an119, pc119, an120, pc120, rBuild, rBuildA, rAppN, nilZ, ↓List.append, q_bly, q_label, zok200, key199, key3, y_put2, ↓all_two, y_last, y_kpv, List.getD_cons_zero, List.getD_cons_succ, y_rlen, y_gn, y_gl, y_sgn, y_sgl, y_ssgn, y_ssgl, y_gk, y_sn, y_sl, y_ssn, y_sk, y_ls, y_as, y_eq, y_tl, y_tf, y_ha, y_dr, y_sdr, y_ssdr, y_stf, y_sstf, hl0, hlen, hbox, hmap]
              obtain rfl : a = m.swap.refs.length := by omega
              have hkd : kdOk m m.swap 2 = true := all_true (P := fun a : Nat => atOk (tlA m m.spaces.length 2 a) (m.swap.refs.getD a 0)) hA
              obtain ⟨n1, n2, n3, n4⟩ := seen_len hnd hsl2 (by omega) h2
              exact ⟨fun h => absurd (of_decide_eq_true h) (by omega), fun _ => ⟨by simp, hR _, _, by omega, seen ++ [1], by omega, rfl, rfl, n2, n3, fun h => hk1 (by simpa using h), fun _ => hkd⟩⟩

end Go.Proofs.YtemoiphdjocaiaaGreat
