/-
  What the body of the law FnExactKernWaits answers. Conditions: none.
-/
import Derived.Test.YtemoiphdjocaiaaGreatPvDraw
import Derived.Test.YtemoiphdjocaiaaGreatPvWaits
set_option linter.all false
set_option linter.unusedSimpArgs false
set_option linter.unusedVariables false
namespace Go.Proofs.YtemoiphdjocaiaaGreat
open Go.Pv
open Go.RowKit (Below)
set_option maxRecDepth 100000
def ans5 (x : Kern) (m : Int) : List Int := bif isK x m then waL x m 5 else []
theorem ans5_len (x : Kern) (m : Int) : (ans5 x m).length ≤ 1048576 := by
  unfold ans5
  have := waL_len x m 5
  cases isK x m
  · exact Nat.zero_le _
  · show (waL x m 5).length ≤ _
    omega
theorem rel_tup25 {F : Fr} {w : World} {v : Value} {p q : PV} (h : RelF F w v (.tup [p, q])) : ∃ u z, v = .tuple #[u, z] ∧ RelF F w u p ∧ RelF F w z q := by
  cases h with
  | tup cs _ hn h =>
    have h0 := h 0 (by simp)
    have h1 := h 1 (by simp)
    match cs, hn with
    | ⟨[u, z]⟩, _ => exact ⟨u, z, rfl, h0, h1⟩
theorem kA5 {F : Fr} {w : World} {ts : Array Value} {x : Kern} {m : Int} (h : RelF F w (.agg ts) (.agg x.enc)) (hF : ∀ b, F true b → b < w.heap.size) :
    Calls Tryz.prog 17 #[.agg ts, .int .i64 m] w fun e w' => ∃ v, e = .returned (.tuple #[v, .bool (isK x m)]) ∧ RelF (Upto w'.heap.size) w' v (.sl 1 ((ans5 x m).map encI)) ∧ Below w.heap.size w w' :=
  ((pc17 x m).2 F w _ hF rfl (two_args h (.int _ _))).mono fun e w' ⟨v, he, hv, hb⟩ => by
    have hv : RelF (Upto w'.heap.size) w' v (waP x m) := hv.frameT (fun t b hb' _ => hb'.elim (fun h => Nat.lt_of_lt_of_le (hF b h) hb.size) (·.2)) fun _ _ => rfl
    unfold waP at hv
    unfold ans5
    cases hk : isK x m with
    | true =>
      rw [hk] at hv
      obtain ⟨u, z, rfl, h1, h2⟩ := rel_tup25 hv
      obtain rfl := rel_bool h2
      exact ⟨u, he, h1, hb⟩
    | false =>
      rw [hk] at hv
      obtain ⟨u, z, rfl, h1, h2⟩ := rel_tup25 hv
      obtain rfl := rel_bool h2
      exact ⟨u, he, h1, hb⟩
theorem kB5 {w : World} {ts : Array Value} {x : Kern} {m : Int} (h : RelF (There w) w (.agg ts) (.agg x.enc)) :
    Calls Tryz.prog 18 #[.agg ts, .int .i64 m] w fun e w' => ∃ v, e = .returned (.tuple #[v, .bool (isK x m)]) ∧ RelF (Btw w.heap.size w'.heap.size) w' v (.fs 1 ((ans5 x m).map encI)) ∧ Below w.heap.size w w' :=
  ((pc18 x m).2 (There w) w _ (fun b h => h.2) rfl (two_args h (.int _ _))).mono fun e w' ⟨v, he, hv, hb⟩ => by
    unfold waPI at hv
    unfold ans5
    have hF : ∀ b, (There w false b ∨ (w.heap.size ≤ b ∧ b < w'.heap.size)) → w.heap.size ≤ b ∧ b < w'.heap.size := fun b h => h.elim (fun h => by cases h.1) id
    cases hk : isK x m with
    | true =>
      rw [hk] at hv
      obtain ⟨u, z, rfl, h1, h2⟩ := rel_tup25 hv
      obtain rfl := rel_bool h2
      exact ⟨u, he, thin h1 hF, hb⟩
    | false =>
      rw [hk] at hv
      obtain ⟨u, z, rfl, h1, h2⟩ := rel_tup25 hv
      obtain rfl := rel_bool h2
      refine ⟨u, he, ?_, hb⟩
      cases h1
      exact .fs0 _ _ _

theorem law5 {W : World} {cs : Array Value} {x : Kern} {m : Int} (ha : RelF (There W) W (.agg cs) (.agg x.enc)) :
    Calls Tryz.prog 5 #[.agg cs, .int .i64 m] W fun e w' => e = .returned (.bool true) ∧ Below W.heap.size W w' := by
  have hcs : cs.size = 13 := by obtain ⟨_, e, hn⟩ := rel_aggv ha; cases e; exact hn
  have hbig := wfdKern x ha.wf
  refine calls_of_wp Tryz.func5 (rfl : Tryz.f5.body = some _) ?_
  have s : SV 101 [(0, Value.agg cs), (1, Value.int .i64 m)] { tmps := #[Value.agg cs, Value.int .i64 m] ++ Array.replicate (Tryz.f5.ntmps - #[Value.agg cs, Value.int .i64 m].size) Go.undef, defers := [] } :=
    sv_start2 (v := Value.agg cs) (u := Value.int .i64 m) (k := 101) (by decide)
  generalize ({ tmps := #[Value.agg cs, Value.int .i64 m] ++ Array.replicate (Tryz.f5.ntmps - #[Value.agg cs, Value.int .i64 m].size) Go.undef, defers := [] } : Act) = a at s
  -- R0: the box
  refine wp_seq (sv_region ?_)
  refine sv_box s rfl rfl rfl rfl rfl rfl fun a s => ?_
  refine sv_assign s rfl rfl rfl rfl rfl rfl fun a s => sv_nil s fun a s => ?_
  have st1 := Stg.first W cs
  have e1 : W.alloc (.cells (Value.agg cs).cells 39) = W.alloc (.cells cs 39) := rfl
  rw [e1]
  generalize W.alloc (.cells cs 39) = w1 at st1
  refine wp_seq (sv_region ?_)
  refine sv_assign s rfl rfl rfl rfl rfl rfl fun a s => sv_nil s fun a s => ?_
  -- R2: szKern
  refine wp_seq (sv_region ?_)
  refine sv_load ty39 rfl s rfl rfl rfl rfl rfl rfl st1.box hcs fun a s => ?_
  refine sv_move s rfl rfl rfl rfl rfl rfl fun a s => ?_
  refine sv_call s rfl rfl rfl rfl rfl rfl ⟨_, Tryz.func6, by kernel_rfl, rfl⟩ rfl (k6 ha st1.below) ?_
  rintro e w2 ⟨rfl, b2⟩
  refine ⟨_, rfl, fun a s => ?_⟩
  have st2 := st1.next b2
  refine sv_assign s rfl rfl rfl rfl rfl rfl fun a s => sv_nil s fun a s => ?_
  -- R3: too great
  refine wp_seq (wp_seq (sv_region ?_))
  refine sv_move s rfl rfl rfl rfl rfl rfl fun a s => ?_
  refine sv_ar s rfl rfl rfl rfl rfl rfl rfl rfl fun a s => ?_
  refine sv_nil s fun a s => ?_
  refine sv_then (wp_cond_split (t := decide (szKern x 1048576 < 0)) (s.ev rfl) (fun ht => ?_) (fun ht => wp_skip ?_))
  · refine wp_seq (sv_region ?_)
    refine sv_assign s rfl rfl rfl rfl rfl rfl fun a s => sv_nil s fun a s => ?_
    exact wp_ret ⟨s.defers, _, sv_res rfl s rfl, rfl, st2.below⟩
  have hz : 0 ≤ szKern x 1048576 := by have := of_decide_eq_false ht; omega
  have hs := (szlKern x 1048576 (by omega) (by omega) hbig hz).2
  clear ht hbig
  -- R5: the reference's answer
  refine wp_seq (sv_region ?_)
  refine sv_load ty39 rfl s rfl rfl rfl rfl rfl rfl st2.box hcs fun a s => ?_
  refine sv_call s rfl rfl rfl rfl rfl rfl ⟨_, Tryz.func8, by kernel_rfl, rfl⟩ rfl (k8 hs ha st2.below) ?_
  rintro e w3 ⟨ts, rfl, hts, ht3, b3⟩
  refine ⟨_, rfl, fun a s => ?_⟩
  have st3 := st2.next b3
  refine sv_move s rfl rfl rfl rfl rfl rfl fun a s => ?_
  refine sv_call s rfl rfl rfl rfl rfl rfl ⟨_, Tryz.func17, by kernel_rfl, rfl⟩ rfl (kA5 (m := m) (enc_of (F' := There w3) ht3 fun b h => ⟨rfl, mde_lt st3.below.size b h⟩) fun b h => h.2) ?_
  rintro e w4 ⟨v0, rfl, h0, b4⟩
  refine ⟨_, rfl, fun a s => ?_⟩
  have st4 := st3.next b4
  clear ht3
  refine sv_move s rfl rfl rfl rfl rfl rfl fun a s => ?_
  refine sv_extract s rfl rfl rfl rfl rfl rfl rfl fun a s => ?_
  refine sv_extract s rfl rfl rfl rfl rfl rfl rfl fun a s => ?_
  refine sv_assign s rfl rfl rfl rfl rfl rfl fun a s => ?_
  refine sv_assign s rfl rfl rfl rfl rfl rfl fun a s => sv_nil s fun a s => ?_
  -- R6: what is handed to the program
  refine wp_seq (sv_region ?_)
  refine sv_load ty39 rfl s rfl rfl rfl rfl rfl rfl st4.box hcs fun a s => ?_
  refine sv_call s rfl rfl rfl rfl rfl rfl ⟨_, Tryz.func8, by kernel_rfl, rfl⟩ rfl (k8 hs ha st4.below) ?_
  rintro e w5 ⟨xs, rfl, hxs, hx5, b5⟩
  refine ⟨_, rfl, fun a s => ?_⟩
  have st5 := st4.next b5
  have h0 := up_next h0 (Nat.le_refl _) b5
  refine sv_alloc ty57 rfl s rfl rfl rfl rfl rfl fun arr a harr s => ?_
  have b6 : Below w5.heap.size w5 (w5.alloc (.cells arr 57)) := (Below.refl _ _).alloc (Nat.le_refl _) _
  have q6 : (w5.alloc (.cells arr 57)).heap[w5.heap.size]? = some (.cells arr 57 (0, 0)) := by show (w5.heap.push _)[w5.heap.size]? = _; simp
  have z6 : (w5.alloc (.cells arr 57)).heap.size = w5.heap.size + 1 := by show (w5.heap.push _).size = _; simp
  generalize w5.alloc (.cells arr 57) = w6 at b6 q6 z6
  refine sv_store (v := .agg xs) (T := 57) (arr := arr) ty57 s rfl rfl rfl rfl rfl rfl q6 hxs (Nat.le_of_eq (by rw [harr]; rfl)) (kern_cells hx5) fun arr2 a q7 z7 hat s => sv_nil s fun a s => ?_
  have hat : ∀ j, arr2[j]? = if 0 ≤ j ∧ j < 0 + 13 then xs[j - 0]? else arr[j]? := hat
  have harr : arr.size = 13 := harr
  have e7 : arr2 = xs := arr_of (z7.trans harr) hxs fun j => by
    rw [hat j]
    by_cases hj : 0 ≤ j ∧ j < 0 + 13
    · rw [if_pos hj, if_pos hj]
    · rw [if_neg hj, if_neg hj]
      simp only [Array.getElem?_eq_none_iff]
      omega
  rw [e7] at q7 ⊢
  clear hat z7 e7
  have st6 := st5.next b6
  have st7 := st6.row (b := w5.heap.size) (arr := xs) st5.lt
  have h0 := up_next h0 b5.size b6
  have n7 : ∀ b, b ≠ w5.heap.size → (w6.setRow w5.heap.size xs).heap[b]? = w6.heap[b]? := fun b hb => setRow_ne hb
  have z7 : (w6.setRow w5.heap.size xs).heap.size = w5.heap.size + 1 := by rw [setRow_size]; exact z6
  generalize w6.setRow w5.heap.size xs = w7 at q7 st7 n7 z7
  have l45 := b5.size
  have h0 : RelF (Upto w4.heap.size) w7 v0 _ := fr h0 (fun _ h => h) fun b h => n7 b (by omega)
  have hx7 : RelF (Mde W w4 w5) w7 (.agg xs) (.agg x.encF) := fr hx5 (mde_lt st5.below.size) fun b h => (n7 b (by omega)).trans (b6.block b h)
  clear hx5
  -- R7: the program's answer
  refine wp_seq (sv_region ?_)
  refine sv_load ty57 rfl s rfl rfl rfl rfl rfl rfl q7 hxs fun a s => ?_
  refine sv_move s rfl rfl rfl rfl rfl rfl fun a s => ?_
  refine sv_call s rfl rfl rfl rfl rfl rfl ⟨_, Tryz.func18, by kernel_rfl, rfl⟩ rfl (kB5 (m := m) (enc_of (F' := There w7) hx7 fun b h => ⟨rfl, by have := mde_lt st5.below.size b h; omega⟩)) ?_
  rintro e w8 ⟨v1, rfl, h1, b8⟩
  refine ⟨_, rfl, fun a s => ?_⟩
  have st8 := st7.next b8
  have h0 := up_next h0 (by omega) b8
  have hx8 : RelF (Mde W w4 w5) w8 (.agg xs) (.agg x.encF) := fr hx7 (mde_lt st5.below.size) fun b h => b8.block b (by omega)
  have q8 : w8.heap[w5.heap.size]? = some (.cells xs 57 (0, 0)) := (b8.block _ (by omega)).trans q7
  clear hx7
  refine sv_move s rfl rfl rfl rfl rfl rfl fun a s => ?_
  refine sv_extract s rfl rfl rfl rfl rfl rfl rfl fun a s => ?_
  refine sv_extract s rfl rfl rfl rfl rfl rfl rfl fun a s => ?_
  refine sv_assign s rfl rfl rfl rfl rfl rfl fun a s => ?_
  refine sv_assign s rfl rfl rfl rfl rfl rfl fun a s => sv_nil s fun a s => ?_
  have l78 := b8.size
  have hl := ans5_len x m
  -- R8: the same
  refine wp_seq (wp_seq (sv_region ?_))
  refine sv_move s rfl rfl rfl rfl rfl rfl fun a s => ?_
  refine sv_move s rfl rfl rfl rfl rfl rfl fun a s => ?_
  refine sv_call s rfl rfl rfl rfl rfl rfl ⟨_, Tryz.func13, by kernel_rfl, rfl⟩ rfl (k13 (F := Upto w8.heap.size) (sl_of h1 fun b h => h.2) (h0.frame (fun _ b h => Nat.lt_of_lt_of_le h (by omega)) fun _ _ => rfl) fun b h => h) ?_
  rintro e w9 ⟨rfl, b9⟩
  refine ⟨_, rfl, fun a s => ?_⟩
  have st9 := st8.next b9
  have h0 := up_next h0 (by omega) b9
  have h1 := bt_next h1 (Nat.le_refl _) b9
  have hx9 : RelF (Mde W w4 w5) w9 (.agg xs) (.agg x.encF) := fr hx8 (mde_lt st5.below.size) fun b h => b9.block b (by omega)
  have q9 : w9.heap[w5.heap.size]? = some (.cells xs 57 (0, 0)) := (b9.block _ (by omega)).trans q8
  clear hx8 q8
  have l89 := b9.size
  refine sv_not s rfl rfl rfl rfl rfl rfl fun a s => ?_
  refine sv_move s rfl rfl rfl rfl rfl rfl fun a s => ?_
  refine sv_move s rfl rfl rfl rfl rfl rfl fun a s => ?_
  refine sv_move s rfl rfl rfl rfl rfl rfl fun a s => ?_
  refine sv_bsame ty4 rfl s rfl rfl rfl rfl rfl rfl rfl fun a s => ?_
  refine sv_pick s rfl rfl rfl rfl rfl rfl rfl rfl fun a s => sv_nil s fun a s => ?_
  refine sv_then (wp_cond_split (t := false) (s.ev rfl) (fun ht => by cases ht) (fun _ => wp_skip ?_))
  -- R10: what was handed over is as it was
  refine wp_seq (wp_seq ?_)
  refine draw10 (Es := [(1, .int .i64 m), (2, .pointer (some ⟨W.heap.size, 0, none⟩)), (6, v0), (7, .bool (isK x m)), (8, .pointer (some ⟨w5.heap.size, 0, none⟩)), (9, v1), (10, .bool (isK x m))]) s rfl hs ha hcs st9
    (enc_of (F' := There w9) hx9 fun b h => ⟨rfl, by have := mde_lt st5.below.size b h; omega⟩) hxs q9 rfl rfl rfl rfl rfl rfl rfl rfl rfl rfl rfl rfl rfl rfl rfl rfl rfl rfl rfl rfl rfl rfl rfl rfl (by kernel_rfl) rfl (by kernel_rfl) (by kernel_rfl) (by kernel_rfl) (by kernel_rfl) (by kernel_rfl) (by kernel_rfl) (by kernel_rfl) rfl rfl
    (fun y hy => by simp only [List.mem_cons, List.not_mem_nil, or_false] at hy; rcases hy with rfl | rfl | rfl | rfl | rfl | rfl | rfl <;> exact ⟨rfl, .inl (Nat.le_of_ble_eq_true rfl)⟩) fun a w11 s b11 => ?_
  have st11 := st9.next b11
  have h0 := up_next h0 (by omega) b11
  have h1 := bt_next h1 (by omega) b11
  have hx11 : RelF (Mde W w4 w5) w11 (.agg xs) (.agg x.encF) := fr hx9 (mde_lt st5.below.size) fun b h => b11.block b (by omega)
  have q11 : w11.heap[w5.heap.size]? = some (.cells xs 57 (0, 0)) := (b11.block _ (by omega)).trans q9
  clear hx9 q9
  have l911 := b11.size
  refine sv_then (wp_cond_split (t := false) (s.ev rfl) (fun ht => by cases ht) (fun _ => wp_skip ?_))
  refine wp_seq (sv_region ?_)
  refine sv_assign s rfl rfl rfl rfl rfl rfl fun a s => sv_nil s fun a s => ?_
  -- R13: what was handed over is marked
  refine wp_seq (sv_region ?_)
  refine sv_load ty57 rfl s rfl rfl rfl rfl rfl rfl q11 hxs fun a s => ?_
  refine sv_move s rfl rfl rfl rfl rfl rfl fun a s => ?_
  refine sv_call s rfl rfl rfl rfl rfl rfl ⟨_, Tryz.func14, by kernel_rfl, rfl⟩ rfl (k14 hs hx11 mde_nw (by omega)) ?_
  rintro e w12 ⟨k, hk, rfl, f12⟩
  refine ⟨_, rfl, fun a s => ?_⟩
  have l4 := st4.lt
  have st12 := st11.fx f12 l4
  have h0 := up_fx h0 (by omega) f12 (Nat.le_refl _)
  have h1 := bt_fx h1 (by omega) f12 (by omega)
  clear hx11 q11
  have l1112 := f12.size
  refine sv_assign s rfl rfl rfl rfl rfl rfl fun a s => sv_nil s fun a s => ?_
  -- R14: the answer is as it was
  refine wp_seq (wp_seq (sv_region ?_))
  refine sv_move s rfl rfl rfl rfl rfl rfl fun a s => ?_
  refine sv_ar (v := .bool (decide (k < 0))) s rfl rfl rfl rfl rfl rfl rfl rfl fun a s => ?_
  rw [decide_eq_false (show ¬ k < 0 by omega)] at s
  refine sv_move s rfl rfl rfl rfl rfl rfl fun a s => ?_
  refine sv_move s rfl rfl rfl rfl rfl rfl fun a s => ?_
  refine sv_move s rfl rfl rfl rfl rfl rfl fun a s => ?_
  refine sv_call s rfl rfl rfl rfl rfl rfl ⟨_, Tryz.func13, by kernel_rfl, rfl⟩ rfl (k13 (F := Upto w12.heap.size) (sl_of h1 fun b h => Nat.lt_of_lt_of_le h.2 (by omega)) (h0.frame (fun _ b h => Nat.lt_of_lt_of_le h (by omega)) fun _ _ => rfl) fun b h => h) ?_
  rintro e w13 ⟨rfl, b13⟩
  refine ⟨_, rfl, fun a s => ?_⟩
  have st13 := st12.next b13
  have h0 := up_next h0 (by omega) b13
  have h1 := bt_next h1 (by omega) b13
  have l1213 := b13.size
  refine sv_not s rfl rfl rfl rfl rfl rfl fun a s => ?_
  refine sv_pick s rfl rfl rfl rfl rfl rfl rfl rfl fun a s => ?_
  refine sv_move s rfl rfl rfl rfl rfl rfl fun a s => ?_
  refine sv_move s rfl rfl rfl rfl rfl rfl fun a s => ?_
  refine sv_move s rfl rfl rfl rfl rfl rfl fun a s => ?_
  refine sv_bsame ty4 rfl s rfl rfl rfl rfl rfl rfl rfl fun a s => ?_
  refine sv_pick s rfl rfl rfl rfl rfl rfl rfl rfl fun a s => sv_nil s fun a s => ?_
  refine sv_then (wp_cond_split (t := false) (s.ev rfl) (fun ht => by cases ht) (fun _ => wp_skip ?_))
  refine wp_seq (sv_region ?_)
  refine sv_assign s rfl rfl rfl rfl rfl rfl fun a s => sv_nil s fun a s => ?_
  -- R17: the answer is marked
  refine wp_seq (sv_region ?_)
  refine sv_move s rfl rfl rfl rfl rfl rfl fun a s => ?_
  refine sv_move s rfl rfl rfl rfl rfl rfl fun a s => ?_
  refine sv_call s rfl rfl rfl rfl rfl rfl ⟨_, Tryz.func15, by kernel_rfl, rfl⟩ rfl (k15 (lo := w7.heap.size) (hi := w8.heap.size) h1 hl fun b h _ => h) ?_
  rintro e w14 ⟨rfl, g14, f14⟩
  refine ⟨_, rfl, fun a s => ?_⟩
  have st14 := st13.fx f14 (by omega)
  have h0 := up_fx h0 (by omega) f14 (by omega)
  have l1314 := f14.size
  clear h1
  refine sv_assign s rfl rfl rfl rfl rfl rfl fun a s => sv_nil s fun a s => ?_
  refine wp_seq (sv_region ?_)
  refine sv_assign s rfl rfl rfl rfl rfl rfl fun a s => sv_nil s fun a s => ?_
  -- R19: it is held
  refine wp_seq (sv_region ?_)
  refine sv_move s rfl rfl rfl rfl rfl rfl fun a s => ?_
  refine sv_move s rfl rfl rfl rfl rfl rfl fun a s => ?_
  refine sv_call s rfl rfl rfl rfl rfl rfl ⟨_, Tryz.func16, by kernel_rfl, rfl⟩ rfl (k16 g14 hl fun b h => Nat.lt_of_lt_of_le h.2 (by omega)) ?_
  rintro e w15 ⟨rfl, b15⟩
  refine ⟨_, rfl, fun a s => ?_⟩
  have st15 := st14.next b15
  have h0 := up_next h0 (by omega) b15
  have g15 := bt_next g14 (by omega) b15
  have l1415 := b15.size
  have pos : decide ((((ans5 x m).length : Nat) : Int) + 1 < 0) = false := decide_eq_false (by omega)
  have same : ((((ans5 x m).length : Nat) : Int) + 1 != (((ans5 x m).length : Nat) : Int) + 1) = false := by simp
  refine sv_assign s rfl rfl rfl rfl rfl rfl fun a s => sv_nil s fun a s => ?_
  refine wp_seq (wp_seq (sv_region ?_))
  refine sv_move s rfl rfl rfl rfl rfl rfl fun a s => ?_
  refine sv_ar (v := .bool (decide ((((ans5 x m).length : Nat) : Int) + 1 < 0))) s rfl rfl rfl rfl rfl rfl rfl rfl fun a s => sv_nil s fun a s => ?_
  rw [pos] at s
  refine sv_then (wp_cond_split (t := false) (s.ev rfl) (fun ht => by cases ht) (fun _ => wp_skip ?_))
  refine wp_seq (wp_seq (sv_region ?_))
  refine sv_move s rfl rfl rfl rfl rfl rfl fun a s => ?_
  refine sv_move s rfl rfl rfl rfl rfl rfl fun a s => ?_
  refine sv_ar (v := .bool ((((ans5 x m).length : Nat) : Int) + 1 != (((ans5 x m).length : Nat) : Int) + 1)) s rfl rfl rfl rfl rfl rfl rfl rfl fun a s => sv_nil s fun a s => ?_
  rw [same] at s
  refine sv_then (wp_cond_split (t := false) (s.ev rfl) (fun ht => by cases ht) (fun _ => wp_skip ?_))
  -- R24: once more
  refine wp_seq (sv_region ?_)
  refine sv_load ty39 rfl s rfl rfl rfl rfl rfl rfl st15.box hcs fun a s => ?_
  refine sv_call s rfl rfl rfl rfl rfl rfl ⟨_, Tryz.func8, by kernel_rfl, rfl⟩ rfl (k8 hs ha st15.below) ?_
  rintro e w16 ⟨us, rfl, hus, hu16, b16⟩
  refine ⟨_, rfl, fun a s => ?_⟩
  have st16 := st15.next b16
  have h0 := up_next h0 (by omega) b16
  have g16 := bt_next g15 (by omega) b16
  have l1516 := b16.size
  refine sv_move s rfl rfl rfl rfl rfl rfl fun a s => ?_
  refine sv_call s rfl rfl rfl rfl rfl rfl ⟨_, Tryz.func18, by kernel_rfl, rfl⟩ rfl (kB5 (m := m) (enc_of (F' := There w16) hu16 fun b h => ⟨rfl, mde_lt st16.below.size b h⟩)) ?_
  rintro e w17 ⟨v2, rfl, h2, b17⟩
  refine ⟨_, rfl, fun a s => ?_⟩
  have st17 := st16.next b17
  have h0 := up_next h0 (by omega) b17
  have g17 := bt_next g16 (by omega) b17
  have l1617 := b17.size
  refine sv_move s rfl rfl rfl rfl rfl rfl fun a s => ?_
  refine sv_extract s rfl rfl rfl rfl rfl rfl rfl fun a s => ?_
  refine sv_extract s rfl rfl rfl rfl rfl rfl rfl fun a s => ?_
  refine sv_assign s rfl rfl rfl rfl rfl rfl fun a s => ?_
  refine sv_assign s rfl rfl rfl rfl rfl rfl fun a s => sv_nil s fun a s => ?_
  -- R25
  refine wp_seq (wp_seq (sv_region ?_))
  refine sv_move s rfl rfl rfl rfl rfl rfl fun a s => ?_
  refine sv_move s rfl rfl rfl rfl rfl rfl fun a s => ?_
  refine sv_call s rfl rfl rfl rfl rfl rfl ⟨_, Tryz.func13, by kernel_rfl, rfl⟩ rfl (k13 (F := Upto w17.heap.size) (sl_of h2 fun b h => h.2) (h0.frame (fun _ b h => Nat.lt_of_lt_of_le h (by omega)) fun _ _ => rfl) fun b h => h) ?_
  rintro e w18 ⟨rfl, b18⟩
  refine ⟨_, rfl, fun a s => ?_⟩
  have st18 := st17.next b18
  have g18 := bt_next g17 (by omega) b18
  have l1718 := b18.size
  refine sv_not s rfl rfl rfl rfl rfl rfl fun a s => ?_
  refine sv_move s rfl rfl rfl rfl rfl rfl fun a s => ?_
  refine sv_move s rfl rfl rfl rfl rfl rfl fun a s => ?_
  refine sv_move s rfl rfl rfl rfl rfl rfl fun a s => ?_
  refine sv_bsame ty4 rfl s rfl rfl rfl rfl rfl rfl rfl fun a s => ?_
  refine sv_pick s rfl rfl rfl rfl rfl rfl rfl rfl fun a s => sv_nil s fun a s => ?_
  refine sv_then (wp_cond_split (t := false) (s.ev rfl) (fun ht => by cases ht) (fun _ => wp_skip ?_))
  refine wp_seq (sv_region ?_)
  refine sv_assign s rfl rfl rfl rfl rfl rfl fun a s => sv_nil s fun a s => ?_
  -- R28: it is held yet
  refine wp_seq (sv_region ?_)
  refine sv_move s rfl rfl rfl rfl rfl rfl fun a s => ?_
  refine sv_move s rfl rfl rfl rfl rfl rfl fun a s => ?_
  refine sv_call s rfl rfl rfl rfl rfl rfl ⟨_, Tryz.func16, by kernel_rfl, rfl⟩ rfl (k16 g18 hl fun b h => Nat.lt_of_lt_of_le h.2 (by omega)) ?_
  rintro e w19 ⟨rfl, b19⟩
  refine ⟨_, rfl, fun a s => ?_⟩
  have st19 := st18.next b19
  refine sv_assign s rfl rfl rfl rfl rfl rfl fun a s => sv_nil s fun a s => ?_
  refine wp_seq (wp_seq (sv_region ?_))
  refine sv_move s rfl rfl rfl rfl rfl rfl fun a s => ?_
  refine sv_ar (v := .bool (decide ((((ans5 x m).length : Nat) : Int) + 1 < 0))) s rfl rfl rfl rfl rfl rfl rfl rfl fun a s => sv_nil s fun a s => ?_
  rw [pos] at s
  refine sv_then (wp_cond_split (t := false) (s.ev rfl) (fun ht => by cases ht) (fun _ => wp_skip ?_))
  refine wp_seq (wp_seq (sv_region ?_))
  refine sv_move s rfl rfl rfl rfl rfl rfl fun a s => ?_
  refine sv_move s rfl rfl rfl rfl rfl rfl fun a s => ?_
  refine sv_ar (v := .bool ((((ans5 x m).length : Nat) : Int) + 1 != (((ans5 x m).length : Nat) : Int) + 1)) s rfl rfl rfl rfl rfl rfl rfl rfl fun a s => sv_nil s fun a s => ?_
  rw [same] at s
  refine sv_then (wp_cond_split (t := false) (s.ev rfl) (fun ht => by cases ht) (fun _ => wp_skip ?_))
  refine wp_seq (sv_region ?_)
  refine sv_assign s rfl rfl rfl rfl rfl rfl fun a s => sv_nil s fun a s => ?_
  exact wp_ret ⟨s.defers, _, sv_res rfl s rfl, rfl, st19.below⟩
end Go.Proofs.YtemoiphdjocaiaaGreat
