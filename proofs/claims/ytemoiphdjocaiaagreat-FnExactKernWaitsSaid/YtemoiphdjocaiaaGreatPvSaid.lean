/-
  The law FnExactKernWaits holds for every input. Conditions: none.
-/
import Derived.Test.YtemoiphdjocaiaaGreatRows
import Derived.WalkKit
import Derived.ProofKit
import Derived.OpenShut
import Derived.JoinedCond
import Derived.Below
import Derived.Carry
import Derived.SizedLaws
import Derived.Test.YtemoiphdjocaiaaGreatPvDraw
import Derived.Test.YtemoiphdjocaiaaGreatPvLaw
set_option linter.all false
set_option linter.unusedSimpArgs false
set_option linter.unusedVariables false
namespace Go.Proofs.YtemoiphdjocaiaaGreat.fnExactKernWaits
open Go.ChangeShapes Go.WideShapes Go.ChangeAt Go.RowKit Go.Pv
set_option linter.unusedVariables false
set_option maxRecDepth 100000

theorem own : ownKnob Tryz.prog.godebug = none := by kernel_rfl
theorem laidOut : laidOutB Tryz.prog = true := by kernel_rfl

/-- Each text and each row within reach. -/
def Reach (H : Type) (t : TypeId) (d : DataW H) : Prop := (DataW.weights Tryz.prog t d).all (· ≤ reachBytes) = true
theorem all_w {H : Type} {e : TypeId} : ∀ {l : List (DataW H)}, (DataW.weightsAll Tryz.prog e l).all (· ≤ reachBytes) = true → ∀ d, d ∈ l → Reach H e d
  | [], _, d, hd => absurd hd (by simp)
  | x :: r, h, d, hd => by
    rw [DataW.weightsAll, List.all_append, Bool.and_eq_true] at h
    rcases List.mem_cons.1 hd with e | e
    · subst e; exact h.1
    · exact all_w h.2 d e
theorem each_w {H : Type} : ∀ {ts : List TypeId} {l : List (DataW H)}, (DataW.weightsEach Tryz.prog ts l).all (· ≤ reachBytes) = true → ∀ (i : Nat) t d, ts[i]? = some t → l[i]? = some d → Reach H t d
  | [], _, _, i, t, d, ht, _ => by simp at ht
  | _ :: _, [], _, i, t, d, _, hd => by simp at hd
  | t0 :: ts, x :: r, h, i, t, d, ht, hd => by
    rw [DataW.weightsEach, List.all_append, Bool.and_eq_true] at h
    cases i with
    | zero =>
      simp only [List.getElem?_cons_zero, Option.some.injEq] at ht hd
      subst ht hd; exact h.1
    | succ i => exact each_w h.2 i t d (by simpa using ht) (by simpa using hd)
theorem reach_szd (H : Type) : Szd Tryz.prog (Reach H) := by
  refine ⟨fun t bs h => ?_, fun t e el spr ht hb h => ?_, fun t fs ps ht h i f d hi hd => ?_⟩
  · have h : (DataW.weights Tryz.prog t (DataW.lit (H := H) (.string bs))).all (· ≤ reachBytes) = true := h
    simp only [DataW.weights, List.all_cons, List.all_nil, Bool.and_true] at h
    have h : bs.length ≤ 140737488351232 := of_decide_eq_true h
    show bs.length ≤ 140737488355328
    omega
  · have h : (DataW.weights Tryz.prog t (DataW.slice el spr)).all (· ≤ reachBytes) = true := h
    simp only [DataW.weights, ht, List.all_cons, List.all_append, Bool.and_eq_true] at h
    refine ⟨?_, fun d hd => all_w h.2.1 d hd⟩
    have h1 : el.length + spr.length ≤ (el.length + spr.length) * Tryz.prog.bytesOf e := Nat.le_mul_of_pos_right _ hb
    show el.length ≤ 140737488355328
    have h3 : (el.length + spr.length) * Tryz.prog.bytesOf e ≤ 140737488351232 := of_decide_eq_true h.1
    omega
  · have h : (DataW.weights Tryz.prog t (DataW.agg ps)).all (· ≤ reachBytes) = true := h
    simp only [DataW.weights, ht] at h
    exact each_w h i f.type d (by rw [List.getElem?_map]; simp [hi]) hd
theorem rel_agg {w : World} {cs : Array Value} {qs : List PV} (h : RL w cs.toList qs) : RelF (There w) w (.agg cs) (.agg qs) := by
  refine .agg cs qs (by have := h.1; simpa using this) fun i hi => ?_
  have := h.2 i hi
  simpa [Array.getD_eq_getD_getElem?, List.getD] using this
theorem rel_true {F : Fr} {w : World} {v : Value} (h : RelF F w v (.bool true)) : v = .bool true := by cases h; rfl

/-- What the walk gives, for every argument that lies within S. -/
theorem contract (H : Type) (enc : TypeId × Value → H) (S : TypeId → DataW H → Prop) (z : Szd Tryz.prog S) (W : World) (base : Nat) (args : Array Value) (ds gs : List (DataW H)) (before : List MemPlace)
    (hval : ∀ (j : Nat) t v, Tryz.f5.params[j]? = some t → args[j]? = some v → Value.okWide Tryz.prog W .any base t v)
    (hW : DataW.Whole enc Tryz.prog Tryz.f5.params.toList Rows.fnExactKernWaitsSpec.vars false W args.toList ds gs before) (hS : ∀ d, ds[0]? = some d → S 39 d) :
    Calls Tryz.prog 5 args W fun e W' => ∃ v, e = .returned v ∧ Rows.fnExactKernWaitsSpec.post enc Tryz.prog Tryz.f5 false true false false W args v W' := by
  have hW' := hW
  obtain ⟨p, q, hA0, hV, rfl, hfz, hnd⟩ := hW
  have hA : DataW.TrodAll enc Tryz.prog W 0 (fun _ => true) true Tryz.f5.params.toList args.toList ds p := hA0
  rw [Tryz.params5] at hA hval
  obtain ⟨v0, vs0, d0, ds0, p0, q0, hargs, rfl, rfl, h0, r0⟩ := trodAll_cons hA
  obtain ⟨v1, vs1, d1, ds1, p1, q1, rfl, rfl, rfl, h1, r1⟩ := trodAll_cons r0
  obtain ⟨rfl, rfl, rfl⟩ := trodAll_nil r1
  obtain rfl : args = #[v0, v1] := by cases args; simp_all
  obtain ⟨rfl, rfl⟩ := trodVars_none hV
  obtain ⟨a1, rfl, rfl, rfl, w1⟩ := open_int Tryz.underlying3 (hval 1 3 v1 rfl rfl) h1
  have k0 := h0
  have lt0 : ∀ x ∈ p0, x.block < W.heap.size := by obtain ⟨m, hm⟩ := k0; exact DataW.trod_lt m _ _ _ hm
  have ho := hval 0 39 v0 rfl rfl
  unfold Value.okWide at ho
  rw [Tryz.underlying39] at ho
  obtain ⟨cs, rfl, hcs, _⟩ := ho
  obtain ⟨fuel, hf⟩ := h0
  obtain ⟨x, hx⟩ := open39 z fuel _ _ _ hf (hS d0 rfl)
  have hrel : RelF (There W) W (.agg cs) (.agg x.enc) := rel_agg hx
  clear hA0 hf
  refine (law5 (m := a1) hrel).mono fun e W' hh => ?_
  obtain ⟨he, bel⟩ := hh
  subst he
  exact ⟨_, rfl, _, _, _, [], _, [], hW', trodAll_mk1 (shut_bool Tryz.underlying4 _), (trodAll_cons_mk (Below.trod laidOut (by kernel_rfl) (of_decide_eq_true (by kernel_rfl)) k0 bel lt0) (trodAll_cons_mk (shut_int Tryz.underlying3 w1) trodAll_mk0)), rfl, bel.frame _, fun h => by cases h⟩
def zeroK : Value := .agg #[.slice none 0 0, .slice none 0 0, .slice none 0 0, .slice none 0 0, .slice none 0 0, .int .i64 0, .slice none 0 0, .int .i64 0, .slice none 0 0, .slice none 0 0, .slice none 0 0, .slice none 0 0, .int .i64 0]
def zeroD {H : Type} : DataW H := .agg [.agg [.agg [.nil, .nil], .agg [.nil, .nil], .nil, .lit (.int .i64 0)], .agg [.nil, .lit (.int .i64 0)], .nil, .nil, .nil, .agg [.nil, .lit (.int .i64 0)]]
theorem lifted (os : Os) (started : os.Started) (H : Type) (enc : TypeId × Value → H) :
    ReturnsInHanded {} Tryz.checked os 5 .any (Rows.fnExactKernWaitsSpec.pre6 enc Tryz.prog Tryz.f5 Rows.fnExactKernWaitsRow.domain false) (Rows.fnExactKernWaitsSpec.post enc Tryz.prog Tryz.f5 false true false false) := by
  refine returnsInHanded_of_change_sized (C := Tryz.checked) own started (by kernel_rfl) Tryz.func5
    (ChangeSpec.witness6 (enc := enc) (C := Tryz.checked) false ⟨#[], #[zeroK, .int .i64 0], []⟩ 8 (by kernel_rfl) (by kernel_rfl) (by kernel_rfl) (by kernel_rfl)) ?_
  intro W base args ds gs before hval hW _ hsz _
  refine contract H enc (Reach H) (reach_szd H) W base args ds gs before hval hW fun d hd => ?_
  refine each_w hsz 0 39 d rfl ?_
  rw [List.getElem?_append_left (List.getElem?_eq_some_iff.1 hd).1]; exact hd
theorem over : Rows.fnExactKernWaitsRow.holds Tryz.pinned (OpenSpec.ofChange Rows.fnExactKernWaitsSpec) :=
  OpenClaim.holds_of_wide 5 Tryz.f5 rfl rfl rfl rfl rfl rfl rfl ⟨rfl, rfl, rfl, rfl, rfl⟩ rfl rfl rfl rfl rfl (by kernel_rfl) Tryz.func5 (by kernel_rfl)
    (of_decide_eq_true (by kernel_rfl)) (by unfold Func.isWrapper; first | (rw [if_pos (by decide +kernel)]; kernel_rfl) | (rw [if_neg (by decide +kernel)]; exact ⟨rfl, rfl⟩))
    (fun os started H enc _ => lifted os started H enc)
end Go.Proofs.YtemoiphdjocaiaaGreat.fnExactKernWaits
namespace Go.Proofs.YtemoiphdjocaiaaGreat
/-- The row, whatever the input. -/
theorem fnExactKernWaits_holds : Rows.FnExactKernWaitsSaid := fnExactKernWaits.over
end Go.Proofs.YtemoiphdjocaiaaGreat
