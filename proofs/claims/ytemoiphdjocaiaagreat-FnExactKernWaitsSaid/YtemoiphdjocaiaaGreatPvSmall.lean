/-
  What the functions on areas, pages, slots and names answer. Conditions: none.
-/
import Derived.Test.YtemoiphdjocaiaaGreatPvTy
import Derived.Test.YtemoiphdjocaiaaGreatPvSimp
set_option linter.all false
set_option linter.unusedSimpArgs false
set_option linter.unusedVariables false
namespace Go.Proofs.YtemoiphdjocaiaaGreat
open Go.Pv
set_option linter.unusedSimpArgs false
set_option maxRecDepth 100000
set_option maxHeartbeats 4000000

theorem pre_bad {c x : Bool} (h : c = true) : Le (PV.bool false) (PV.bool (!c && x)) := by subst h; exact Le.refl _
theorem allp_bad {P : Nat → Bool} {n i : Nat} {c : Bool} (h1 : i < n) (h : P i = false) : Le (PV.bool false) (PV.bool (!c && (List.range n).all P)) := by
  have : (List.range n).all P = false := by
    rw [← Bool.not_eq_true]
    intro hall
    have := List.all_eq_true.1 hall i (List.mem_range.2 h1)
    rw [h] at this; cases this
  rw [this, Bool.and_false]; exact Le.refl _
theorem allp_end {P : Nat → Bool} {n : Nat} {c : Bool} (h0 : c = false) (hP : ∀ j, j < n → P j = true) : Le (PV.bool true) (PV.bool (!c && (List.range n).all P)) := by
  have : (List.range n).all P = true := List.all_eq_true.2 fun j hj => hP j (List.mem_range.1 hj)
  rw [this, h0]; exact Le.refl _
/-- The number behind. -/
def aft (i : Nat) : Int := IntKind.i64.wrap ((i : Int) + 1)
theorem aft_eq {i : Nat} (h : i ≤ 140737488355328) : aft i = ((i + 1 : Nat) : Int) := w_add h
theorem bif_t {c x y : Bool} (h : c = true) : (bif c then x else y) = x := by subst h; rfl
theorem bif_f {c x y : Bool} (h : c = false) : (bif c then x else y) = y := by subst h; rfl

def an178 : List PV → PV
  | [.int _ n] => .bool (decide (n = 1) || decide (n = 2))
  | _ => .undef
def sigAt (p : Sigs) (i : Nat) : Bool := !(!decide (p.does.getD i 0 = 0) && !decide (p.does.getD i 0 = 1) && !decide (p.does.getD i 0 = 4) ||
  (decide (aft i = 1) || decide (aft i = 2)) && (p.block.getD i false || !decide (p.does.getD i 0 = 0)))
def sigsOk (p : Sigs) : Bool := !(!decide ((p.here.length : Int) = 8) || !decide ((p.block.length : Int) = 8) || !decide ((p.does.length : Int) = 8)) && (List.range p.does.length).all (sigAt p)
def pageAt (p : Pages) (i : Nat) : Bool := bif decide (p.refs.getD i 0 = 0) then !(!inB (p.refs.getD i 0) 0 99 || !decide (((p.text.getD i ⟨#[]⟩).size : Int) = 0)) else !(!inB (p.refs.getD i 0) 0 99 || !decide (((p.text.getD i ⟨#[]⟩).size : Int) = 4))
def pagesOk (p : Pages) : Bool := !(!decide ((p.text.length : Int) = p.refs.length) || !inB p.text.length 1 12) && (List.range p.refs.length).all (pageAt p)

theorem pc178 (n : Int) : PC Tryz.prog 178 [.int .i64 n] (.bool (decide (n = 1) || decide (n = 2))) := by
  refine PC.of_vc mixed (phiOf []) Tryz.func178 (by kernel_rfl) (rfl : Tryz.f178.body = some _) Tryz.ntmps178 (by kernel_rfl) rfl (by kernel_rfl) Tryz.results178 fun hwf => ?_
  simp only [pvB, ↓pvP, simprocAttr]
  exact Le.refl _

theorem pc151 (p : Sigs) : PC Tryz.prog 151 [.agg [.sl 1 (p.here.map encB), .sl 1 (p.block.map encB), .sl 1 (p.does.map encI)]] (.bool (sigsOk p)) := by
  refine PC.of_vc mixed (phiOf [(178, an178)]) Tryz.func151 (by kernel_rfl) (rfl : Tryz.f151.body = some _) Tryz.ntmps151 (by kernel_rfl) rfl (by kernel_rfl) Tryz.results151 fun hwf => ?_
  simp only [pvB, ↓pvP, pvDom, simprocAttr, an178, pc178]
  simp only [pvAll, pvStd, pvDom] at hwf
  refine ⟨fun h0 => ?_, fun h0 => ?_⟩
  · exact pre_bad h0
  have hl : p.here.length = 8 ∧ p.block.length = 8 ∧ p.does.length = 8 := by
    simp only [Bool.or_eq_false_iff, Bool.not_eq_false', decide_eq_true_eq] at h0
    omega
  refine .inl ⟨[1, 3], fun _ => 1, fun k vs H => ∃ i : Nat, i ≤ p.does.length ∧ k = p.does.length - i ∧ vs = [.ptr 0 3 0 0, .int .i64 i] ∧ H = [.rows 79 3 [[.sl 1 (p.here.map encB), .sl 1 (p.block.map encB), .sl 1 (p.does.map encI)]]] ∧ ∀ j, j < i → sigAt p j = true, fun _ => Nat.zero_le _, ?_, ?_⟩
  · simp only [pvB, ↓pvP, pvDom, simprocAttr]
    exact ⟨_, 0, Nat.zero_le _, rfl, rfl, fun j hj => absurd hj (Nat.not_lt_zero j)⟩
  · rintro k vs H - ⟨i, hi, rfl, rfl, rfl, hP⟩
    simp only [pvB, ↓pvP, pvDom, simprocAttr, an178, pc178]
    have hi2 : i ≤ 140737488355328 := by omega
    refine ⟨fun h1 => ?_, fun h1 => ?_⟩
    · have h1 : i < p.does.length := by have : (i : Int) < 8 := by simpa using h1
                                        omega
      exact ⟨in_of i h1, fun _ => in_of i (by omega), fun h => allp_bad h1 (congrArg not h), fun h => ⟨_, by omega, i + 1, by omega, rfl, by rw [w_add hi2], all_next hP (congrArg not h)⟩⟩
    · obtain rfl : i = p.does.length := by
        have : ¬ (i : Int) < 8 := by simpa using h1
        omega
      exact allp_end h0 hP

theorem pc75 (p : Sigs) : PC Tryz.prog 75 [.agg [.sl 1 (p.here.map encB), .sl 1 (p.block.map encB), .sl 1 (p.does.map encI)]] (.bool (sigsOk p)) := by
  refine PC.of_vc mixed (phiOf []) Tryz.func75 (by kernel_rfl) (rfl : Tryz.f75.body = some _) Tryz.ntmps75 (by kernel_rfl) rfl (by kernel_rfl) Tryz.results75 fun hwf => ?_
  simp only [pvB, ↓pvP, pvDom, simprocAttr]
  simp only [pvAll, pvStd, pvDom] at hwf
  refine ⟨fun h0 => ?_, fun h0 => ?_⟩
  · exact pre_bad h0
  have hl : p.here.length = 8 ∧ p.block.length = 8 ∧ p.does.length = 8 := by
    simp only [Bool.or_eq_false_iff, Bool.not_eq_false', decide_eq_true_eq] at h0
    omega
  refine .inl ⟨[1, 23, 24, 25], fun _ => 1, fun k vs H => ∃ i : Nat, i ≤ p.does.length ∧ k = p.does.length - i ∧ vs = [.ptr 0 3 0 0, .sl 1 (p.does.map encI), .int .i64 p.does.length, .int .i64 i] ∧ H = [.rows 79 3 [[.sl 1 (p.here.map encB), .sl 1 (p.block.map encB), .sl 1 (p.does.map encI)]]] ∧ ∀ j, j < i → sigAt p j = true, fun _ => Nat.zero_le _, ?_, ?_⟩
  · simp only [pvB, ↓pvP, pvDom, simprocAttr]
    exact ⟨_, 0, Nat.zero_le _, rfl, rfl, fun j hj => absurd hj (Nat.not_lt_zero j)⟩
  · rintro k vs H - ⟨i, hi, rfl, rfl, rfl, hP⟩
    simp only [pvB, ↓pvP, pvDom, simprocAttr]
    have hi2 : i ≤ 140737488355328 := by omega
    refine ⟨fun h1 => ?_, fun h1 => ?_⟩
    · have h1 := dlt h1
      exact ⟨in_of i h1, fun _ => in_of i (by omega), fun h => allp_bad h1 (congrArg not h), fun h => ⟨_, by omega, i + 1, by omega, rfl, by rw [w_add hi2], all_next hP (congrArg not h)⟩⟩
    · obtain rfl := dge h1 hi
      exact allp_end h0 hP

theorem pc141 (p : Pages) : PC Tryz.prog 141 [.agg [.sl 1 (p.text.map encS), .sl 1 (p.refs.map encI)]] (.bool (pagesOk p)) := by
  refine PC.of_vc mixed (phiOf [(26, an26)]) Tryz.func141 (by kernel_rfl) (rfl : Tryz.f141.body = some _) Tryz.ntmps141 (by kernel_rfl) rfl (by kernel_rfl) Tryz.results141 fun hwf => ?_
  simp only [pvB, ↓pvP, pvDom, simprocAttr, an26, pc26]
  simp only [pvAll, pvStd, pvDom] at hwf
  refine ⟨fun h0 => ?_, fun h0 => ?_⟩
  · exact pre_bad h0
  have hl : p.text.length = p.refs.length ∧ p.refs.length ≤ 12 := by
    simp only [Bool.or_eq_false_iff, Bool.not_eq_false', decide_eq_true_eq, inB, Bool.and_eq_true] at h0
    omega
  refine .inl ⟨[1, 3], fun _ => 1, fun k vs H => ∃ i : Nat, i ≤ p.refs.length ∧ k = p.refs.length - i ∧ vs = [.ptr 0 2 0 0, .int .i64 i] ∧ H = [.rows 43 2 [[.sl 1 (p.text.map encS), .sl 1 (p.refs.map encI)]]] ∧ ∀ j, j < i → pageAt p j = true, fun _ => Nat.zero_le _, ?_, ?_⟩
  · simp only [pvB, ↓pvP, pvDom, simprocAttr]
    exact ⟨_, 0, Nat.zero_le _, rfl, rfl, fun j hj => absurd hj (Nat.not_lt_zero j)⟩
  · rintro k vs H - ⟨i, hi, rfl, rfl, rfl, hP⟩
    simp only [pvB, ↓pvP, pvDom, simprocAttr, an26, pc26]
    have hi2 : i ≤ 140737488355328 := by omega
    refine ⟨fun h1 => ?_, fun h1 => ?_⟩
    · have h1 : i < p.refs.length := by have := dlt h1; omega
      exact ⟨in_of i h1, fun h2 => ⟨in_of i h1, fun _ => in_of i (by omega), fun h => allp_bad h1 ((bif_t h2).trans (congrArg not h)), fun h => ⟨_, by omega, i + 1, by omega, rfl, by rw [w_add hi2], all_next hP ((bif_t h2).trans (congrArg not h))⟩⟩,
        fun h2 => ⟨in_of i h1, fun _ => in_of i (by omega), fun h => allp_bad h1 ((bif_f h2).trans (congrArg not h)), fun h => ⟨_, by omega, i + 1, by omega, rfl, by rw [w_add hi2], all_next hP ((bif_f h2).trans (congrArg not h))⟩⟩⟩
    · obtain rfl := dge h1 (by omega)
      rw [hl.1] at hP
      exact allp_end h0 hP

theorem pc116 (p : Pages) : PC Tryz.prog 116 [.agg [.sl 1 (p.text.map encS), .sl 1 (p.refs.map encI)]] (.bool (pagesOk p)) := by
  refine PC.of_vc mixed (phiOf [(35, an35)]) Tryz.func116 (by kernel_rfl) (rfl : Tryz.f116.body = some _) Tryz.ntmps116 (by kernel_rfl) rfl (by kernel_rfl) Tryz.results116 fun hwf => ?_
  simp only [pvB, ↓pvP, pvDom, simprocAttr, an35, pc35]
  simp only [pvAll, pvStd, pvDom] at hwf
  refine ⟨fun h0 => ?_, fun h0 => ?_⟩
  · exact pre_bad h0
  have hl : p.text.length = p.refs.length ∧ p.refs.length ≤ 12 := by
    simp only [Bool.or_eq_false_iff, Bool.not_eq_false', decide_eq_true_eq, inB, Bool.and_eq_true] at h0
    omega
  refine .inl ⟨[1, 21, 22, 23], fun _ => 1, fun k vs H => ∃ i : Nat, i ≤ p.refs.length ∧ k = p.refs.length - i ∧ vs = [.ptr 0 2 0 0, .sl 1 (p.refs.map encI), .int .i64 p.refs.length, .int .i64 i] ∧ H = [.rows 43 2 [[.sl 1 (p.text.map encS), .sl 1 (p.refs.map encI)]]] ∧ ∀ j, j < i → pageAt p j = true, fun _ => Nat.zero_le _, ?_, ?_⟩
  · simp only [pvB, ↓pvP, pvDom, simprocAttr]
    exact ⟨_, 0, Nat.zero_le _, rfl, rfl, fun j hj => absurd hj (Nat.not_lt_zero j)⟩
  · rintro k vs H - ⟨i, hi, rfl, rfl, rfl, hP⟩
    simp only [pvB, ↓pvP, pvDom, simprocAttr, an35, pc35]
    have hi2 : i ≤ 140737488355328 := by omega
    refine ⟨fun h1 => ?_, fun h1 => ?_⟩
    · have h1 := dlt h1
      exact ⟨in_of i h1, fun h2 => ⟨fun _ => in_of i (by omega), fun h => allp_bad h1 ((bif_t h2).trans (congrArg not h)), fun h => ⟨_, by omega, i + 1, by omega, rfl, by rw [w_add hi2], all_next hP ((bif_t h2).trans (congrArg not h))⟩⟩,
        fun h2 => ⟨fun _ => in_of i (by omega), fun h => allp_bad h1 ((bif_f h2).trans (congrArg not h)), fun h => ⟨_, by omega, i + 1, by omega, rfl, by rw [w_add hi2], all_next hP ((bif_f h2).trans (congrArg not h))⟩⟩⟩
    · obtain rfl := dge h1 (by omega)
      exact allp_end h0 hP

end Go.Proofs.YtemoiphdjocaiaaGreat

namespace Go.Proofs.YtemoiphdjocaiaaGreat
open Go.Pv
set_option linter.unusedSimpArgs false
set_option maxRecDepth 100000
set_option maxHeartbeats 4000000

/-- The first place where P holds, or -1. -/
def fnd (P : Nat → Bool) (n : Nat) : Int := match (List.range n).find? P with
  | some i => (i : Int)
  | none => -1
theorem find_range {P : Nat → Bool} {n i : Nat} (h1 : i < n) (hP : ∀ j, j < i → P j = false) (h : P i = true) : (List.range n).find? P = some i := by
  rw [List.find?_range_eq_some]
  exact ⟨h, List.mem_range.2 h1, fun j hj => by rw [hP j hj]; rfl⟩
theorem fnd_hit {P : Nat → Bool} {n i : Nat} (h1 : i < n) (hP : ∀ j, j < i → P j = false) (h : P i = true) : Le (PV.int .i64 i) (PV.int .i64 (fnd P n)) := by
  have : fnd P n = i := by unfold fnd; rw [find_range h1 hP h]
  rw [this]; exact Le.refl _
theorem fnd_miss {P : Nat → Bool} {n : Nat} (hP : ∀ j, j < n → P j = false) : Le (PV.int .i64 (-1)) (PV.int .i64 (fnd P n)) := by
  have : fnd P n = -1 := by
    unfold fnd
    have : (List.range n).find? P = none := List.find?_eq_none.2 fun j hj => by rw [hP j (List.mem_range.1 hj)]; simp
    rw [this]
  rw [this]; exact Le.refl _
theorem fnd_or (P : Nat → Bool) (n : Nat) : (∃ i, i < n ∧ fnd P n = i ∧ P i = true ∧ ∀ j, j < i → P j = false) ∨ (fnd P n = -1 ∧ ∀ j, j < n → P j = false) := by
  unfold fnd
  cases h : (List.range n).find? P with
  | none => exact .inr ⟨rfl, fun j hj => by have := List.find?_eq_none.1 h j (List.mem_range.2 hj); simpa using this⟩
  | some i =>
    rw [List.find?_range_eq_some] at h
    exact .inl ⟨i, List.mem_range.1 h.2.1, rfl, h.1, fun j hj => by simpa using h.2.2 j hj⟩
theorem all_nextF {P : Nat → Bool} {i : Nat} (hP : ∀ j, j < i → P j = false) (h : P i = false) : ∀ j, j < i + 1 → P j = false := fun j hj => by
  rcases Nat.lt_or_ge j i with h' | h'
  · exact hP j h'
  · have : j = i := by omega
    subst this; exact h

def areaEnd (a : Area) : Int := IntKind.i64.wrap (a.from_ + a.many)
def an158 : List PV → PV
  | [.agg t] => .int .i64 (areaEnd (Area.dec t))
  | _ => .undef
def areasAt (l : List Area) (i : Nat) : Bool := !(!areaOk (l.getD i default) || decide ((i : Int) > 0) && decide (areaEnd (l.getD (bef i) default) > (l.getD i default).from_))
def areasOk (l : List Area) : Bool := (List.range l.length).all (areasAt l) && decide ((l.length : Int) ≤ 6)
def l2At (l : List Area) (n : Int) : Int := fnd (fun i => inB n (l.getD i default).from_ (IntKind.i64.wrap (areaEnd (l.getD i default) - 1))) l.length
def areaIn (l : List Area) (n : Int) (i : Nat) : Bool := decide (n ≥ (l.getD i default).from_) && decide (n < areaEnd (l.getD i default))
def taskAt (l : List Pv.Task) (n : Int) : Int := fnd (fun i => decide ((l.getD i default).id = n)) l.length
def nodeOpen (l : List Inode) (i : Nat) : Bool := decide ((l.getD i default).opens > 0)
def an124 : List PV → PV
  | [.agg t, .ref [.int _ n]] => .bool (decide ((Task.dec t).id = n))
  | _ => .undef
def an160 : List PV → PV
  | [.agg t, .ref [.int _ n]] => .bool (decide (n ≥ (Area.dec t).from_) && decide (n < areaEnd (Area.dec t)))
  | _ => .undef
def an164 : List PV → PV
  | [.agg t] => .bool (decide ((Inode.dec t).opens > 0))
  | _ => .undef
def an123 : List PV → PV
  | [.sl _ l, .clo _ [.ref [.int _ n]]] => .int .i64 (taskAt (l.map Task.dec) n)
  | _ => .undef
def an159 : List PV → PV
  | [.sl _ l, .clo _ [.ref [.int _ n]]] => .int .i64 (fnd (areaIn (l.map Area.dec) n) l.length)
  | _ => .undef
def an184 : List PV → PV
  | [.sl _ l, .clo _ []] => .int .i64 (fnd (nodeOpen (l.map Inode.dec)) l.length)
  | _ => .undef
def an163 : List PV → PV
  | [.sl _ l, .clo _ []] => .bool (decide (fnd (nodeOpen (l.map Inode.dec)) l.length ≥ 0))
  | _ => .undef

theorem pc158 (p : Area) : PC Tryz.prog 158 [.agg [.int .i64 p.from_, .int .i64 p.many, .bool p.write, .bool p.shared]] (.int .i64 (areaEnd p)) := by
  refine PC.of_vc mixed (phiOf []) Tryz.func158 (by kernel_rfl) (rfl : Tryz.f158.body = some _) Tryz.ntmps158 (by kernel_rfl) rfl (by kernel_rfl) Tryz.results158 fun hwf => ?_
  simp only [pvB, ↓pvP, pvDom, simprocAttr]
  exact Le.refl _

theorem pc124 (p : Pv.Task) (n : Int) : PC Tryz.prog 124 [.agg [.int .i64 p.id, .int .i64 p.weight, .int .i64 p.cost, .bool p.ready], .ref [.int .i64 n]] (.bool (decide (p.id = n))) := by
  refine PC.of_vc mixed (phiOf []) Tryz.func124 (by kernel_rfl) (rfl : Tryz.f124.body = some _) Tryz.ntmps124 (by kernel_rfl) rfl (by kernel_rfl) Tryz.results124 fun hwf => ?_
  simp only [pvB, ↓pvP, pvDom, simprocAttr]
  exact Le.refl _

theorem pc160 (p : Area) (n : Int) : PC Tryz.prog 160 [.agg [.int .i64 p.from_, .int .i64 p.many, .bool p.write, .bool p.shared], .ref [.int .i64 n]] (.bool (decide (n ≥ p.from_) && decide (n < areaEnd p))) := by
  refine PC.of_vc mixed (phiOf [(158, an158)]) Tryz.func160 (by kernel_rfl) (rfl : Tryz.f160.body = some _) Tryz.ntmps160 (by kernel_rfl) rfl (by kernel_rfl) Tryz.results160 fun hwf => ?_
  simp only [pvB, ↓pvP, pvDom, simprocAttr, an158, pc158]
  exact Le.refl _

theorem pc164 (p : Inode) : PC Tryz.prog 164 [.agg [.int .i64 p.kind, .int .i64 p.mode, .int .i64 p.owner, .int .i64 p.group, .int .i64 p.links, .int .i64 p.opens, .bool p.mark, .str p.text, .sl 2 (p.names.map Entry.enc)]] (.bool (decide (p.opens > 0))) := by
  refine PC.of_vc mixed (phiOf []) Tryz.func164 (by kernel_rfl) (rfl : Tryz.f164.body = some _) Tryz.ntmps164 (by kernel_rfl) rfl (by kernel_rfl) Tryz.results164 fun hwf => ?_
  simp only [pvB, ↓pvP, pvDom, simprocAttr]
  exact Le.refl _

theorem pc171 (l : List Area) : PC Tryz.prog 171 [.sl 4 (l.map Area.enc)] (.bool (areasOk l)) := by
  refine PC.of_vc mixed (phiOf [(189, an189)]) Tryz.func171 (by kernel_rfl) (rfl : Tryz.f171.body = some _) Tryz.ntmps171 (by kernel_rfl) rfl (by kernel_rfl) Tryz.results171 fun hwf => ?_
  simp only [pvB, ↓pvP, pvDom, simprocAttr, an189, pc189]
  simp only [pvAll, pvStd, pvDom] at hwf
  refine .inl ⟨[0, 3], fun _ => 0, fun k vs H => ∃ i : Nat, i ≤ l.length ∧ k = l.length - i ∧ vs = [.sl 4 (l.map Area.enc), .int .i64 i] ∧ H = [] ∧ ∀ j, j < i → areasAt l j = true, fun _ => Nat.zero_le _, ?_, ?_⟩
  · simp only [pvB, ↓pvP, pvDom, simprocAttr]
    exact ⟨_, 0, Nat.zero_le _, rfl, rfl, fun j hj => absurd hj (Nat.not_lt_zero j)⟩
  · rintro k vs H - ⟨i, hi, rfl, rfl, rfl, hP⟩
    simp only [pvB, ↓pvP, pvDom, simprocAttr, an189, pc189]
    have hi2 : i ≤ 140737488355328 := Nat.le_trans hi (by omega)
    refine ⟨fun h1 => ⟨in_of i (dlt h1), fun h => pre_in h (dlt h1) hi2, fun h => pre_in h (dlt h1) hi2, fun _ => in_of i (dlt h1), fun h => all_bad (dlt h1) (congrArg not h), fun h => ⟨_, by have := dlt h1; omega, i + 1, dlt h1, rfl, by rw [w_add hi2], all_next hP (congrArg not h)⟩⟩, fun h1 => ?_⟩
    obtain rfl := dge h1 hi
    exact all_end hP

theorem pc117 (l : List Area) : PC Tryz.prog 117 [.sl 4 (l.map Area.enc)] (.bool (areasOk l)) := by
  refine PC.of_vc mixed (phiOf [(157, an157), (158, an158)]) Tryz.func117 (by kernel_rfl) (rfl : Tryz.f117.body = some _) Tryz.ntmps117 (by kernel_rfl) rfl (by kernel_rfl) Tryz.results117 fun hwf => ?_
  simp only [pvB, ↓pvP, pvDom, simprocAttr, an157, pc157, an158, pc158]
  simp only [pvAll, pvStd, pvDom] at hwf
  refine .inl ⟨[0, 5, 6, 7], fun _ => 0, fun k vs H => ∃ i : Nat, i ≤ l.length ∧ k = l.length - i ∧ vs = [.sl 4 (l.map Area.enc), .sl 4 (l.map Area.enc), .int .i64 l.length, .int .i64 i] ∧ H = [] ∧ ∀ j, j < i → areasAt l j = true, fun _ => Nat.zero_le _, ?_, ?_⟩
  · simp only [pvB, ↓pvP, pvDom, simprocAttr]
    exact ⟨_, 0, Nat.zero_le _, rfl, rfl, fun j hj => absurd hj (Nat.not_lt_zero j)⟩
  · rintro k vs H - ⟨i, hi, rfl, rfl, rfl, hP⟩
    simp only [pvB, ↓pvP, pvDom, simprocAttr, an157, pc157, an158, pc158]
    have hi2 : i ≤ 140737488355328 := Nat.le_trans hi (by omega)
    refine ⟨fun h1 => ⟨in_of i (dlt h1), fun h => pre_in h (dlt h1) hi2, fun h => all_bad (dlt h1) (congrArg not h), fun h => ⟨_, by have := dlt h1; omega, i + 1, dlt h1, rfl, by rw [w_add hi2], all_next hP (congrArg not h)⟩⟩, fun h1 => ?_⟩
    obtain rfl := dge h1 hi
    exact all_end hP

theorem pc172 (l : List Area) (n : Int) : PC Tryz.prog 172 [.sl 4 (l.map Area.enc), .int .i64 n] (.int .i64 (l2At l n)) := by
  refine PC.of_vc mixed (phiOf [(26, an26)]) Tryz.func172 (by kernel_rfl) (rfl : Tryz.f172.body = some _) Tryz.ntmps172 (by kernel_rfl) rfl (by kernel_rfl) Tryz.results172 fun hwf => ?_
  simp only [pvB, ↓pvP, pvDom, simprocAttr, an26, pc26]
  simp only [pvAll, pvStd, pvDom] at hwf
  refine .inl ⟨[0, 1, 5], fun _ => 0, fun k vs H => ∃ i : Nat, i ≤ l.length ∧ k = l.length - i ∧ vs = [.sl 4 (l.map Area.enc), .int .i64 n, .int .i64 i] ∧ H = [] ∧ ∀ j, j < i → (fun i => inB n (l.getD i default).from_ (IntKind.i64.wrap (areaEnd (l.getD i default) - 1))) j = false, fun _ => Nat.zero_le _, ?_, ?_⟩
  · simp only [pvB, ↓pvP, pvDom, simprocAttr]
    exact ⟨_, 0, Nat.zero_le _, rfl, rfl, fun j hj => absurd hj (Nat.not_lt_zero j)⟩
  · rintro k vs H - ⟨i, hi, rfl, rfl, rfl, hP⟩
    simp only [pvB, ↓pvP, pvDom, simprocAttr, an26, pc26]
    have hi2 : i ≤ 140737488355328 := Nat.le_trans hi (by omega)
    refine ⟨fun h1 => ⟨in_of i (dlt h1), in_of i (dlt h1), in_of i (dlt h1), fun h => fnd_hit (dlt h1) hP h, fun h => ⟨_, by have := dlt h1; omega, i + 1, dlt h1, rfl, by rw [w_add hi2], all_nextF hP h⟩⟩, fun h1 => ?_⟩
    obtain rfl := dge h1 hi
    exact fnd_miss hP

theorem pc152 (p : Queue) (n : Int) : PC Tryz.prog 152 [.agg [.sl 4 (p.tasks.map Task.enc), .int .i64 p.floor], .int .i64 n] (.int .i64 (taskAt p.tasks n)) := by
  refine PC.of_vc mixed (phiOf []) Tryz.func152 (by kernel_rfl) (rfl : Tryz.f152.body = some _) Tryz.ntmps152 (by kernel_rfl) rfl (by kernel_rfl) Tryz.results152 fun hwf => ?_
  simp only [pvB, ↓pvP, pvDom, simprocAttr]
  simp only [pvAll, pvStd, pvDom] at hwf
  refine .inl ⟨[1, 2, 5], fun _ => 1, fun k vs H => ∃ i : Nat, i ≤ p.tasks.length ∧ k = p.tasks.length - i ∧ vs = [.int .i64 n, .ptr 0 2 0 0, .int .i64 i] ∧ H = [.rows 55 2 [[.sl 4 (p.tasks.map Task.enc), .int .i64 p.floor]]] ∧ ∀ j, j < i → (fun i => decide ((p.tasks.getD i default).id = n)) j = false, fun _ => Nat.zero_le _, ?_, ?_⟩
  · simp only [pvB, ↓pvP, pvDom, simprocAttr]
    exact ⟨_, 0, Nat.zero_le _, rfl, rfl, fun j hj => absurd hj (Nat.not_lt_zero j)⟩
  · rintro k vs H - ⟨i, hi, rfl, rfl, rfl, hP⟩
    simp only [pvB, ↓pvP, pvDom, simprocAttr]
    have hi2 : i ≤ 140737488355328 := Nat.le_trans hi (by omega)
    refine ⟨fun h1 => ⟨in_of i (dlt h1), fun h => fnd_hit (dlt h1) hP h, fun h => ⟨_, by have := dlt h1; omega, i + 1, dlt h1, rfl, by rw [w_add hi2], all_nextF hP h⟩⟩, fun h1 => ?_⟩
    obtain rfl := dge h1 hi
    exact fnd_miss hP

theorem pc123 (l : List Pv.Task) (n : Int) : PC Tryz.prog 123 [.sl 4 (l.map Task.enc), .clo 124 [.ref [.int .i64 n]]] (.int .i64 (taskAt l n)) := by
  refine PC.of_vc mixed (phiOf [(124, an124)]) Tryz.func123 (by kernel_rfl) (rfl : Tryz.f123.body = some _) Tryz.ntmps123 (by kernel_rfl) rfl (by kernel_rfl) Tryz.results123 fun hwf => ?_
  simp only [pvB, ↓pvP, pvDom, simprocAttr, an124, pc124]
  simp only [pvAll, pvStd, pvDom] at hwf
  refine .inl ⟨[0, 1, 7, 8], fun _ => 0, fun k vs H => ∃ i : Nat, i ≤ l.length ∧ k = l.length - i ∧ vs = [.sl 4 (l.map Task.enc), .clo 124 [.ref [.int .i64 n]], .int .i64 l.length, .int .i64 i] ∧ H = [] ∧ ∀ j, j < i → (fun i => decide ((l.getD i default).id = n)) j = false, fun _ => Nat.zero_le _, ?_, ?_⟩
  · simp only [pvB, ↓pvP, pvDom, simprocAttr]
    exact ⟨_, 0, Nat.zero_le _, rfl, rfl, fun j hj => absurd hj (Nat.not_lt_zero j)⟩
  · rintro k vs H - ⟨i, hi, rfl, rfl, rfl, hP⟩
    simp only [pvB, ↓pvP, pvDom, simprocAttr, an124, pc124]
    have hi2 : i ≤ 140737488355328 := Nat.le_trans hi (by omega)
    refine ⟨fun h1 => ⟨in_of i (dlt h1), fun h => fnd_hit (dlt h1) hP h, fun h => ⟨_, by have := dlt h1; omega, i + 1, dlt h1, rfl, by rw [w_add hi2], all_nextF hP h⟩⟩, fun h1 => ?_⟩
    obtain rfl := dge h1 hi
    exact fnd_miss hP

theorem pc159 (l : List Area) (n : Int) : PC Tryz.prog 159 [.sl 4 (l.map Area.enc), .clo 160 [.ref [.int .i64 n]]] (.int .i64 (fnd (areaIn l n) l.length)) := by
  refine PC.of_vc mixed (phiOf [(160, an160)]) Tryz.func159 (by kernel_rfl) (rfl : Tryz.f159.body = some _) Tryz.ntmps159 (by kernel_rfl) rfl (by kernel_rfl) Tryz.results159 fun hwf => ?_
  simp only [pvB, ↓pvP, pvDom, simprocAttr, an160, pc160]
  simp only [pvAll, pvStd, pvDom] at hwf
  refine .inl ⟨[0, 1, 7, 8], fun _ => 0, fun k vs H => ∃ i : Nat, i ≤ l.length ∧ k = l.length - i ∧ vs = [.sl 4 (l.map Area.enc), .clo 160 [.ref [.int .i64 n]], .int .i64 l.length, .int .i64 i] ∧ H = [] ∧ ∀ j, j < i → (areaIn l n) j = false, fun _ => Nat.zero_le _, ?_, ?_⟩
  · simp only [pvB, ↓pvP, pvDom, simprocAttr]
    exact ⟨_, 0, Nat.zero_le _, rfl, rfl, fun j hj => absurd hj (Nat.not_lt_zero j)⟩
  · rintro k vs H - ⟨i, hi, rfl, rfl, rfl, hP⟩
    simp only [pvB, ↓pvP, pvDom, simprocAttr, an160, pc160]
    have hi2 : i ≤ 140737488355328 := Nat.le_trans hi (by omega)
    refine ⟨fun h1 => ⟨in_of i (dlt h1), fun h => fnd_hit (dlt h1) hP h, fun h => ⟨_, by have := dlt h1; omega, i + 1, dlt h1, rfl, by rw [w_add hi2], all_nextF hP h⟩⟩, fun h1 => ?_⟩
    obtain rfl := dge h1 hi
    exact fnd_miss hP

theorem pc184 (l : List Inode)  : PC Tryz.prog 184 [.sl 9 (l.map Inode.enc), .clo 164 []] (.int .i64 (fnd (nodeOpen l) l.length)) := by
  refine PC.of_vc mixed (phiOf [(164, an164)]) Tryz.func184 (by kernel_rfl) (rfl : Tryz.f184.body = some _) Tryz.ntmps184 (by kernel_rfl) rfl (by kernel_rfl) Tryz.results184 fun hwf => ?_
  simp only [pvB, ↓pvP, pvDom, simprocAttr, an164, pc164]
  simp only [pvAll, pvStd, pvDom] at hwf
  refine .inl ⟨[0, 1, 7, 8], fun _ => 0, fun k vs H => ∃ i : Nat, i ≤ l.length ∧ k = l.length - i ∧ vs = [.sl 9 (l.map Inode.enc), .clo 164 [], .int .i64 l.length, .int .i64 i] ∧ H = [] ∧ ∀ j, j < i → (nodeOpen l) j = false, fun _ => Nat.zero_le _, ?_, ?_⟩
  · simp only [pvB, ↓pvP, pvDom, simprocAttr]
    exact ⟨_, 0, Nat.zero_le _, rfl, rfl, fun j hj => absurd hj (Nat.not_lt_zero j)⟩
  · rintro k vs H - ⟨i, hi, rfl, rfl, rfl, hP⟩
    simp only [pvB, ↓pvP, pvDom, simprocAttr, an164, pc164]
    have hi2 : i ≤ 140737488355328 := Nat.le_trans hi (by omega)
    refine ⟨fun h1 => ⟨in_of i (dlt h1), fun h => fnd_hit (dlt h1) hP h, fun h => ⟨_, by have := dlt h1; omega, i + 1, dlt h1, rfl, by rw [w_add hi2], all_nextF hP h⟩⟩, fun h1 => ?_⟩
    obtain rfl := dge h1 hi
    exact fnd_miss hP

theorem pc163 (l : List Inode) : PC Tryz.prog 163 [.sl 9 (l.map Inode.enc), .clo 164 []] (.bool (decide (fnd (nodeOpen l) l.length ≥ 0))) := by
  refine PC.of_vc mixed (phiOf [(184, an184)]) Tryz.func163 (by kernel_rfl) (rfl : Tryz.f163.body = some _) Tryz.ntmps163 (by kernel_rfl) rfl (by kernel_rfl) Tryz.results163 fun hwf => ?_
  simp only [pvB, ↓pvP, pvDom, simprocAttr, an184, pc184]
  exact Le.refl _

def an71 : List PV → PV
  | [.agg q, .int _ n] => .int .i64 (taskAt (Queue.dec q).tasks n)
  | _ => .undef
def an118 : List PV → PV
  | [.sl _ l, .int _ n] => .int .i64 (bif areasOk (l.map Area.dec) then fnd (areaIn (l.map Area.dec) n) l.length else -1)
  | _ => .undef
def an117 : List PV → PV
  | [.sl _ l] => .bool (areasOk (l.map Area.dec))
  | _ => .undef
def an171 : List PV → PV
  | [.sl _ l] => .bool (areasOk (l.map Area.dec))
  | _ => .undef
def an172 : List PV → PV
  | [.sl _ l, .int _ n] => .int .i64 (l2At (l.map Area.dec) n)
  | _ => .undef
def an152 : List PV → PV
  | [.agg q, .int _ n] => .int .i64 (taskAt (Queue.dec q).tasks n)
  | _ => .undef
def an122 : List PV → PV
  | [.agg f] => .bool (decide (fnd (nodeOpen (Fs.dec f).nodes) (Fs.dec f).nodes.length ≥ 0))
  | _ => .undef

theorem pc71 (p : Queue) (n : Int) : PC Tryz.prog 71 [.agg [.sl 4 (p.tasks.map Task.enc), .int .i64 p.floor], .int .i64 n] (.int .i64 (taskAt p.tasks n)) := by
  refine PC.of_vc mixed (phiOf [(123, an123)]) Tryz.func71 (by kernel_rfl) (rfl : Tryz.f71.body = some _) Tryz.ntmps71 (by kernel_rfl) rfl (by kernel_rfl) Tryz.results71 fun hwf => ?_
  simp only [pvB, ↓pvP, pvDom, simprocAttr, an123, pc123]
  exact Le.refl _

theorem pc118 (l : List Area) (n : Int) : PC Tryz.prog 118 [.sl 4 (l.map Area.enc), .int .i64 n] (.int .i64 (bif areasOk l then fnd (areaIn l n) l.length else -1)) := by
  refine PC.of_vc mixed (phiOf [(117, an117), (159, an159)]) Tryz.func118 (by kernel_rfl) (rfl : Tryz.f118.body = some _) Tryz.ntmps118 (by kernel_rfl) rfl (by kernel_rfl) Tryz.results118 fun hwf => ?_
  simp only [pvB, ↓pvP, pvDom, simprocAttr, an117, pc117, an159, pc159]
  cases h : areasOk l <;> simp [Le.refl]

theorem pc122 (f : Fs) : PC Tryz.prog 122 [.agg [.sl 9 (f.nodes.map Inode.enc)]] (.bool (decide (fnd (nodeOpen f.nodes) f.nodes.length ≥ 0))) := by
  refine PC.of_vc mixed (phiOf [(163, an163)]) Tryz.func122 (by kernel_rfl) (rfl : Tryz.f122.body = some _) Tryz.ntmps122 (by kernel_rfl) rfl (by kernel_rfl) Tryz.results122 fun hwf => ?_
  simp only [pvB, ↓pvP, pvDom, simprocAttr, an163, pc163]
  exact Le.refl _

end Go.Proofs.YtemoiphdjocaiaaGreat

namespace Go.Proofs.YtemoiphdjocaiaaGreat
open Go.Pv
set_option linter.unusedSimpArgs false
set_option maxRecDepth 100000
set_option maxHeartbeats 4000000

def nameBad (s : ByteArray) (i : Nat) : Bool := decide (bt s i < 97) || decide (bt s i > 122)
def nameOk (s : ByteArray) : Bool := (List.range s.size).all (fun i => !nameBad s i) && inB s.size 1 3
theorem nameI_eq (s : ByteArray) : (inB s.size 1 3 && decide (fnd (nameBad s) s.size < 0)) = nameOk s := by
  unfold nameOk
  rcases fnd_or (nameBad s) s.size with ⟨i, h1, h2, h3, h4⟩ | ⟨h1, h2⟩
  · have : (List.range s.size).all (fun i => !nameBad s i) = false := by
      rw [← Bool.not_eq_true]; intro h
      have := List.all_eq_true.1 h i (List.mem_range.2 h1)
      simp [h3] at this
    rw [this, h2]
    have : decide ((i : Int) < 0) = false := by simp
    rw [this, Bool.and_false, Bool.false_and]
  · have : (List.range s.size).all (fun i => !nameBad s i) = true := List.all_eq_true.2 fun i hi => by rw [h2 i (List.mem_range.1 hi)]; rfl
    rw [this, h1, Bool.true_and]
    have : decide ((-1 : Int) < 0) = true := by decide
    rw [this, Bool.and_true]
def an183 : List PV → PV
  | [.int _ n] => .bool (decide (n < 97) || decide (n > 122))
  | _ => .undef
def an193 : List PV → PV
  | [.str s, .clo _ _, .bool _] => .int .i64 (fnd (nameBad s) s.size)
  | _ => .undef
def an182 : List PV → PV
  | [.str s, .clo _ _] => .int .i64 (fnd (nameBad s) s.size)
  | _ => .undef
def an162 : List PV → PV
  | [.str s] => .bool (nameOk s)
  | _ => .undef
def an191 : List PV → PV
  | [.str s] => .bool (nameOk s)
  | _ => .undef
def pagesHas (p : Pages) (n : Int) : Bool := inB n 0 (IntKind.i64.wrap ((p.refs.length : Int) - 1)) && decide (p.refs.getD n.toNat 0 > 0)
def an119 : List PV → PV
  | [.agg p, .int _ n] => .bool (pagesHas (Pages.dec p) n)
  | _ => .undef
def areaIdx (l : List Area) (n : Int) : Int := bif areasOk l then fnd (areaIn l n) l.length else -1
def sharedI (p : Space) (n : Int) : Bool := decide (areaIdx p.areas n ≥ 0) && (p.areas.getD (areaIdx p.areas n).toNat default).shared
def sharedS (p : Space) (n : Int) : Bool := decide (l2At p.areas n ≥ 0) && (p.areas.getD (l2At p.areas n).toNat default).shared
def an120 : List PV → PV
  | [.agg p, .int _ n] => .bool (sharedI (Space.dec p) n)
  | _ => .undef
def an173 : List PV → PV
  | [.agg p, .int _ n] => .bool (sharedS (Space.dec p) n)
  | _ => .undef
theorem fnd_in {P : Nat → Bool} {n : Nat} (h : decide (fnd P n ≥ 0) = true) : 0 ≤ fnd P n ∧ fnd P n < (n : Int) := by
  have h := of_decide_eq_true h
  rcases fnd_or P n with ⟨i, h1, h2, _⟩ | ⟨h1, _⟩
  · rw [h2]; omega
  · rw [h1] at h; omega
theorem areaIdx_in {l : List Area} {n : Int} (h : decide (areaIdx l n ≥ 0) = true) : 0 ≤ areaIdx l n ∧ areaIdx l n < (l.length : Int) := by
  unfold areaIdx at h ⊢
  cases hc : areasOk l with
  | true => rw [hc] at h; exact fnd_in h
  | false => rw [hc] at h; simp at h
def opensW (p : Fs) : Int := itr (fun i n => IntKind.i64.wrap (n + (p.nodes.getD i default).opens)) p.nodes.length 0
def an146 : List PV → PV
  | [.agg p] => .int .i64 (opensW (Fs.dec p))
  | _ => .undef
def slotAt (m : Mem) (i k : Nat) : Pv.Slot := ((m.spaces.getD i default).slots.getD k default)
def tells (m : Mem) (kind at_ : Int) (i k : Nat) : Bool := decide ((slotAt m i k).kind = kind) && decide ((slotAt m i k).at_ = at_)
def toldR (m : Mem) (kind at_ : Int) (i : Nat) (k : Nat) (n : Int) : Int := bif tells m kind at_ i k then IntKind.i64.wrap (n + 1) else n
def toldF (m : Mem) (kind at_ : Int) (i : Nat) (n : Int) : Int := itr (toldR m kind at_ i) (m.spaces.getD i default).slots.length n
def toldW (m : Mem) (kind at_ : Int) : Int := itr (toldF m kind at_) m.spaces.length 0
def an143 : List PV → PV
  | [.agg m, .int _ k, .int _ a] => .int .i64 (toldW (Mem.dec m) k a)
  | _ => .undef
theorem bif_tI {α : Type} {c : Bool} {x y : α} (h : c = true) : (bif c then x else y) = x := by subst h; rfl
theorem bif_fI {α : Type} {c : Bool} {x y : α} (h : c = false) : (bif c then x else y) = y := by subst h; rfl
abbrev St3 := Int × Bool × Bool
def aloneR (m : Mem) (kind at_ : Int) (i : Nat) (k : Nat) (s : St3) : St3 := bif tells m kind at_ i k then (IntKind.i64.wrap (s.1 + 1), s.2.1 || (slotAt m i k).own, s.2.2 || !sharedS (m.spaces.getD i default) k) else s
def aloneF (m : Mem) (kind at_ : Int) (i : Nat) (s : St3) : St3 := itr (aloneR m kind at_ i) (m.spaces.getD i default).slots.length s
def aloneSt (m : Mem) (kind at_ : Int) : St3 := itr (aloneF m kind at_) m.spaces.length (0, false, false)
def aloneW (m : Mem) (kind at_ : Int) : Bool := decide ((aloneSt m kind at_).1 < 2) || !(aloneSt m kind at_).2.1 || !(aloneSt m kind at_).2.2
def an144 : List PV → PV
  | [.agg m, .int _ k, .int _ a] => .bool (aloneW (Mem.dec m) k a)
  | _ => .undef

theorem pc191 (s : ByteArray) : PC Tryz.prog 191 [.str s] (.bool (nameOk s)) := by
  refine PC.of_vc mixed (phiOf [(26, an26)]) Tryz.func191 (by kernel_rfl) (rfl : Tryz.f191.body = some _) Tryz.ntmps191 (by kernel_rfl) rfl (by kernel_rfl) Tryz.results191 fun hwf => ?_
  simp only [pvB, ↓pvP, pvDom, simprocAttr, an26, pc26]
  simp only [pvAll, pvStd, pvDom] at hwf
  refine .inl ⟨[0, 3], fun _ => 0, fun k vs H => ∃ i : Nat, i ≤ s.size ∧ k = s.size - i ∧ vs = [.str s, .int .i64 i] ∧ H = [] ∧ ∀ j, j < i → (fun i => !nameBad s i) j = true, fun _ => Nat.zero_le _, ?_, ?_⟩
  · simp only [pvB, ↓pvP, pvDom, simprocAttr]
    exact ⟨_, 0, Nat.zero_le _, rfl, rfl, fun j hj => absurd hj (Nat.not_lt_zero j)⟩
  · rintro k vs H - ⟨i, hi, rfl, rfl, rfl, hP⟩
    simp only [pvB, ↓pvP, pvDom, simprocAttr, an26, pc26]
    have hi2 : i ≤ 140737488355328 := Nat.le_trans hi (by omega)
    refine ⟨fun h1 => ⟨in_of i (dlt h1), fun _ => in_of i (dlt h1), fun h => all_bad (dlt h1) (congrArg not h), fun h => ⟨_, by have := dlt h1; omega, i + 1, dlt h1, rfl, by rw [w_add hi2], all_next hP (congrArg not h)⟩⟩, fun h1 => ?_⟩
    obtain rfl := dge h1 hi
    exact all_end hP

theorem pc183 (n : Int) : PC Tryz.prog 183 [.int .i32 n] (.bool (decide (n < 97) || decide (n > 122))) := by
  refine PC.of_vc mixed (phiOf []) Tryz.func183 (by kernel_rfl) (rfl : Tryz.f183.body = some _) Tryz.ntmps183 (by kernel_rfl) rfl (by kernel_rfl) Tryz.results183 fun hwf => ?_
  simp only [pvB, ↓pvP, pvDom, simprocAttr]
  exact Le.refl _

theorem pc193 (s : ByteArray) : PC Tryz.prog 193 [.str s, .clo 183 [], .bool true] (.int .i64 (fnd (nameBad s) s.size)) := by
  refine PC.of_vc mixed (phiOf [(183, an183)]) Tryz.func193 (by kernel_rfl) (rfl : Tryz.f193.body = some _) Tryz.ntmps193 (by kernel_rfl) rfl (by kernel_rfl) Tryz.results193 fun hwf => ?_
  simp only [pvB, ↓pvP, pvDom, pvMm, simprocAttr, an183, pc183, pvX, bbE]
  refine .inl ⟨[0, 1, 2, 10], fun _ => 1, fun k vs H => ∃ i : Nat, k = s.size - i ∧ i ≤ s.size ∧ vs = [.str s, .clo 183 [], .bool true, .ptr 0 1 0 0] ∧ H = [.siter s i] ∧ ∀ j, j < i → nameBad s j = false, fun _ => Nat.zero_le _, ?_, ?_⟩
  · simp only [pvB, ↓pvP, pvDom, simprocAttr]
    exact ⟨_, 0, rfl, Nat.zero_le _, rfl, fun j hj => absurd hj (Nat.not_lt_zero j)⟩
  · rintro k vs H - ⟨i, rfl, hi, rfl, rfl, hP⟩
    simp only [pvB, ↓pvP, pvDom, pvMm, simprocAttr, pvX, bbE, an183, pc183]
    refine ⟨fun h1 => ?_, fun h1 => ⟨fun h => ?_, fun h => ?_⟩⟩
    · have hi : i = s.size := by omega
      subst hi
      exact fnd_miss hP
    · refine fnd_hit h1 hP ?_
      rcases Int.lt_or_le (bt s i) 128 with hb | hb
      · rw [(decode_lo h1 hb).1] at h; exact h
      · unfold nameBad
        have : decide (bt s i > 122) = true := decide_eq_true (by omega)
        rw [this, Bool.or_true]
    · have hb : bt s i < 128 := by
        rcases Int.lt_or_le (bt s i) 128 with hb | hb
        · exact hb
        · have := decode_hi h1 hb
          simp only [Bool.or_eq_false_iff, decide_eq_false_iff_not] at h
          omega
      obtain ⟨d1, d2⟩ := decode_lo h1 hb
      rw [d1] at h
      rw [d2]
      exact ⟨_, by omega, i + 1, rfl, by omega, rfl, all_nextF hP h⟩

theorem pc182 (s : ByteArray) : PC Tryz.prog 182 [.str s, .clo 183 []] (.int .i64 (fnd (nameBad s) s.size)) := by
  refine PC.of_vc mixed (phiOf [(193, an193)]) Tryz.func182 (by kernel_rfl) (rfl : Tryz.f182.body = some _) Tryz.ntmps182 (by kernel_rfl) rfl (by kernel_rfl) Tryz.results182 fun hwf => ?_
  simp only [pvB, ↓pvP, pvDom, simprocAttr, an193, pc193]
  exact Le.refl _

theorem pc162 (s : ByteArray) : PC Tryz.prog 162 [.str s] (.bool (nameOk s)) := by
  refine PC.of_vc mixed (phiOf [(35, an35), (182, an182)]) Tryz.func162 (by kernel_rfl) (rfl : Tryz.f162.body = some _) Tryz.ntmps162 (by kernel_rfl) rfl (by kernel_rfl) Tryz.results162 fun hwf => ?_
  simp only [pvB, ↓pvP, pvDom, simprocAttr, an35, pc35, an182, pc182]
  rw [nameI_eq]; exact Le.refl _

theorem pc119 (p : Pages) (n : Int) : PC Tryz.prog 119 [.agg [.sl 1 (p.text.map encS), .sl 1 (p.refs.map encI)], .int .i64 n] (.bool (pagesHas p n)) := by
  refine PC.of_vc mixed (phiOf [(35, an35)]) Tryz.func119 (by kernel_rfl) (rfl : Tryz.f119.body = some _) Tryz.ntmps119 (by kernel_rfl) rfl (by kernel_rfl) Tryz.results119 fun hwf => ?_
  simp only [pvB, ↓pvP, pvDom, simprocAttr, an35, pc35]
  exact ⟨fun h => inB_bd h, Le.refl _⟩

theorem pc120 (p : Space) (n : Int) : PC Tryz.prog 120 [.agg [.bool p.live, .sl 4 (p.areas.map Area.enc), .sl 4 (p.slots.map Slot.enc)], .int .i64 n] (.bool (sharedI p n)) := by
  refine PC.of_vc mixed (phiOf [(118, an118)]) Tryz.func120 (by kernel_rfl) (rfl : Tryz.f120.body = some _) Tryz.ntmps120 (by kernel_rfl) rfl (by kernel_rfl) Tryz.results120 fun hwf => ?_
  simp only [pvB, ↓pvP, pvDom, simprocAttr, an118, pc118]
  exact ⟨areaIdx_in, Le.refl _⟩

theorem pc173 (p : Space) (n : Int) : PC Tryz.prog 173 [.agg [.bool p.live, .sl 4 (p.areas.map Area.enc), .sl 4 (p.slots.map Slot.enc)], .int .i64 n] (.bool (sharedS p n)) := by
  refine PC.of_vc mixed (phiOf [(172, an172)]) Tryz.func173 (by kernel_rfl) (rfl : Tryz.f173.body = some _) Tryz.ntmps173 (by kernel_rfl) rfl (by kernel_rfl) Tryz.results173 fun hwf => ?_
  simp only [pvB, ↓pvP, pvDom, simprocAttr, an172, pc172]
  exact ⟨fun h => fnd_in h, Le.refl _⟩

theorem pc146 (p : Fs) : PC Tryz.prog 146 [.agg [.sl 9 (p.nodes.map Inode.enc)]] (.int .i64 (opensW p)) := by
  refine PC.of_vc mixed (phiOf []) Tryz.func146 (by kernel_rfl) (rfl : Tryz.f146.body = some _) Tryz.ntmps146 (by kernel_rfl) rfl (by kernel_rfl) Tryz.results146 fun hwf => ?_
  simp only [pvB, ↓pvP, pvDom, simprocAttr]
  simp only [pvAll, pvStd, pvDom] at hwf
  refine .inl ⟨[1, 3, 4], fun _ => 1, fun k vs H => ∃ i : Nat, i ≤ p.nodes.length ∧ k = p.nodes.length - i ∧ vs = [.ptr 0 1 0 0, .int .i64 (itr (fun i n => IntKind.i64.wrap (n + (p.nodes.getD i default).opens)) i 0), .int .i64 i] ∧ H = [.rows 157 1 [[.sl 9 (p.nodes.map Inode.enc)]]], fun _ => Nat.zero_le _, ?_, ?_⟩
  · simp only [pvB, ↓pvP, pvDom, simprocAttr]
    exact ⟨_, 0, Nat.zero_le _, rfl, rfl⟩
  · rintro k vs H - ⟨i, hi, rfl, rfl, rfl⟩
    simp only [pvB, ↓pvP, pvDom, simprocAttr]
    have hi2 : i ≤ 140737488355328 := Nat.le_trans hi (by omega)
    refine ⟨fun h1 => ⟨in_of i (dlt h1), _, by have := dlt h1; omega, i + 1, dlt h1, rfl, by rw [w_add hi2]; rfl⟩, fun h1 => ?_⟩
    obtain rfl := dge h1 hi
    exact Le.refl _

theorem pc143 (m : Mem) (kind at_ : Int) : PC Tryz.prog 143 [.agg [.sl 1 (m.ram.text.map encS), .sl 1 (m.ram.refs.map encI), .sl 1 (m.swap.text.map encS), .sl 1 (m.swap.refs.map encI), .sl 3 (m.spaces.map Space.enc), .int .i64 m.hand], .int .i64 kind, .int .i64 at_] (.int .i64 (toldW m kind at_)) := by
  refine PC.of_vc mixed (phiOf []) Tryz.func143 (by kernel_rfl) (rfl : Tryz.f143.body = some _) Tryz.ntmps143 (by kernel_rfl) rfl (by kernel_rfl) Tryz.results143 fun hwf => ?_
  simp only [pvB, ↓pvP, pvDom, simprocAttr]
  simp only [pvAll, pvStd, pvDom] at hwf
  refine .inl ⟨[1, 2, 3, 7, 8], fun _ => 1, fun k vs H => ∃ i : Nat, i ≤ m.spaces.length ∧ k = m.spaces.length - i ∧ vs = [.int .i64 kind, .int .i64 at_, .ptr 0 6 0 0, .int .i64 (itr (toldF m kind at_) i 0), .int .i64 i] ∧ H = [.rows 46 6 [[.sl 1 (m.ram.text.map encS), .sl 1 (m.ram.refs.map encI), .sl 1 (m.swap.text.map encS), .sl 1 (m.swap.refs.map encI), .sl 3 (m.spaces.map Space.enc), .int .i64 m.hand]]], fun _ => Nat.zero_le _, ?_, ?_⟩
  · simp only [pvB, ↓pvP, pvDom, simprocAttr]
    exact ⟨_, 0, Nat.zero_le _, rfl, rfl⟩
  · rintro k vs H - ⟨i, hi, rfl, rfl, rfl⟩
    simp only [pvB, ↓pvP, pvDom, simprocAttr]
    have hi2 : i ≤ 140737488355328 := Nat.le_trans hi (by omega)
    refine ⟨fun h1 => ?_, fun h1 => ?_⟩
    · have h1 := dlt h1
      have hs : (m.spaces.getD i default).slots.length ≤ 140737488355328 := by
        have := hwf.2.2.2.2.2 (m.spaces.getD i default) (by simp [List.getD, h1])
        exact this.2.1
      refine .inl ⟨[1, 2, 3, 7, 8, 9], fun _ => 1, fun k vs H => ∃ j : Nat, j ≤ (m.spaces.getD i default).slots.length ∧ k = (m.spaces.getD i default).slots.length - j ∧ vs = [.int .i64 kind, .int .i64 at_, .ptr 0 6 0 0, .int .i64 (itr (toldR m kind at_ i) j (itr (toldF m kind at_) i 0)), .int .i64 i, .int .i64 j] ∧ H = [.rows 46 6 [[.sl 1 (m.ram.text.map encS), .sl 1 (m.ram.refs.map encI), .sl 1 (m.swap.text.map encS), .sl 1 (m.swap.refs.map encI), .sl 3 (m.spaces.map Space.enc), .int .i64 m.hand]]], fun _ => Nat.zero_le _, ?_, ?_⟩
      · simp only [pvB, ↓pvP, pvDom, simprocAttr]
        exact ⟨_, 0, Nat.zero_le _, rfl, rfl⟩
      · rintro k vs H - ⟨j, hj, rfl, rfl, rfl⟩
        simp only [pvB, ↓pvP, pvDom, simprocAttr]
        have hj2 : j ≤ 140737488355328 := Nat.le_trans hj hs
        refine ⟨in_of i h1, fun h2 => ?_, fun h2 => ?_⟩
        · have h2 := dlt h2
          refine ⟨in_of i h1, in_of j h2, fun h => ⟨_, by omega, j + 1, h2, rfl, ?_⟩, fun h => ⟨_, by omega, j + 1, h2, rfl, ?_⟩⟩
          · have e : ∀ s, toldR m kind at_ i j s = IntKind.i64.wrap (s + 1) := fun s => bif_tI h
            rw [w_add hj2]; simp only [itr, e]
          · have e : ∀ s, toldR m kind at_ i j s = s := fun s => bif_fI h
            rw [w_add hj2]; simp only [itr, e]
        · obtain rfl := dge h2 hj
          exact ⟨_, by omega, i + 1, h1, rfl, by rw [w_add hi2]; rfl⟩
    · obtain rfl := dge h1 hi
      exact Le.refl _

theorem pc144 (m : Mem) (kind at_ : Int) : PC Tryz.prog 144 [.agg [.sl 1 (m.ram.text.map encS), .sl 1 (m.ram.refs.map encI), .sl 1 (m.swap.text.map encS), .sl 1 (m.swap.refs.map encI), .sl 3 (m.spaces.map Space.enc), .int .i64 m.hand], .int .i64 kind, .int .i64 at_] (.bool (aloneW m kind at_)) := by
  refine PC.of_vc mixed (phiOf [(173, an173)]) Tryz.func144 (by kernel_rfl) (rfl : Tryz.f144.body = some _) Tryz.ntmps144 (by kernel_rfl) rfl (by kernel_rfl) Tryz.results144 fun hwf => ?_
  simp only [pvB, ↓pvP, pvDom, simprocAttr, an173, pc173]
  simp only [pvAll, pvStd, pvDom] at hwf
  refine .inl ⟨[1, 2, 3, 7, 8, 9, 10], fun _ => 1, fun k vs H => ∃ i : Nat, i ≤ m.spaces.length ∧ k = m.spaces.length - i ∧ vs = [.int .i64 kind, .int .i64 at_, .ptr 0 6 0 0, .int .i64 (itr (aloneF m kind at_) i (0, false, false)).1, .bool (itr (aloneF m kind at_) i (0, false, false)).2.1, .bool (itr (aloneF m kind at_) i (0, false, false)).2.2, .int .i64 i] ∧ H = [.rows 46 6 [[.sl 1 (m.ram.text.map encS), .sl 1 (m.ram.refs.map encI), .sl 1 (m.swap.text.map encS), .sl 1 (m.swap.refs.map encI), .sl 3 (m.spaces.map Space.enc), .int .i64 m.hand]]], fun _ => Nat.zero_le _, ?_, ?_⟩
  · simp only [pvB, ↓pvP, pvDom, simprocAttr]
    exact ⟨_, 0, Nat.zero_le _, rfl, rfl⟩
  · rintro k vs H - ⟨i, hi, rfl, rfl, rfl⟩
    simp only [pvB, ↓pvP, pvDom, simprocAttr]
    have hi2 : i ≤ 140737488355328 := Nat.le_trans hi (by omega)
    refine ⟨fun h1 => ?_, fun h1 => ?_⟩
    · have h1 := dlt h1
      have hs : (m.spaces.getD i default).slots.length ≤ 140737488355328 := by
        have := hwf.2.2.2.2.2 (m.spaces.getD i default) (by simp [List.getD, h1])
        exact this.2.1
      refine .inl ⟨[1, 2, 3, 7, 8, 9, 10, 11], fun _ => 1, fun k vs H => ∃ j : Nat, j ≤ (m.spaces.getD i default).slots.length ∧ k = (m.spaces.getD i default).slots.length - j ∧ vs = [.int .i64 kind, .int .i64 at_, .ptr 0 6 0 0, .int .i64 (itr (aloneR m kind at_ i) j (itr (aloneF m kind at_) i (0, false, false))).1, .bool (itr (aloneR m kind at_ i) j (itr (aloneF m kind at_) i (0, false, false))).2.1, .bool (itr (aloneR m kind at_ i) j (itr (aloneF m kind at_) i (0, false, false))).2.2, .int .i64 i, .int .i64 j] ∧ H = [.rows 46 6 [[.sl 1 (m.ram.text.map encS), .sl 1 (m.ram.refs.map encI), .sl 1 (m.swap.text.map encS), .sl 1 (m.swap.refs.map encI), .sl 3 (m.spaces.map Space.enc), .int .i64 m.hand]]], fun _ => Nat.zero_le _, ?_, ?_⟩
      · simp only [pvB, ↓pvP, pvDom, simprocAttr]
        exact ⟨_, 0, Nat.zero_le _, rfl, rfl⟩
      · rintro k vs H - ⟨j, hj, rfl, rfl, rfl⟩
        simp only [pvB, ↓pvP, pvDom, simprocAttr, an173, pc173]
        have hj2 : j ≤ 140737488355328 := Nat.le_trans hj hs
        refine ⟨in_of i h1, fun h2 => ?_, fun h2 => ?_⟩
        · have h2 := dlt h2
          refine ⟨in_of i h1, in_of j h2, fun h => ⟨fun _ => in_of i h1, ⟨_, by omega, j + 1, h2, rfl, ?_⟩⟩, fun h => ⟨_, by omega, j + 1, h2, rfl, ?_⟩⟩
          · have e : ∀ s, aloneR m kind at_ i j s = (IntKind.i64.wrap (s.1 + 1), s.2.1 || (slotAt m i j).own, s.2.2 || !sharedS (m.spaces.getD i default) j) := fun s => bif_tI h
            rw [w_add hj2]; simp only [itr, e]; rfl
          · have e : ∀ s, aloneR m kind at_ i j s = s := fun s => bif_fI h
            rw [w_add hj2]; simp only [itr, e]
        · obtain rfl := dge h2 hj
          exact ⟨_, by omega, i + 1, h1, rfl, by rw [w_add hi2]; rfl⟩
    · obtain rfl := dge h1 hi
      exact Le.refl _

end Go.Proofs.YtemoiphdjocaiaaGreat

namespace Go.Proofs.YtemoiphdjocaiaaGreat
open Go.Pv
set_option linter.unusedSimpArgs false
set_option maxRecDepth 100000
set_option maxHeartbeats 4000000

def slotZero (x : Pv.Slot) : Bool := (x.kind == 0) && ((x.at_ == 0) && ((x.own == false) && (x.used == false)))
def slotOk (p : Space) (i : Nat) : Bool := bif decide ((p.slots.getD i default).kind = 0) then slotZero (p.slots.getD i default) else
  bif (decide (l2At p.areas i < 0) || !inB (p.slots.getD i default).kind 1 2) then false else !((p.areas.getD (l2At p.areas i).toNat default).shared && !(p.slots.getD i default).own)
def spaceOk (p : Space) : Bool := bif !p.live then (decide ((p.areas.length : Int) = 0) && decide ((p.slots.length : Int) = 0)) else
  !(!areasOk p.areas || !decide ((p.slots.length : Int) = 16)) && (List.range 16).all (slotOk p)
def an142 : List PV → PV
  | [.agg p] => .bool (spaceOk (Space.dec p))
  | _ => .undef
def nameAt (p : Inode) (i : Nat) : Bool := !(!nameOk (p.names.getD i default).name || !inB (p.names.getD i default).id 1 9 || decide ((i : Int) > 0) && !ltS (p.names.getD (bef i) default).name (p.names.getD i default).name)
def nodeBad1 (p : Inode) : Bool := !inB p.kind 1 2 || !inB p.mode 0 511 || !inB p.owner 0 9 || !inB p.group 0 9 || !inB p.opens 0 99 || !inB p.links 0 99 || decide ((p.text.size : Int) > 40) || decide ((p.names.length : Int) > 6)
def nodeBad2 (p : Inode) : Bool := decide (p.kind = 2) && (!eqS p.text ⟨#[]⟩ || p.mark) || decide (p.kind = 1) && decide ((p.names.length : Int) > 0)
def nodeOk (p : Inode) : Bool := bif decide (p.kind = 0) then nodeZero p else !(nodeBad1 p || nodeBad2 p) && (List.range p.names.length).all (nameAt p)
def an174 : List PV → PV
  | [.agg p] => .bool (nodeOk (Inode.dec p))
  | _ => .undef
def vfsNode (v : Vfs) (p : Spt) : Inode := (v.fss.getD p.fs.toNat default).nodes.getD p.id.toNat default
def an77 : List PV → PV
  | [.agg cs, .agg ds] => .agg (vfsNode (Vfs.dec cs) (Spt.dec ds)).enc
  | _ => .undef
def fileZero (f : File) : Bool := (f.refs == 0) && ((f.where_.fs == 0) && ((f.where_.id == 0) && ((f.pipe == 0) && ((f.pos == 0) && ((f.read == false) && ((f.write == false) && (f.end_ == false)))))))
def fileOk (v : Vfs) (f : File) : Bool := bif decide (f.refs = 0) then fileZero f else bif (decide (f.refs < 0) || !inB f.pipe (-1) 2 || !inB f.pos 0 999) then false else
  bif decide (f.pipe ≥ 0) then ((f.where_.fs == 0) && (f.where_.id == 0) && decide (f.pos = 0) && !(f.read == f.write) && !f.end_) else
  bif !placeOk v f.where_ then false else (decide ((vfsNode v f.where_).kind = 1) || f.read && !f.write && !f.end_)
def an101 : List PV → PV
  | [.agg k, .agg f] => .bool (fileOk (Kern.dec k).vfs (File.dec f))
  | _ => .undef
theorem placeOk_in {v : Vfs} {p : Spt} (h : (!placeOk v p) = false) : (0 ≤ p.fs ∧ p.fs < (v.fss.length : Int)) ∧ (0 ≤ p.id ∧ p.id < ((v.fss.getD p.fs.toNat default).nodes.length : Int)) := by
  simp only [Bool.not_eq_false', placeOk, fsHas, Bool.and_eq_true] at h
  exact ⟨inB_bd h.1, inB_bd h.2.1⟩
theorem nb_t {b : Bool} (h : (!b) = true) : b = false := by cases b <;> simp_all
theorem nb_f {b : Bool} (h : (!b) = false) : b = true := by cases b <;> simp_all
theorem l2At_in {l : List Area} {n : Int} {x : Bool} (h : (decide (l2At l n < 0) || x) = false) : 0 ≤ l2At l n ∧ l2At l n < (l.length : Int) := by
  simp only [Bool.or_eq_false_iff, decide_eq_false_iff_not] at h
  exact fnd_in (decide_eq_true (by have := h.1; unfold l2At at this; omega))
theorem bif_not {c x : Bool} : (bif c then false else x) = (!c && x) := by cases c <;> rfl

theorem pc142 (p : Space) : PC Tryz.prog 142 [.agg [.bool p.live, .sl 4 (p.areas.map Area.enc), .sl 4 (p.slots.map Slot.enc)]] (.bool (spaceOk p)) := by
  refine PC.of_vc mixed (phiOf [(26, an26), (171, an171), (172, an172)]) Tryz.func142 (by kernel_rfl) (rfl : Tryz.f142.body = some _) Tryz.ntmps142 (by kernel_rfl) rfl (by kernel_rfl) Tryz.results142 fun hwf => ?_
  simp only [pvB, ↓pvP, pvDom, Nat.reduceAdd, Nat.reduceEqDiff, Nat.reduceLeDiff, Nat.reduceLT, Nat.reduceSub, reduceIte, reduceCtorEq, an26, pc26, an171, pc171, an172, pc172, x_be, x_bn, bbE, eqOk81, eqOk87, eqOk197]
  simp only [pvAll, pvStd, pvDom] at hwf
  refine ⟨fun h0 => ?_, fun h0 => ⟨fun h1 => ?_, fun h1 => ?_⟩⟩
  · simp only [spaceOk, h0, q_bt]; exact Le.refl _
  · simp only [spaceOk, h0, q_bf]; exact pre_bad h1
  have hl : p.slots.length = 16 := by
    simp only [Bool.or_eq_false_iff, Bool.not_eq_false', decide_eq_true_eq] at h1
    omega
  simp only [spaceOk, h0, q_bf]
  refine .inl ⟨[1, 3], fun _ => 1, fun k vs H => ∃ i : Nat, i ≤ 16 ∧ k = 16 - i ∧ vs = [.ptr 0 3 0 0, .int .i64 i] ∧ H = [.rows 153 3 [[.bool p.live, .sl 4 (p.areas.map Area.enc), .sl 4 (p.slots.map Slot.enc)]]] ∧ ∀ j, j < i → slotOk p j = true, fun _ => Nat.zero_le _, ?_, ?_⟩
  · simp only [pvB, ↓pvP, pvDom, Nat.reduceAdd, Nat.reduceEqDiff, Nat.reduceLeDiff, Nat.reduceLT, Nat.reduceSub, reduceIte, reduceCtorEq]
    exact ⟨_, 0, Nat.zero_le _, rfl, rfl, fun j hj => absurd hj (Nat.not_lt_zero j)⟩
  · rintro k vs H - ⟨i, hi, rfl, rfl, rfl, hP⟩
    simp only [pvB, ↓pvP, pvDom, Nat.reduceAdd, Nat.reduceEqDiff, Nat.reduceLeDiff, Nat.reduceLT, Nat.reduceSub, reduceIte, reduceCtorEq, an26, pc26, an172, pc172, x_be, x_bn, bbE, eqOk81, eqOk87, eqOk197]
    have hi2 : i ≤ 140737488355328 := by omega
    refine ⟨fun h2 => ?_, fun h2 => ?_⟩
    · have h2 : i < 16 := by have := of_decide_eq_true h2; omega
      refine ⟨in_of i (by omega), fun h3 => ⟨fun h4 => allp_bad h2 ((bif_t h3).trans (nb_t h4)), fun h4 => ⟨_, by omega, i + 1, by omega, rfl, by rw [w_add hi2], all_next hP ((bif_t h3).trans (nb_f h4))⟩⟩, fun h3 => ⟨fun h4 => allp_bad h2 ((bif_f h3).trans (bif_t h4)), fun h4 => ⟨l2At_in h4, fun h5 => allp_bad h2 ((bif_f h3).trans ((bif_f h4).trans (congrArg not h5))), fun h5 => ⟨_, by omega, i + 1, by omega, rfl, by rw [w_add hi2], all_next hP ((bif_f h3).trans ((bif_f h4).trans (congrArg not h5)))⟩⟩⟩⟩
    · obtain rfl : i = 16 := by have := of_decide_eq_false h2; omega
      exact allp_end h1 hP

theorem pc174 (p : Inode) : PC Tryz.prog 174 [.agg [.int .i64 p.kind, .int .i64 p.mode, .int .i64 p.owner, .int .i64 p.group, .int .i64 p.links, .int .i64 p.opens, .bool p.mark, .str p.text, .sl 2 (p.names.map Entry.enc)]] (.bool (nodeOk p)) := by
  refine PC.of_vc mixed (phiOf [(26, an26), (177, an177), (190, an190), (191, an191)]) Tryz.func174 (by kernel_rfl) (rfl : Tryz.f174.body = some _) Tryz.ntmps174 (by kernel_rfl) rfl (by kernel_rfl) Tryz.results174 fun hwf => ?_
  simp only [pvB, ↓pvP, pvDom, Nat.reduceAdd, Nat.reduceEqDiff, Nat.reduceLeDiff, Nat.reduceLT, Nat.reduceSub, reduceIte, reduceCtorEq, an26, pc26, an177, pc177, an190, pc190, x_be, x_bn, bbE, eqOk81, eqOk87, eqOk197]
  simp only [pvAll, pvStd, pvDom] at hwf
  refine ⟨fun h0 => ?_, fun h0 => ⟨fun h1 => ?_, fun h1 => ⟨fun h2 => ?_, fun h2 => ?_⟩⟩⟩
  · simp only [nodeOk, h0, q_bt]; exact Le.refl _
  · simp only [nodeOk, h0, q_bf]; exact pre_bad (by rw [show nodeBad1 p = true from h1]; rfl)
  · simp only [nodeOk, h0, q_bf]; exact pre_bad (by rw [show nodeBad2 p = true from h2, Bool.or_true])
  have hb : (nodeBad1 p || nodeBad2 p) = false := by rw [show nodeBad1 p = false from h1, show nodeBad2 p = false from h2]; rfl
  simp only [nodeOk, h0, q_bf]
  refine .inl ⟨[1, 3], fun _ => 1, fun k vs H => ∃ i : Nat, i ≤ p.names.length ∧ k = p.names.length - i ∧ vs = [.ptr 0 9 0 0, .int .i64 i] ∧ H = [.rows 146 9 [[.int .i64 p.kind, .int .i64 p.mode, .int .i64 p.owner, .int .i64 p.group, .int .i64 p.links, .int .i64 p.opens, .bool p.mark, .str p.text, .sl 2 (p.names.map Entry.enc)]]] ∧ ∀ j, j < i → nameAt p j = true, fun _ => Nat.zero_le _, ?_, ?_⟩
  · simp only [pvB, ↓pvP, pvDom, Nat.reduceAdd, Nat.reduceEqDiff, Nat.reduceLeDiff, Nat.reduceLT, Nat.reduceSub, reduceIte, reduceCtorEq]
    exact ⟨_, 0, Nat.zero_le _, rfl, rfl, fun j hj => absurd hj (Nat.not_lt_zero j)⟩
  · rintro k vs H - ⟨i, hi, rfl, rfl, rfl, hP⟩
    simp only [pvB, ↓pvP, pvDom, Nat.reduceAdd, Nat.reduceEqDiff, Nat.reduceLeDiff, Nat.reduceLT, Nat.reduceSub, reduceIte, reduceCtorEq, an26, pc26, an191, pc191, x_be, x_bn, bbE, eqOk81, eqOk87, eqOk197]
    have hi2 : i ≤ 140737488355328 := by omega
    refine ⟨fun h3 => ?_, fun h3 => ?_⟩
    · have h3 := dlt h3
      exact ⟨in_of i h3, fun h => pre_in h h3 hi2, fun h => allp_bad h3 (congrArg not h), fun h => ⟨_, by omega, i + 1, by omega, rfl, by rw [w_add hi2], all_next hP (congrArg not h)⟩⟩
    · obtain rfl := dge h3 hi
      exact allp_end hb hP

theorem pc77 (v : Vfs) (p : Spt) (h1 : 0 ≤ p.fs ∧ p.fs < (v.fss.length : Int)) (h2 : 0 ≤ p.id ∧ p.id < ((v.fss.getD p.fs.toNat default).nodes.length : Int)) : PC Tryz.prog 77 [.agg [.sl 1 (v.fss.map Fs.enc), .int .i64 v.mount], .agg [.int .i64 p.fs, .int .i64 p.id]] (.agg (vfsNode v p).enc) := by
  refine PC.of_vc mixed (phiOf []) Tryz.func77 (by kernel_rfl) (rfl : Tryz.f77.body = some _) Tryz.ntmps77 (by kernel_rfl) rfl (by kernel_rfl) Tryz.results77 fun hwf => ?_
  simp only [pvB, ↓pvP, pvDom, Nat.reduceAdd, Nat.reduceEqDiff, Nat.reduceLeDiff, Nat.reduceLT, Nat.reduceSub, reduceIte, reduceCtorEq, rCell, vfsNode]
  exact ⟨h1, h2, Le.refl _⟩

theorem pc101 (k : Kern) (f : File) : PC Tryz.prog 101 [.agg [.sl 1 (k.mem.ram.text.map encS), .sl 1 (k.mem.ram.refs.map encI), .sl 1 (k.mem.swap.text.map encS), .sl 1 (k.mem.swap.refs.map encI), .sl 3 (k.mem.spaces.map Space.enc), .int .i64 k.mem.hand, .sl 1 (k.vfs.fss.map Fs.enc), .int .i64 k.vfs.mount, .sl 8 (k.files.map File.enc), .sl 3 (k.pipes.map Pipe.enc), .sl 14 (k.procs.map Proc.enc), .sl 4 (k.queue.tasks.map Task.enc), .int .i64 k.queue.floor], .agg [.int .i64 f.refs, .int .i64 f.where_.fs, .int .i64 f.where_.id, .int .i64 f.pipe, .int .i64 f.pos, .bool f.read, .bool f.write, .bool f.end_]] (.bool (fileOk k.vfs f)) := by
  refine PC.of_vc mixed (phiOf [(26, an26), (147, an147)]) Tryz.func101 (by kernel_rfl) (rfl : Tryz.f101.body = some _) Tryz.ntmps101 (by kernel_rfl) rfl (by kernel_rfl) Tryz.results101 fun hwf => ?_
  simp only [pvB, ↓pvP, pvDom, Nat.reduceAdd, Nat.reduceEqDiff, Nat.reduceLeDiff, Nat.reduceLT, Nat.reduceSub, reduceIte, reduceCtorEq, an26, pc26, an147, pc147, x_be, x_bn, bbE, eqOk81, eqOk87, eqOk197]
  refine ⟨fun h0 => ?_, fun h0 => ⟨fun h1 => ?_, fun h1 => ⟨fun h2 => ?_, fun h2 => ⟨fun h3 => ?_, fun h3 => ?_⟩⟩⟩⟩
  · simp only [fileOk, h0, q_bt]; exact ⟨by decide, Le.refl _⟩
  · simp only [fileOk, h0, h1, q_bf, q_bt]; exact Le.refl _
  · simp only [fileOk, h0, h1, h2, q_bf, q_bt]; exact Le.refl _
  · simp only [fileOk, h0, h1, h2, h3, q_bf, q_bt]; exact Le.refl _
  · simp only [fileOk, h0, h1, h2, h3, q_bf, q_bt]; exact ⟨(placeOk_in h3).1, (placeOk_in h3).2, Le.refl _⟩

end Go.Proofs.YtemoiphdjocaiaaGreat
