/-
  What the functions on processes, their tree and their files answer. Conditions: none.
-/
import Derived.Test.YtemoiphdjocaiaaGreatPvTy
import Derived.Test.YtemoiphdjocaiaaGreatPvSmall
set_option linter.all false
set_option linter.unusedSimpArgs false
set_option linter.unusedVariables false
namespace Go.Proofs.YtemoiphdjocaiaaGreat
open Go.Pv
set_option linter.unusedSimpArgs false
set_option maxRecDepth 100000
set_option maxHeartbeats 4000000

def an149 : List PV → PV
  | [.agg p] => .bool (credOk (Cred.dec p))
  | _ => .undef
def an151 : List PV → PV
  | [.agg p] => .bool (sigsOk (Sigs.dec p))
  | _ => .undef
def procAt (p : Kern) (i : Int) : Proc := p.procs.getD i.toNat default
def procOut (x : Proc) (n : Nat) : Bool := procBare x && decide (x.parent = 0) && decide (x.code = 0) && decide (x.space = 0) && decide ((n : Int) > 0)
def procGone (x : Proc) (n : Nat) : Bool := procBare x && inB x.code 0 999 && decide (x.space = -1) && decide ((n : Int) > 0)
def procBad1 (p : Kern) (n : Nat) : Bool := !inB (p.procs.getD n default).parent 0 (IntKind.i64.wrap ((p.procs.length : Int) - 1)) || !aliveP (procAt p (p.procs.getD n default).parent) ||
  decide ((n : Int) = 0) && !decide ((p.procs.getD n default).parent = 0) || decide ((n : Int) > 0) && decide ((p.procs.getD n default).parent = n)
def procBad0 (p : Kern) (n : Nat) : Bool := !aliveP (p.procs.getD n default) || !decide ((p.procs.getD n default).code = 0) || !credOk (p.procs.getD n default).who || !spaceLive p.mem (p.procs.getD n default).space ||
  !decide (((p.procs.getD n default).fds.length : Int) = 5) || !sigsOk (p.procs.getD n default).sigs || !placeOk p.vfs (p.procs.getD n default).dir
def procBad2 (p : Kern) (n : Nat) : Bool := procBad0 p n || !decide ((vfsNode p.vfs (p.procs.getD n default).dir).kind = 2)
def procFd (p : Kern) (n j : Nat) : Bool := !(!inB ((p.procs.getD n default).fds.getD j 0) (-1) 9 || decide ((p.procs.getD n default).fds.getD j 0 ≥ 0) && decide ((p.files.getD ((p.procs.getD n default).fds.getD j 0).toNat default).refs = 0))
def procOn (x : Proc) : Bool := bif !decide (x.state = 2) then decide (x.on = -1) else (decide (x.on = -2) || inB x.on 0 2)
def procOk (p : Kern) (n : Nat) : Bool := bif decide ((p.procs.getD n default).state = 0) then procOut (p.procs.getD n default) n else bif procBad1 p n then false else
  bif decide ((p.procs.getD n default).state = 4) then procGone (p.procs.getD n default) n else bif procBad2 p n then false else (List.range 5).all (procFd p n) && procOn (p.procs.getD n default)
def an103 : List PV → PV
  | [.agg k, .int _ n] => .bool (procOk (Kern.dec k) n.toNat)
  | _ => .undef

theorem pc103 (p : Kern) (n : Nat) (hn : n < p.procs.length) (hf : p.files.length = 10) : PC Tryz.prog 103 [.agg [.sl 1 (p.mem.ram.text.map encS), .sl 1 (p.mem.ram.refs.map encI), .sl 1 (p.mem.swap.text.map encS), .sl 1 (p.mem.swap.refs.map encI), .sl 3 (p.mem.spaces.map Space.enc), .int .i64 p.mem.hand, .sl 1 (p.vfs.fss.map Fs.enc), .int .i64 p.vfs.mount, .sl 8 (p.files.map File.enc), .sl 3 (p.pipes.map Pipe.enc), .sl 14 (p.procs.map Proc.enc), .sl 4 (p.queue.tasks.map Task.enc), .int .i64 p.queue.floor], .int .i64 n] (.bool (procOk p n)) := by
  refine PC.of_vc mixed (phiOf [(26, an26), (58, an58), (147, an147), (148, an148), (149, an149), (150, an150), (151, an151)]) Tryz.func103 (by kernel_rfl) (rfl : Tryz.f103.body = some _) Tryz.ntmps103 (by kernel_rfl) rfl (by kernel_rfl) Tryz.results103 fun hwf => ?_
  simp only [pvB, ↓pvP, pvDom, simprocAttr, an26, pc26, an58, pc58, an147, pc147, an148, pc148, an149, pc149, an150, pc150, an151, pc151, x_be, x_bn, bbE, eqOk81, eqOk87, eqOk197]
  clear hwf
  refine ⟨in_of n hn, fun h0 => ?_, fun h0 => ⟨fun h => inB_bd h, fun h1 => ?_, fun h1 => ⟨fun h2 => ?_, fun h2 => ⟨fun h => ?_, fun h => ?_, fun h3 => ?_, fun h3 => ?_⟩⟩⟩⟩
  · rw [procOk, bif_t h0]; exact Le.refl _
  · rw [procOk, bif_f h0, bif_t (show procBad1 p n = true from h1)]; exact Le.refl _
  · rw [procOk, bif_f h0, bif_f (show procBad1 p n = false from h1), bif_t h2]; exact Le.refl _
  · exact (placeOk_in (by simp only [Bool.not_eq_true', Bool.or_eq_false_iff] at h; exact h.2)).1
  · exact (placeOk_in (by simp only [Bool.not_eq_true', Bool.or_eq_false_iff] at h; exact h.2)).2
  · rw [procOk, bif_f h0, bif_f (show procBad1 p n = false from h1), bif_f h2, bif_t (show procBad2 p n = true from h3)]; exact Le.refl _
  have hl : (p.procs.getD n default).fds.length = 5 := by
    simp only [Bool.or_eq_false_iff, Bool.not_eq_false', decide_eq_true_eq] at h3
    omega
  rw [procOk, bif_f h0, bif_f (show procBad1 p n = false from h1), bif_f h2, bif_f (show procBad2 p n = false from h3)]
  refine .inl ⟨[2, 5, 6], fun _ => 3, fun k vs H => ∃ i : Nat, i ≤ 5 ∧ k = 5 - i ∧ vs = [.ptr 0 13 0 0, .ptr 1 14 0 0, .int .i64 i] ∧ H = [.rows 57 13 [[.sl 1 (p.mem.ram.text.map encS), .sl 1 (p.mem.ram.refs.map encI), .sl 1 (p.mem.swap.text.map encS), .sl 1 (p.mem.swap.refs.map encI), .sl 3 (p.mem.spaces.map Space.enc), .int .i64 p.mem.hand, .sl 1 (p.vfs.fss.map Fs.enc), .int .i64 p.vfs.mount, .sl 8 (p.files.map File.enc), .sl 3 (p.pipes.map Pipe.enc), .sl 14 (p.procs.map Proc.enc), .sl 4 (p.queue.tasks.map Task.enc), .int .i64 p.queue.floor]], .rows 83 14 [[.int .i64 (p.procs.getD n default).state, .int .i64 (p.procs.getD n default).parent, .int .i64 (p.procs.getD n default).code, .int .i64 (p.procs.getD n default).who.user, .int .i64 (p.procs.getD n default).who.real, .sl 1 ((p.procs.getD n default).who.groups.map encI), .int .i64 (p.procs.getD n default).space, .sl 1 ((p.procs.getD n default).fds.map encI), .sl 1 ((p.procs.getD n default).sigs.here.map encB), .sl 1 ((p.procs.getD n default).sigs.block.map encB), .sl 1 ((p.procs.getD n default).sigs.does.map encI), .int .i64 (p.procs.getD n default).dir.fs, .int .i64 (p.procs.getD n default).dir.id, .int .i64 (p.procs.getD n default).on]]] ∧ ∀ j, j < i → procFd p n j = true, fun _ => Nat.zero_le _, ?_, ?_⟩
  · simp only [pvB, ↓pvP, pvDom, simprocAttr]
    exact ⟨_, 0, Nat.zero_le _, rfl, rfl, fun j hj => absurd hj (Nat.not_lt_zero j)⟩
  · rintro k vs H - ⟨i, hi, rfl, rfl, rfl, hP⟩
    simp only [pvB, ↓pvP, pvDom, simprocAttr, an26, pc26, an58, pc58, an147, pc147, an148, pc148, an149, pc149, an150, pc150, an151, pc151, x_be, x_bn, bbE, eqOk81, eqOk87, eqOk197]
    have hi2 : i ≤ 140737488355328 := by omega
    refine ⟨fun h4 => ?_, fun h4 => ?_⟩
    · have h4 : i < 5 := by have := of_decide_eq_true h4; omega
      refine ⟨in_of i (by omega), fun _ => in_of i (by omega), fun _ => in_of i (by omega), fun h => ?_, fun h => all_bad h4 (congrArg not h), fun h => ⟨_, by omega, i + 1, by omega, rfl, by rw [w_add hi2], all_next hP (congrArg not h)⟩⟩
      simp only [Bool.and_eq_true, decide_eq_true_eq, inB] at h
      omega
    · obtain rfl : i = 5 := by have := of_decide_eq_false h4; omega
      have e : (List.range 5).all (procFd p n) = true := List.all_eq_true.2 fun j hj => hP j (List.mem_range.1 hj)
      rw [e, Bool.true_and, procOn]
      exact ⟨fun h => by rw [bif_t h]; exact Le.refl _, fun h => by rw [bif_f h]; exact Le.refl _⟩

end Go.Proofs.YtemoiphdjocaiaaGreat

namespace Go.Proofs.YtemoiphdjocaiaaGreat
open Go.Pv
set_option linter.unusedSimpArgs false
set_option maxRecDepth 100000
set_option maxHeartbeats 4000000

theorem d5 {i : Nat} {n : Nat} (h : decide ((i : Int) < (n : Int)) = true) : i < n := dlt h
def upR (p : Kern) (_ : Nat) (a : Int) : Int := (procAt p a).parent
def upW (p : Kern) (i : Nat) : Int := itr (upR p) (bif !decide ((p.procs.getD i default).state = 0) then p.procs.length else 0) i
def treeAt (p : Kern) (i : Nat) : Bool := !(!decide (upW p i = 0) && !decide ((p.procs.getD i default).state = 0))
def treeOk (p : Kern) : Bool := (List.range p.procs.length).all (treeAt p) && true
def an104 : List PV → PV
  | [.agg k] => .bool (treeOk (Kern.dec k))
  | _ => .undef
theorem upW_in {p : Kern} (hpar : ∀ i, i < p.procs.length → 0 ≤ (p.procs.getD i default).parent ∧ (p.procs.getD i default).parent < (p.procs.length : Int)) {i : Nat} (hi : i < p.procs.length) : ∀ n, 0 ≤ itr (upR p) n i ∧ itr (upR p) n i < (p.procs.length : Int)
  | 0 => by simp only [itr]; omega
  | n + 1 => by
    have ih := upW_in hpar hi n
    simp only [itr, upR, procAt]
    exact hpar _ (by omega)
/-- Up to process 0, by processes that are alive. -/
def chainI (p : Kern) : Nat → Int → Bool
  | 0, a => decide (a = 0)
  | f + 1, a => decide (a = 0) || (inB (p.procs.getD a.toNat default).parent 0 4 && aliveP (p.procs.getD (p.procs.getD a.toNat default).parent.toNat default) && chainI p f (p.procs.getD a.toNat default).parent)
theorem chain0 (p : Kern) (n : Nat) : chainI p n 0 = true := by cases n <;> simp [chainI]
theorem chain_bad {p : Kern} {n : Nat} {a : Int} (hn : n ≤ 6) (ha : (!decide (a = 0)) = true) (h : (decide ((n : Int) > 5) || !inB (p.procs.getD a.toNat default).parent 0 4 || !aliveP (p.procs.getD (p.procs.getD a.toNat default).parent.toNat default)) = true) : chainI p (6 - n) a = false := by
  have ha : decide (a = 0) = false := by simpa using ha
  rcases Nat.lt_or_ge n 6 with h6 | h6
  · obtain ⟨f, hf⟩ : ∃ f, 6 - n = f + 1 := ⟨5 - n, by omega⟩
    rw [hf, chainI, ha, Bool.false_or]
    have h5 : decide ((n : Int) > 5) = false := decide_eq_false (by omega)
    rw [h5, Bool.false_or] at h
    cases h1 : inB (p.procs.getD a.toNat default).parent 0 4 with
    | false => rfl
    | true =>
      rw [h1, Bool.not_true, Bool.false_or] at h
      rw [nb_t h]; rfl
  · have : 6 - n = 0 := by omega
    rw [this, chainI, ha]
theorem chain_next {p : Kern} {n : Nat} {a : Int} (ha : (!decide (a = 0)) = true) (h : (decide ((n : Int) > 5) || !inB (p.procs.getD a.toNat default).parent 0 4 || !aliveP (p.procs.getD (p.procs.getD a.toNat default).parent.toNat default)) = false) :
    n + 1 ≤ 6 ∧ (0 ≤ (p.procs.getD a.toNat default).parent ∧ (p.procs.getD a.toNat default).parent < 5) ∧ chainI p (6 - n) a = chainI p (6 - (n + 1)) (p.procs.getD a.toNat default).parent := by
  have ha : decide (a = 0) = false := by simpa using ha
  simp only [Bool.or_eq_false_iff, Bool.not_eq_false', decide_eq_false_iff_not] at h
  obtain ⟨⟨h1, h2⟩, h3⟩ := h
  have hb := h2
  simp only [inB, Bool.and_eq_true, decide_eq_true_eq] at hb
  refine ⟨by omega, by omega, ?_⟩
  obtain ⟨f, hf⟩ : ∃ f, 6 - n = f + 1 := ⟨5 - n, by omega⟩
  rw [hf, chainI, ha, h2, h3, show 6 - (n + 1) = f by omega]
  rfl
def parAt (p : Kern) (i : Nat) : Bool := decide ((p.procs.getD i default).state = 0) || chainI p 6 i
def parentsOk (p : Kern) : Bool := (List.range p.procs.length).all (parAt p) && (aliveP (p.procs.getD 0 default) && decide ((p.procs.getD 0 default).parent = 0))
def an70 : List PV → PV
  | [.agg k] => .bool (parentsOk (Kern.dec k))
  | _ => .undef
theorem or_t {a b : Bool} (h : a = true) : (a || b) = true := by subst h; rfl
theorem or_f {a b : Bool} (h : a = false) : (a || b) = b := by subst h; rfl

theorem pc104 (p : Kern) (hp : p.procs.length = 5) (hpar : ∀ i, i < p.procs.length → 0 ≤ (p.procs.getD i default).parent ∧ (p.procs.getD i default).parent < (p.procs.length : Int)) : PC Tryz.prog 104 [.agg [.sl 1 (p.mem.ram.text.map encS), .sl 1 (p.mem.ram.refs.map encI), .sl 1 (p.mem.swap.text.map encS), .sl 1 (p.mem.swap.refs.map encI), .sl 3 (p.mem.spaces.map Space.enc), .int .i64 p.mem.hand, .sl 1 (p.vfs.fss.map Fs.enc), .int .i64 p.vfs.mount, .sl 8 (p.files.map File.enc), .sl 3 (p.pipes.map Pipe.enc), .sl 14 (p.procs.map Proc.enc), .sl 4 (p.queue.tasks.map Task.enc), .int .i64 p.queue.floor]] (.bool (treeOk p)) := by
  refine PC.of_vc mixed (phiOf []) Tryz.func104 (by kernel_rfl) (rfl : Tryz.f104.body = some _) Tryz.ntmps104 (by kernel_rfl) rfl (by kernel_rfl) Tryz.results104 fun hwf => ?_
  simp only [pvB, ↓pvP, pvDom, simprocAttr]
  clear hwf
  refine .inl ⟨[1, 3], fun _ => 1, fun k vs H => ∃ i : Nat, i ≤ p.procs.length ∧ k = p.procs.length - i ∧ vs = [.ptr 0 13 0 0, .int .i64 i] ∧ H = [.rows 57 13 [[.sl 1 (p.mem.ram.text.map encS), .sl 1 (p.mem.ram.refs.map encI), .sl 1 (p.mem.swap.text.map encS), .sl 1 (p.mem.swap.refs.map encI), .sl 3 (p.mem.spaces.map Space.enc), .int .i64 p.mem.hand, .sl 1 (p.vfs.fss.map Fs.enc), .int .i64 p.vfs.mount, .sl 8 (p.files.map File.enc), .sl 3 (p.pipes.map Pipe.enc), .sl 14 (p.procs.map Proc.enc), .sl 4 (p.queue.tasks.map Task.enc), .int .i64 p.queue.floor]]] ∧ ∀ j, j < i → treeAt p j = true, fun _ => Nat.zero_le _, ?_, ?_⟩
  · simp only [pvB, ↓pvP, pvDom, simprocAttr]
    exact ⟨_, 0, Nat.zero_le _, rfl, rfl, fun j hj => absurd hj (Nat.not_lt_zero j)⟩
  · rintro k vs H - ⟨i, hi, rfl, rfl, rfl, hP⟩
    simp only [pvB, ↓pvP, pvDom, simprocAttr]
    have hi2 : i ≤ 140737488355328 := by omega
    refine ⟨fun h1 => ?_, fun h1 => ?_⟩
    · have h1 := dlt h1
      refine .inl ⟨[1, 3, 4, 5], fun _ => 1, fun k vs H => ∃ n : Nat, n ≤ p.procs.length ∧ (decide ((p.procs.getD i default).state = 0) = true → n = 0) ∧ k = p.procs.length - n ∧ vs = [.ptr 0 13 0 0, .int .i64 i, .int .i64 (itr (upR p) n i), .int .i64 n] ∧ H = [.rows 57 13 [[.sl 1 (p.mem.ram.text.map encS), .sl 1 (p.mem.ram.refs.map encI), .sl 1 (p.mem.swap.text.map encS), .sl 1 (p.mem.swap.refs.map encI), .sl 3 (p.mem.spaces.map Space.enc), .int .i64 p.mem.hand, .sl 1 (p.vfs.fss.map Fs.enc), .int .i64 p.vfs.mount, .sl 8 (p.files.map File.enc), .sl 3 (p.pipes.map Pipe.enc), .sl 14 (p.procs.map Proc.enc), .sl 4 (p.queue.tasks.map Task.enc), .int .i64 p.queue.floor]]], fun _ => Nat.zero_le _, ?_, ?_⟩
      · simp only [pvB, ↓pvP, pvDom, simprocAttr]
        exact ⟨_, 0, Nat.zero_le _, fun _ => rfl, rfl, rfl⟩
      · rintro k vs H - ⟨n, hn, hz, rfl, rfl, rfl⟩
        simp only [pvB, ↓pvP, pvDom, simprocAttr]
        have hu := upW_in hpar h1 n
        refine ⟨fun _ => in_of i h1, fun h2 => ?_, fun h2 => ?_⟩
        · simp only [Bool.and_eq_true, Bool.not_eq_true', decide_eq_true_eq, decide_eq_false_iff_not] at h2
          refine ⟨hu, _, by omega, n + 1, by omega, fun h => ?_, rfl, by rw [w_add (by omega)]; rfl⟩
          exact absurd (of_decide_eq_true h) (by first | exact h2.1 | exact h2.2)
        · have e : itr (upR p) n i = upW p i := by
            unfold upW
            cases hs : decide ((p.procs.getD i default).state = 0) with
            | true => rw [hz hs]; rfl
            | false =>
              have : n = p.procs.length := by
                simp only [hs, Bool.not_false, Bool.true_and, Bool.and_true] at h2
                exact dge h2 hn
              rw [this]; rfl
          rw [e]
          exact ⟨fun _ => in_of i h1, fun h => all_bad h1 (congrArg not h), fun h => ⟨_, by omega, i + 1, h1, rfl, by rw [w_add hi2], all_next hP (congrArg not h)⟩⟩
    · obtain rfl := dge h1 hi
      exact all_end hP

theorem pc70 (p : Kern) (hp : p.procs.length = 5) : PC Tryz.prog 70 [.agg [.sl 1 (p.mem.ram.text.map encS), .sl 1 (p.mem.ram.refs.map encI), .sl 1 (p.mem.swap.text.map encS), .sl 1 (p.mem.swap.refs.map encI), .sl 3 (p.mem.spaces.map Space.enc), .int .i64 p.mem.hand, .sl 1 (p.vfs.fss.map Fs.enc), .int .i64 p.vfs.mount, .sl 8 (p.files.map File.enc), .sl 3 (p.pipes.map Pipe.enc), .sl 14 (p.procs.map Proc.enc), .sl 4 (p.queue.tasks.map Task.enc), .int .i64 p.queue.floor]] (.bool (parentsOk p)) := by
  refine PC.of_vc mixed (phiOf [(35, an35), (36, an36)]) Tryz.func70 (by kernel_rfl) (rfl : Tryz.f70.body = some _) Tryz.ntmps70 (by kernel_rfl) rfl (by kernel_rfl) Tryz.results70 fun hwf => ?_
  simp only [pvB, ↓pvP, pvDom, simprocAttr, an35, pc35, an36, pc36]
  clear hwf
  refine .inl ⟨[1, 9, 10, 11], fun _ => 1, fun k vs H => ∃ i : Nat, i ≤ p.procs.length ∧ k = p.procs.length - i ∧ vs = [.ptr 0 13 0 0, .sl 14 (p.procs.map Proc.enc), .int .i64 p.procs.length, .int .i64 i] ∧ H = [.rows 57 13 [[.sl 1 (p.mem.ram.text.map encS), .sl 1 (p.mem.ram.refs.map encI), .sl 1 (p.mem.swap.text.map encS), .sl 1 (p.mem.swap.refs.map encI), .sl 3 (p.mem.spaces.map Space.enc), .int .i64 p.mem.hand, .sl 1 (p.vfs.fss.map Fs.enc), .int .i64 p.vfs.mount, .sl 8 (p.files.map File.enc), .sl 3 (p.pipes.map Pipe.enc), .sl 14 (p.procs.map Proc.enc), .sl 4 (p.queue.tasks.map Task.enc), .int .i64 p.queue.floor]]] ∧ ∀ j, j < i → parAt p j = true, fun _ => Nat.zero_le _, ?_, ?_⟩
  · simp only [pvB, ↓pvP, pvDom, simprocAttr]
    exact ⟨_, 0, Nat.zero_le _, rfl, rfl, fun j hj => absurd hj (Nat.not_lt_zero j)⟩
  · rintro k vs H - ⟨i, hi, rfl, rfl, rfl, hP⟩
    simp only [pvB, ↓pvP, pvDom, simprocAttr, an35, pc35, an36, pc36]
    have hi2 : i ≤ 140737488355328 := by omega
    refine ⟨fun h1 => ?_, fun h1 => ?_⟩
    · have h1 := dlt h1
      refine ⟨in_of i h1, fun h2 => ?_, fun h2 => ?_⟩
      · exact ⟨_, by omega, i + 1, h1, rfl, by rw [w_add hi2], all_next hP (or_t h2)⟩
      · refine .inl ⟨[1, 9, 10, 11, 5, 6], fun _ => 1, fun k vs H => ∃ (n : Nat) (a : Int), n ≤ 6 ∧ 0 ≤ a ∧ a < 5 ∧ chainI p 6 i = chainI p (6 - n) a ∧ k = 7 - n ∧ vs = [.ptr 0 13 0 0, .sl 14 (p.procs.map Proc.enc), .int .i64 p.procs.length, .int .i64 i, .int .i64 a, .int .i64 n] ∧ H = [.rows 57 13 [[.sl 1 (p.mem.ram.text.map encS), .sl 1 (p.mem.ram.refs.map encI), .sl 1 (p.mem.swap.text.map encS), .sl 1 (p.mem.swap.refs.map encI), .sl 3 (p.mem.spaces.map Space.enc), .int .i64 p.mem.hand, .sl 1 (p.vfs.fss.map Fs.enc), .int .i64 p.vfs.mount, .sl 8 (p.files.map File.enc), .sl 3 (p.pipes.map Pipe.enc), .sl 14 (p.procs.map Proc.enc), .sl 4 (p.queue.tasks.map Task.enc), .int .i64 p.queue.floor]]], fun _ => Nat.zero_le _, ?_, ?_⟩
        · simp only [pvB, ↓pvP, pvDom, simprocAttr]
          exact ⟨_, 0, i, by omega, by omega, by omega, rfl, rfl, rfl⟩
        · rintro k vs H - ⟨n, a, hn, ha0, ha1, hc, rfl, rfl, rfl⟩
          simp only [pvB, ↓pvP, pvDom, simprocAttr, an35, pc35, an36, pc36]
          refine ⟨fun h3 => ⟨by omega, fun h => ?_, fun h => ?_, fun h => ?_⟩, fun h3 => ?_⟩
          · simp only [Bool.not_eq_true', Bool.or_eq_false_iff, Bool.not_eq_false', inB, Bool.and_eq_true, decide_eq_true_eq] at h
            omega
          · exact all_bad h1 ((or_f h2).trans (hc.trans (chain_bad hn h3 h)))
          · obtain ⟨c1, c2, c3⟩ := chain_next h3 h
            exact ⟨_, by omega, n + 1, _, c1, c2.1, c2.2, hc.trans c3, rfl, by rw [w_add (by omega)]⟩
          · have ha : a = 0 := by simpa using h3
            have : chainI p 6 i = true := by rw [hc, ha, chain0]
            exact ⟨_, by omega, i + 1, h1, rfl, by rw [w_add hi2], all_next hP ((or_f h2).trans this)⟩
    · obtain rfl := dge h1 hi
      exact ⟨by omega, fun _ => by omega, all_end hP⟩

end Go.Proofs.YtemoiphdjocaiaaGreat

namespace Go.Proofs.YtemoiphdjocaiaaGreat
open Go.Pv
set_option linter.unusedSimpArgs false
set_option maxRecDepth 100000
set_option maxHeartbeats 4000000

def fdsR (p : Kern) (i j : Nat) (l : List Int) : List Int := bif decide ((p.procs.getD i default).fds.getD j 0 ≥ 0) then inc l ((p.procs.getD i default).fds.getD j 0) else l
def fdsF (p : Kern) (i : Nat) (l : List Int) : List Int := itr (fdsR p i) (p.procs.getD i default).fds.length l
def fdsL (p : Kern) : List Int := itr (fdsF p) p.procs.length (List.replicate 10 0)
def fdsAt (p : Kern) (i : Nat) : Bool := !!decide ((fdsL p).getD i 0 = (p.files.getD i default).refs)
def fdsOk (p : Kern) : Bool := (List.range 10).all (fdsAt p) && true
def an105 : List PV → PV
  | [.agg k] => .bool (fdsOk (Kern.dec k))
  | _ => .undef

theorem pc105 (p : Kern) (hp : p.procs.length = 5) (hf : p.files.length = 10) (hl : ∀ i, i < p.procs.length → (p.procs.getD i default).fds.length ≤ 5) (hd : ∀ i j, i < p.procs.length → j < (p.procs.getD i default).fds.length → (p.procs.getD i default).fds.getD j 0 < 10) : PC Tryz.prog 105 [.agg [.sl 1 (p.mem.ram.text.map encS), .sl 1 (p.mem.ram.refs.map encI), .sl 1 (p.mem.swap.text.map encS), .sl 1 (p.mem.swap.refs.map encI), .sl 3 (p.mem.spaces.map Space.enc), .int .i64 p.mem.hand, .sl 1 (p.vfs.fss.map Fs.enc), .int .i64 p.vfs.mount, .sl 8 (p.files.map File.enc), .sl 3 (p.pipes.map Pipe.enc), .sl 14 (p.procs.map Proc.enc), .sl 4 (p.queue.tasks.map Task.enc), .int .i64 p.queue.floor]] (.bool (fdsOk p)) := by
  refine PC.of_vc mixed (phiOf []) Tryz.func105 (by kernel_rfl) (rfl : Tryz.f105.body = some _) Tryz.ntmps105 (by kernel_rfl) rfl (by kernel_rfl) Tryz.results105 fun hwf => ?_
  simp only [pvB, ↓pvP, pvDom, pvRr, Nat.reduceAdd, Nat.reduceEqDiff, Nat.reduceLeDiff, Nat.reduceLT, Nat.reduceSub, reduceIte, reduceCtorEq, pvI, Int.reduceToNat, Int.reduceLE, Int.reduceLT, Int.reduceMul, Int.reduceAdd]
  clear hwf
  refine .inl ⟨[1, 3, 4], fun _ => 2, fun k vs H => ∃ (i : Nat) (l : List Int), i ≤ p.procs.length ∧ k = p.procs.length - i ∧ vs = [.ptr 0 13 0 0, .own 1 1 0 10, .int .i64 i] ∧ H = [.rows 57 13 [[.sl 1 (p.mem.ram.text.map encS), .sl 1 (p.mem.ram.refs.map encI), .sl 1 (p.mem.swap.text.map encS), .sl 1 (p.mem.swap.refs.map encI), .sl 3 (p.mem.spaces.map Space.enc), .int .i64 p.mem.hand, .sl 1 (p.vfs.fss.map Fs.enc), .int .i64 p.vfs.mount, .sl 8 (p.files.map File.enc), .sl 3 (p.pipes.map Pipe.enc), .sl 14 (p.procs.map Proc.enc), .sl 4 (p.queue.tasks.map Task.enc), .int .i64 p.queue.floor]], .rows 3 1 (l.map encI)] ∧ l = (itr (fdsF p) i (List.replicate 10 0)) ∧ l.length = 10, fun _ => Nat.zero_le _, ?_, ?_⟩
  · simp only [pvB, ↓pvP, pvDom, pvRr, Nat.reduceAdd, Nat.reduceEqDiff, Nat.reduceLeDiff, Nat.reduceLT, Nat.reduceSub, reduceIte, reduceCtorEq, pvI, Int.reduceToNat, Int.reduceLE, Int.reduceLT, Int.reduceMul, Int.reduceAdd]
    exact ⟨_, 0, _, Nat.zero_le _, rfl, rfl, rfl, rfl, by simp⟩
  · rintro k vs H - ⟨i, l, hi, rfl, rfl, rfl, hll, hlen⟩
    simp only [pvB, ↓pvP, pvDom, pvRr, Nat.reduceAdd, Nat.reduceEqDiff, Nat.reduceLeDiff, Nat.reduceLT, Nat.reduceSub, reduceIte, reduceCtorEq, pvI, Int.reduceToNat, Int.reduceLE, Int.reduceLT, Int.reduceMul, Int.reduceAdd]
    refine ⟨fun h1 => ?_, fun h1 => ?_⟩
    · have h1 := dlt h1
      have h5 := hl i h1
      refine .inl ⟨[1, 3, 4, 5], fun _ => 2, fun k vs H => ∃ (j : Nat) (l' : List Int), j ≤ (p.procs.getD i default).fds.length ∧ k = (p.procs.getD i default).fds.length - j ∧ vs = [.ptr 0 13 0 0, .own 1 1 0 10, .int .i64 i, .int .i64 j] ∧ H = [.rows 57 13 [[.sl 1 (p.mem.ram.text.map encS), .sl 1 (p.mem.ram.refs.map encI), .sl 1 (p.mem.swap.text.map encS), .sl 1 (p.mem.swap.refs.map encI), .sl 3 (p.mem.spaces.map Space.enc), .int .i64 p.mem.hand, .sl 1 (p.vfs.fss.map Fs.enc), .int .i64 p.vfs.mount, .sl 8 (p.files.map File.enc), .sl 3 (p.pipes.map Pipe.enc), .sl 14 (p.procs.map Proc.enc), .sl 4 (p.queue.tasks.map Task.enc), .int .i64 p.queue.floor]], .rows 3 1 (l'.map encI)] ∧ l' = itr (fdsR p i) j l ∧ l'.length = 10, fun _ => Nat.zero_le _, ?_, ?_⟩
      · simp only [pvB, ↓pvP, pvDom, pvRr, Nat.reduceAdd, Nat.reduceEqDiff, Nat.reduceLeDiff, Nat.reduceLT, Nat.reduceSub, reduceIte, reduceCtorEq, pvI, Int.reduceToNat, Int.reduceLE, Int.reduceLT, Int.reduceMul, Int.reduceAdd]
        exact ⟨_, 0, _, Nat.zero_le _, rfl, rfl, rfl, rfl, hlen⟩
      · rintro k vs H - ⟨j, l', hj, rfl, rfl, rfl, hl', hlen'⟩
        simp only [pvB, ↓pvP, pvDom, pvRr, Nat.reduceAdd, Nat.reduceEqDiff, Nat.reduceLeDiff, Nat.reduceLT, Nat.reduceSub, reduceIte, reduceCtorEq, pvI, Int.reduceToNat, Int.reduceLE, Int.reduceLT, Int.reduceMul, Int.reduceAdd]
        refine ⟨in_of i h1, fun h2 => ?_, fun h2 => ?_⟩
        · have h2 := dlt h2
          have hr := hd i j h1 h2
          refine ⟨in_of i h1, in_of j h2, fun h3 => ?_, fun h3 => ?_⟩
          · have h30 := of_decide_eq_true h3
            have hb : (0 ≤ (p.procs.getD i default).fds.getD j 0 ∧ (p.procs.getD i default).fds.getD j 0 < ((10 : Nat) : Int)) := ⟨h30, hr⟩
            have hb2 : ((p.procs.getD i default).fds.getD j 0).toNat < l'.length := by omega
            exact ⟨in_of i h1, in_of j h2, in_of i h1, in_of j h2, hb, hb2, hb, hb2, _, by omega, j + 1, _, h2, rfl, by rw [w_add (by omega)], rfl, by rw [hl']; exact (bif_tI h3).symm, by rw [inc_len']; exact hlen'⟩
          · exact ⟨_, by omega, j + 1, _, h2, rfl, by rw [w_add (by omega)], rfl, by rw [hl']; exact (bif_fI h3).symm, hlen'⟩
        · obtain rfl := dge h2 hj
          exact ⟨_, by omega, i + 1, _, h1, rfl, by rw [w_add (by omega)], rfl, by rw [hl', hll]; rfl, hlen'⟩
    · obtain rfl := dge h1 hi
      refine .inl ⟨[1, 3, 6], fun _ => 2, fun k vs H => ∃ (i : Nat), i ≤ 10 ∧ k = 10 - i ∧ vs = [.ptr 0 13 0 0, .own 1 1 0 10, .int .i64 i] ∧ H = [.rows 57 13 [[.sl 1 (p.mem.ram.text.map encS), .sl 1 (p.mem.ram.refs.map encI), .sl 1 (p.mem.swap.text.map encS), .sl 1 (p.mem.swap.refs.map encI), .sl 3 (p.mem.spaces.map Space.enc), .int .i64 p.mem.hand, .sl 1 (p.vfs.fss.map Fs.enc), .int .i64 p.vfs.mount, .sl 8 (p.files.map File.enc), .sl 3 (p.pipes.map Pipe.enc), .sl 14 (p.procs.map Proc.enc), .sl 4 (p.queue.tasks.map Task.enc), .int .i64 p.queue.floor]], .rows 3 1 (l.map encI)] ∧ ∀ j, j < i → fdsAt p j = true, fun _ => Nat.zero_le _, ?_, ?_⟩
      · simp only [pvB, ↓pvP, pvDom, pvRr, Nat.reduceAdd, Nat.reduceEqDiff, Nat.reduceLeDiff, Nat.reduceLT, Nat.reduceSub, reduceIte, reduceCtorEq, pvI, Int.reduceToNat, Int.reduceLE, Int.reduceLT, Int.reduceMul, Int.reduceAdd]
        exact ⟨_, 0, Nat.zero_le _, rfl, rfl, fun j hj => absurd hj (Nat.not_lt_zero j)⟩
      · rintro k vs H - ⟨j, hj, rfl, rfl, rfl, hP⟩
        simp only [pvB, ↓pvP, pvDom, pvRr, Nat.reduceAdd, Nat.reduceEqDiff, Nat.reduceLeDiff, Nat.reduceLT, Nat.reduceSub, reduceIte, reduceCtorEq, pvI, Int.reduceToNat, Int.reduceLE, Int.reduceLT, Int.reduceMul, Int.reduceAdd]
        refine ⟨fun h2 => ?_, fun h2 => ?_⟩
        · have h2 : j < 10 := by have := of_decide_eq_true h2; omega
          have e : l = fdsL p := hll
          subst e
          exact ⟨⟨by omega, by show (j : Int) < ((10 : Nat) : Int); omega⟩, by omega, in_of j (by omega), fun h => all_bad h2 (congrArg not h), fun h => ⟨_, by omega, j + 1, h2, rfl, by rw [w_add (by omega)], all_next hP (congrArg not h)⟩⟩
        · obtain rfl : j = 10 := by have := of_decide_eq_false h2; omega
          exact all_end hP

def spN (p : Kern) (i : Nat) (n : Int) : Int := bif !aliveP (p.procs.getD i default) then n else IntKind.i64.wrap (n + 1)
def spO (p : Kern) (i : Nat) (l : List Int) : List Int := bif !aliveP (p.procs.getD i default) then l else inc l (p.procs.getD i default).space
def spAt (p : Kern) (i : Nat) : Bool := bif !aliveP (p.procs.getD i default) then true else !(decide (taskAt p.queue.tasks i < 0) || !((p.queue.tasks.getD (taskAt p.queue.tasks i).toNat default).ready == decide ((p.procs.getD i default).state = 1)))
def spL (p : Kern) : List Int := itr (spO p) p.procs.length (List.replicate 5 0)
def spQ (p : Kern) (i : Nat) : Bool := !(!((p.mem.spaces.getD i default).live == decide ((spL p).getD i 0 = 1)) || decide ((spL p).getD i 0 > 1))
def spacesOk (p : Kern) : Bool := (List.range p.procs.length).all (spAt p) && ((List.range 5).all (spQ p) && decide (itr (spN p) p.procs.length 0 = p.queue.tasks.length))
def an107 : List PV → PV
  | [.agg k] => .bool (spacesOk (Kern.dec k))
  | _ => .undef

theorem pc107 (p : Kern) (hp : p.procs.length = 5) (hs : p.mem.spaces.length = 5) (hl : ∀ i, i < p.procs.length → aliveP (p.procs.getD i default) = true → 0 ≤ (p.procs.getD i default).space ∧ (p.procs.getD i default).space < 5) : PC Tryz.prog 107 [.agg [.sl 1 (p.mem.ram.text.map encS), .sl 1 (p.mem.ram.refs.map encI), .sl 1 (p.mem.swap.text.map encS), .sl 1 (p.mem.swap.refs.map encI), .sl 3 (p.mem.spaces.map Space.enc), .int .i64 p.mem.hand, .sl 1 (p.vfs.fss.map Fs.enc), .int .i64 p.vfs.mount, .sl 8 (p.files.map File.enc), .sl 3 (p.pipes.map Pipe.enc), .sl 14 (p.procs.map Proc.enc), .sl 4 (p.queue.tasks.map Task.enc), .int .i64 p.queue.floor]] (.bool (spacesOk p)) := by
  refine PC.of_vc mixed (phiOf [(58, an58), (152, an152)]) Tryz.func107 (by kernel_rfl) (rfl : Tryz.f107.body = some _) Tryz.ntmps107 (by kernel_rfl) rfl (by kernel_rfl) Tryz.results107 fun hwf => ?_
  simp only [pvB, ↓pvP, pvDom, pvRr, Nat.reduceAdd, Nat.reduceEqDiff, Nat.reduceLeDiff, Nat.reduceLT, Nat.reduceSub, reduceIte, reduceCtorEq, an58, pc58, an152, pc152, pvI, Int.reduceToNat, Int.reduceLE, Int.reduceLT, Int.reduceMul, Int.reduceAdd]
  clear hwf
  refine .inl ⟨[1, 3, 4, 5], fun _ => 2, fun k vs H => ∃ (i : Nat) (l : List Int), i ≤ p.procs.length ∧ k = p.procs.length - i ∧ vs = [.ptr 0 13 0 0, .own 1 1 0 5, .int .i64 (itr (spN p) i 0), .int .i64 i] ∧ H = [.rows 57 13 [[.sl 1 (p.mem.ram.text.map encS), .sl 1 (p.mem.ram.refs.map encI), .sl 1 (p.mem.swap.text.map encS), .sl 1 (p.mem.swap.refs.map encI), .sl 3 (p.mem.spaces.map Space.enc), .int .i64 p.mem.hand, .sl 1 (p.vfs.fss.map Fs.enc), .int .i64 p.vfs.mount, .sl 8 (p.files.map File.enc), .sl 3 (p.pipes.map Pipe.enc), .sl 14 (p.procs.map Proc.enc), .sl 4 (p.queue.tasks.map Task.enc), .int .i64 p.queue.floor]], .rows 3 1 (l.map encI)] ∧ l = itr (spO p) i (List.replicate 5 0) ∧ l.length = 5 ∧ ∀ j, j < i → spAt p j = true, fun _ => Nat.zero_le _, ?_, ?_⟩
  · simp only [pvB, ↓pvP, pvDom, pvRr, Nat.reduceAdd, Nat.reduceEqDiff, Nat.reduceLeDiff, Nat.reduceLT, Nat.reduceSub, reduceIte, reduceCtorEq, pvI, Int.reduceToNat, Int.reduceLE, Int.reduceLT, Int.reduceMul, Int.reduceAdd, x_be, x_bn, bbE, eqOk81, eqOk87, eqOk197]
    exact ⟨_, 0, _, Nat.zero_le _, rfl, rfl, rfl, rfl, by simp, fun j hj => absurd hj (Nat.not_lt_zero j)⟩
  · rintro k vs H - ⟨i, l, hi, rfl, rfl, rfl, hll, hlen, hP⟩
    simp only [pvB, ↓pvP, pvDom, pvRr, Nat.reduceAdd, Nat.reduceEqDiff, Nat.reduceLeDiff, Nat.reduceLT, Nat.reduceSub, reduceIte, reduceCtorEq, pvI, Int.reduceToNat, Int.reduceLE, Int.reduceLT, Int.reduceMul, Int.reduceAdd, x_be, x_bn, bbE, eqOk81, eqOk87, eqOk197, an58, pc58, an152, pc152]
    refine ⟨fun h1 => ?_, fun h1 => ?_⟩
    · have h1 := dlt h1
      refine ⟨in_of i h1, fun h2 => ?_, fun h2 => ?_⟩
      · exact ⟨_, by omega, i + 1, _, h1, rfl, by rw [w_add (by omega)]; simp only [itr, spN, h2, q_bt], rfl, by rw [hll]; simp only [itr, spO, h2, q_bt], hlen, all_next hP (bif_t h2)⟩
      · have hr := hl i h1 (nb_f h2)
        have hb : (0 ≤ (p.procs.getD i default).space ∧ (p.procs.getD i default).space < ((5 : Nat) : Int)) := ⟨hr.1, hr.2⟩
        have hb2 : ((p.procs.getD i default).space).toNat < l.length := by omega
        exact ⟨hb, hb2, hb, hb2, fun h => fnd_in (decide_eq_true (by have := h; simp only [Bool.not_eq_true', decide_eq_false_iff_not] at this; unfold taskAt at this; omega)), fun h => all_bad h1 ((bif_f h2).trans (congrArg not h)),
          fun h => ⟨_, by omega, i + 1, _, h1, rfl, by rw [w_add (by omega)]; simp only [itr, spN, h2, q_bf], rfl, by rw [hll]; simp only [itr, spO, h2, q_bf]; rfl, by rw [inc_len']; exact hlen, all_next hP ((bif_f h2).trans (congrArg not h))⟩⟩
    · obtain rfl := dge h1 hi
      have eA : (List.range p.procs.length).all (spAt p) = true := List.all_eq_true.2 fun j hj => hP j (List.mem_range.1 hj)
      have e : l = spL p := hll
      subst e
      rw [spacesOk, eA, Bool.true_and]
      refine .inl ⟨[1, 3, 4, 8], fun _ => 2, fun k vs H => ∃ (j : Nat), j ≤ 5 ∧ k = 5 - j ∧ vs = [.ptr 0 13 0 0, .own 1 1 0 5, .int .i64 (itr (spN p) p.procs.length 0), .int .i64 j] ∧ H = [.rows 57 13 [[.sl 1 (p.mem.ram.text.map encS), .sl 1 (p.mem.ram.refs.map encI), .sl 1 (p.mem.swap.text.map encS), .sl 1 (p.mem.swap.refs.map encI), .sl 3 (p.mem.spaces.map Space.enc), .int .i64 p.mem.hand, .sl 1 (p.vfs.fss.map Fs.enc), .int .i64 p.vfs.mount, .sl 8 (p.files.map File.enc), .sl 3 (p.pipes.map Pipe.enc), .sl 14 (p.procs.map Proc.enc), .sl 4 (p.queue.tasks.map Task.enc), .int .i64 p.queue.floor]], .rows 3 1 ((spL p).map encI)] ∧ ∀ x, x < j → spQ p x = true, fun _ => Nat.zero_le _, ?_, ?_⟩
      · simp only [pvB, ↓pvP, pvDom, pvRr, Nat.reduceAdd, Nat.reduceEqDiff, Nat.reduceLeDiff, Nat.reduceLT, Nat.reduceSub, reduceIte, reduceCtorEq, pvI, Int.reduceToNat, Int.reduceLE, Int.reduceLT, Int.reduceMul, Int.reduceAdd, x_be, x_bn, bbE, eqOk81, eqOk87, eqOk197]
        exact ⟨_, 0, Nat.zero_le _, rfl, rfl, fun j hj => absurd hj (Nat.not_lt_zero j)⟩
      · rintro k vs H - ⟨j, hj, rfl, rfl, rfl, hP⟩
        simp only [pvB, ↓pvP, pvDom, pvRr, Nat.reduceAdd, Nat.reduceEqDiff, Nat.reduceLeDiff, Nat.reduceLT, Nat.reduceSub, reduceIte, reduceCtorEq, pvI, Int.reduceToNat, Int.reduceLE, Int.reduceLT, Int.reduceMul, Int.reduceAdd, x_be, x_bn, bbE, eqOk81, eqOk87, eqOk197]
        refine ⟨fun h2 => ?_, fun h2 => ?_⟩
        · have h2 : j < 5 := by have := of_decide_eq_true h2; omega
          have hb : (0 : Int) ≤ (j : Int) ∧ (j : Int) < ((5 : Nat) : Int) := ⟨by omega, by omega⟩
          exact ⟨in_of j (by omega), hb, by omega, fun _ => hb, fun _ => by omega, fun h => all_bad h2 (congrArg not h), fun h => ⟨_, by omega, j + 1, h2, rfl, by rw [w_add (by omega)], all_next hP (congrArg not h)⟩⟩
        · obtain rfl : j = 5 := by have := of_decide_eq_false h2; omega
          exact all_end hP

end Go.Proofs.YtemoiphdjocaiaaGreat
