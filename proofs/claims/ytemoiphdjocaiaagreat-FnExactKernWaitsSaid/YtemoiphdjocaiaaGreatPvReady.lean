/-
  What KernReady answers, in both forms. Conditions: none.
-/
import Derived.Test.YtemoiphdjocaiaaGreatPvTy
import Derived.Test.YtemoiphdjocaiaaGreatPvLaws
import Derived.Test.YtemoiphdjocaiaaGreatPvMemI
set_option linter.all false
set_option linter.unusedSimpArgs false
set_option linter.unusedVariables false
namespace Go.Proofs.YtemoiphdjocaiaaGreat
open Go.Pv
set_option linter.unusedSimpArgs false
set_option maxRecDepth 100000
set_option maxHeartbeats 4000000

theorem pc34' (p : Kern) : PC Tryz.prog 34 [.agg [.sl 1 (p.mem.ram.text.map encS), .sl 1 (p.mem.ram.refs.map encI), .sl 1 (p.mem.swap.text.map encS), .sl 1 (p.mem.swap.refs.map encI), .sl 3 (p.mem.spaces.map Space.enc), .int .i64 p.mem.hand, .sl 1 (p.vfs.fss.map Fs.enc), .int .i64 p.vfs.mount, .sl 8 (p.files.map File.enc), .sl 3 (p.pipes.map Pipe.enc), .sl 14 (p.procs.map Proc.enc), .sl 4 (p.queue.tasks.map Task.enc), .int .i64 p.queue.floor]] (.bool (kernOk p)) := by
  rw [← kernOkI_eq]
  exact pc34 (fun m => pc67 m) p
def an34 : List PV → PV
  | [.agg p] => .bool (kernOk (Kern.dec p))
  | _ => .undef
theorem kern_facts {p : Kern} (h : kernOk p = true) : KBase p ∧ (∀ i, i < 5 → PL p i) ∧ ∀ i, i < 10 → FL p (p.files.getD i default) := by
  unfold kernOk at h
  simp only [Bool.and_eq_true, Bool.not_eq_true', kernBad, Bool.or_eq_false_iff, Bool.not_eq_false', decide_eq_true_eq, List.all_eq_true (l := List.range 5), List.all_eq_true (l := List.range 10), List.mem_range] at h
  obtain ⟨⟨⟨⟨⟨⟨b1, b2⟩, b3⟩, b4⟩, b5⟩, b6⟩, h1, _, h3, _⟩ := h
  have Bb := kbase_of b1 b2 (by omega) (by omega) (by omega) b6
  exact ⟨Bb, fun i hi => ((procOk_iff Bb i).1 (h3 i hi)).1, fun i hi => ((fileOk_iff Bb _).1 (h1 i hi)).1⟩
def isK (p : Kern) (n : Int) : Bool := kernOk p && inB n 0 (IntKind.i64.wrap ((p.procs.length : Int) - 1)) && aliveP (p.procs.getD n.toNat default)
def an25 : List PV → PV
  | [.agg p, .int _ n] => .bool (isK (Kern.dec p) n)
  | _ => .undef
def rdA (p : Kern) (f : File) : Bool := bif decide (f.pipe < 0) then true else (pipeTake (p.pipes.getD f.pipe.toNat default) || !f.read)
def rdB (p : Kern) (f : File) : Bool := bif decide (f.pipe < 0) then true else (pipePut (p.pipes.getD f.pipe.toNat default) || !f.write)
def an27 : List PV → PV
  | [.agg p, .agg f] => .tup [.bool (rdA (Kern.dec p) (File.dec f)), .bool (rdB (Kern.dec p) (File.dec f))]
  | _ => .undef
def fdOf (p : Kern) (n d : Int) : Int := (p.procs.getD n.toNat default).fds.getD d.toNat 0
def fiOf (p : Kern) (n d : Int) : File := p.files.getD (fdOf p n d).toNat default
def krBad (p : Kern) (n d : Int) : Bool := !isK p n || !inB d 0 4 || decide (fdOf p n d < 0)
def krP (p : Kern) (n d : Int) : PV := bif krBad p n d then .tup [.bool false, .bool false, .bool false] else .tup [.bool (rdA p (fiOf p n d)), .bool (rdB p (fiOf p n d)), .bool true]
def an7 : List PV → PV
  | [.agg p, .int _ n, .int _ d] => krP (Kern.dec p) n d
  | _ => .undef
def an9 : List PV → PV
  | [.agg p, .int _ n, .int _ d] => krP (Kern.dec p) n d
  | _ => .undef
theorem isK_in {p : Kern} {n : Int} (h : isK p n = true) : KBase p ∧ (0 ≤ n ∧ n ≤ 4) ∧ PA p n.toNat ∧ (∀ i, i < 10 → FL p (p.files.getD i default)) := by
  simp only [isK, Bool.and_eq_true] at h
  obtain ⟨⟨h1, h2⟩, h3⟩ := h
  obtain ⟨b1, b2, b3⟩ := kern_facts h1
  have h2 := inB_iff.1 h2
  rw [wlit _ 4 (by omega) (by omega) (by have := b1.procs; omega)] at h2
  exact ⟨b1, h2, PA_of (b2 n.toNat (by omega)) h3, b3⟩
theorem kr_in {p : Kern} {n d : Int} (h : krBad p n d = false) : KBase p ∧ (0 ≤ n ∧ n ≤ 4) ∧ (0 ≤ d ∧ d ≤ 4) ∧ (p.procs.getD n.toNat default).fds.length = 5 ∧ (0 ≤ fdOf p n d ∧ fdOf p n d ≤ 9) ∧ (fiOf p n d).pipe ≤ 2 := by
  simp only [krBad, Bool.or_eq_false_iff, Bool.not_eq_false', decide_eq_false_iff_not] at h
  obtain ⟨⟨h1, h2⟩, h3⟩ := h
  obtain ⟨b1, b2, b3, b4⟩ := isK_in h1
  have h2 := inB_iff.1 h2
  have hf := b3.fd d.toNat (by omega)
  have hfd : (p.procs.getD n.toNat default).fds.getD d.toNat 0 = fdOf p n d := rfl
  rw [hfd] at hf
  have hf : (0 ≤ fdOf p n d ∧ fdOf p n d ≤ 9) ∧ (p.files.getD (fdOf p n d).toNat default).refs ≠ 0 := by
    rcases hf with hf | hf
    · omega
    · exact hf
  refine ⟨b1, b2, h2, b3.fds, hf.1, ?_⟩
  rcases (b4 (fdOf p n d).toNat (by omega)).2 hf.2 with ⟨a, _⟩ | ⟨a, _⟩
  · have : (fiOf p n d).pipe = -1 := a
    omega
  · have : 0 ≤ (fiOf p n d).pipe ∧ (fiOf p n d).pipe ≤ 2 := a
    omega
theorem kern_len {p : Kern} (h : kernOk p = true) : p.procs.length = 5 := (kern_facts h).1.procs
theorem kb9 (p : Kern) (n d : Int) : (!kernOk p || !inB n 0 4 || !aliveP (p.procs.getD n.toNat default) || !inB d 0 4 || decide ((p.procs.getD n.toNat default).fds.getD d.toNat 0 < 0)) = krBad p n d := by
  unfold krBad isK
  cases hk : kernOk p with
  | false => rfl
  | true =>
    rw [wlit _ 4 (by omega) (by omega) (by have := kern_len hk; omega)]
    cases inB n 0 4 <;> cases aliveP (p.procs.getD n.toNat default) <;> rfl
theorem kb8 {p : Kern} {n d : Int} (h : (!(!kernOk p || !inB n 0 4 || !aliveP (p.procs.getD n.toNat default) || !inB d 0 4)) = true) : isK p n = true ∧ inB d 0 4 = true := by
  cases hk : kernOk p with
  | false => rw [hk] at h; cases h
  | true =>
    unfold isK
    rw [hk, wlit _ 4 (by omega) (by omega) (by have := kern_len hk; omega)]
    rw [hk] at h
    revert h
    cases inB n 0 4 <;> cases aliveP (p.procs.getD n.toNat default) <;> cases inB d 0 4 <;> intro h <;> first | exact ⟨rfl, rfl⟩ | cases h
theorem krP_bad {p : Kern} {n d : Int} (h : krBad p n d = true) : Le (PV.tup [PV.bool false, PV.bool false, PV.bool false]) (krP p n d) := by
  unfold krP; rw [h]; exact Le.refl _
theorem krP_ok {p : Kern} {n d : Int} (h : krBad p n d = false) : krP p n d = .tup [.bool (rdA p (fiOf p n d)), .bool (rdB p (fiOf p n d)), .bool true] := by
  unfold krP; rw [h]; rfl

theorem pc25 (p : Kern) (n : Int) : PC Tryz.prog 25 [.agg [.sl 1 (p.mem.ram.text.map encS), .sl 1 (p.mem.ram.refs.map encI), .sl 1 (p.mem.swap.text.map encS), .sl 1 (p.mem.swap.refs.map encI), .sl 3 (p.mem.spaces.map Space.enc), .int .i64 p.mem.hand, .sl 1 (p.vfs.fss.map Fs.enc), .int .i64 p.vfs.mount, .sl 8 (p.files.map File.enc), .sl 3 (p.pipes.map Pipe.enc), .sl 14 (p.procs.map Proc.enc), .sl 4 (p.queue.tasks.map Task.enc), .int .i64 p.queue.floor], .int .i64 n] (.bool (isK p n)) := by
  refine PC.of_vc mixed (phiOf [(57, an57), (26, an26), (58, an58)]) Tryz.func25 (by kernel_rfl) (rfl : Tryz.f25.body = some _) Tryz.ntmps25 (by kernel_rfl) rfl (by kernel_rfl) Tryz.results25 fun hwf => ?_
  simp only [pvB, ↓pvP, pvDom, simprocAttr, an57, pc57, an26, pc26, an58, pc58, pvI, pvY, x_be, x_bn, bbE, eqOk81, eqOk87, eqOk197]
  refine ⟨fun h => ?_, Le.refl _⟩
  rw [Bool.and_eq_true] at h
  have hl := kern_len h.1
  have h2 := inB_iff.1 h.2
  rw [wlit _ 4 (by omega) (by omega) (by omega)] at h2
  omega

theorem pc27 (p : Kern) (f : File) (hf : f.pipe < (p.pipes.length : Int)) : PC Tryz.prog 27 [.agg [.sl 1 (p.mem.ram.text.map encS), .sl 1 (p.mem.ram.refs.map encI), .sl 1 (p.mem.swap.text.map encS), .sl 1 (p.mem.swap.refs.map encI), .sl 3 (p.mem.spaces.map Space.enc), .int .i64 p.mem.hand, .sl 1 (p.vfs.fss.map Fs.enc), .int .i64 p.vfs.mount, .sl 8 (p.files.map File.enc), .sl 3 (p.pipes.map Pipe.enc), .sl 14 (p.procs.map Proc.enc), .sl 4 (p.queue.tasks.map Task.enc), .int .i64 p.queue.floor], .agg [.int .i64 f.refs, .int .i64 f.where_.fs, .int .i64 f.where_.id, .int .i64 f.pipe, .int .i64 f.pos, .bool f.read, .bool f.write, .bool f.end_]] (.tup [.bool (rdA p f), .bool (rdB p f)]) := by
  refine PC.of_vc mixed (phiOf [(59, an59)]) Tryz.func27 (by kernel_rfl) (rfl : Tryz.f27.body = some _) Tryz.ntmps27 (by kernel_rfl) rfl (by kernel_rfl) Tryz.results27 fun hwf => ?_
  simp only [pvB, ↓pvP, pvDom, simprocAttr, an59, pc59, pvI, pvY, x_be, x_bn, bbE, eqOk81, eqOk87, eqOk197]
  refine ⟨fun h => by simp only [rdA, rdB, h, q_bt]; exact Le.refl _, fun h => ⟨⟨?_, hf⟩, by simp only [rdA, rdB, h, q_bf]; exact Le.refl _⟩⟩
  have := of_decide_eq_false h
  omega

theorem pc7 (p : Kern) (n d : Int) : PC Tryz.prog 7 [.agg [.sl 1 (p.mem.ram.text.map encS), .sl 1 (p.mem.ram.refs.map encI), .sl 1 (p.mem.swap.text.map encS), .sl 1 (p.mem.swap.refs.map encI), .sl 3 (p.mem.spaces.map Space.enc), .int .i64 p.mem.hand, .sl 1 (p.vfs.fss.map Fs.enc), .int .i64 p.vfs.mount, .sl 8 (p.files.map File.enc), .sl 3 (p.pipes.map Pipe.enc), .sl 14 (p.procs.map Proc.enc), .sl 4 (p.queue.tasks.map Task.enc), .int .i64 p.queue.floor], .int .i64 n, .int .i64 d] (krP p n d) := by
  refine PC.of_vc mixed (phiOf [(25, an25), (26, an26), (27, an27)]) Tryz.func7 (by kernel_rfl) (rfl : Tryz.f7.body = some _) Tryz.ntmps7 (by kernel_rfl) rfl (by kernel_rfl) Tryz.results7 fun hwf => ?_
  simp only [pvB, ↓pvP, pvDom, simprocAttr, an25, pc25, an26, pc26, an27, pvI, pvY, x_be, x_bn, bbE, eqOk81, eqOk87, eqOk197]
  have hin : (!(!isK p n || !inB d 0 4)) = true → (0 ≤ n ∧ n < (p.procs.length : Int)) ∧ (0 ≤ d ∧ d < ((p.procs.getD n.toNat default).fds.length : Int)) := by
    intro h
    simp only [Bool.not_eq_true', Bool.or_eq_false_iff, Bool.not_eq_false'] at h
    obtain ⟨b1, b2, b3, _⟩ := isK_in h.1
    have h2 := inB_iff.1 h.2
    have := b1.procs
    have := b3.fds
    omega
  refine ⟨fun h => (hin h).1, fun h => (hin h).2, fun h => krP_bad h, fun h => ?_⟩
  obtain ⟨b1, b2, b3, b4, b5, b6⟩ := kr_in h
  have h1 := b1.procs
  have h2 := b1.files
  have h3 := b1.pipes
  refine ⟨by omega, by omega, ?_, ?_, ?_⟩
  · have : fdOf p n d = (p.procs.getD n.toNat default).fds.getD d.toNat 0 := rfl
    omega
  · refine pc27 p (fiOf p n d) ?_
    omega
  · rw [krP_ok h]; exact Le.refl _

theorem pc9 (p : Kern) (n d : Int) : PC Tryz.prog 9 [.agg [.sl 1 (p.mem.ram.text.map encS), .sl 1 (p.mem.ram.refs.map encI), .sl 1 (p.mem.swap.text.map encS), .sl 1 (p.mem.swap.refs.map encI), .sl 3 (p.mem.spaces.map Space.enc), .int .i64 p.mem.hand, .sl 1 (p.vfs.fss.map Fs.enc), .int .i64 p.vfs.mount, .sl 8 (p.files.map File.enc), .sl 3 (p.pipes.map Pipe.enc), .sl 14 (p.procs.map Proc.enc), .sl 4 (p.queue.tasks.map Task.enc), .int .i64 p.queue.floor], .int .i64 n, .int .i64 d] (krP p n d) := by
  refine PC.of_vc mixed (phiOf [(34, an34), (35, an35), (36, an36), (37, an37)]) Tryz.func9 (by kernel_rfl) (rfl : Tryz.f9.body = some _) Tryz.ntmps9 (by kernel_rfl) rfl (by kernel_rfl) Tryz.results9 fun hwf => ?_
  simp only [pvB, ↓pvP, pvDom, simprocAttr, an34, pc34', an35, pc35, an36, pc36, an37, pc37, pvI, pvY, x_be, x_bn, bbE, eqOk81, eqOk87, eqOk197]
  have hin : (!(!kernOk p || !inB n 0 4 || !aliveP (p.procs.getD n.toNat default) || !inB d 0 4)) = true → (0 ≤ n ∧ n < (p.procs.length : Int)) ∧ (0 ≤ d ∧ d < ((p.procs.getD n.toNat default).fds.length : Int)) := by
    intro h
    obtain ⟨h1, h2⟩ := kb8 h
    obtain ⟨b1, b2, b3, _⟩ := isK_in h1
    have h2 := inB_iff.1 h2
    have := b1.procs
    have := b3.fds
    omega
  refine ⟨fun h => ?_, fun h => (hin h).1, fun h => (hin h).2, fun h => krP_bad ((kb9 p n d).symm.trans h), fun h => ?_⟩
  · rw [Bool.not_eq_true', Bool.or_eq_false_iff, Bool.not_eq_false', Bool.not_eq_false'] at h
    have := kern_len h.1
    have := inB_iff.1 h.2
    omega
  have h := (kb9 p n d).symm.trans h
  obtain ⟨b1, b2, b3, b4, b5, b6⟩ := kr_in h
  have h1 := b1.procs
  have h2 := b1.files
  have h3 := b1.pipes
  rw [krP_ok h]
  refine ⟨by omega, by omega, ?_, fun hp => ?_, fun hp => ⟨?_, ?_⟩⟩
  · have : fdOf p n d = (p.procs.getD n.toNat default).fds.getD d.toNat 0 := rfl
    omega
  · have hp : decide ((fiOf p n d).pipe < 0) = true := hp
    simp only [rdA, rdB, hp, q_bt]; exact Le.refl _
  · have : ¬ (fiOf p n d).pipe < 0 := of_decide_eq_false hp
    have e : (fiOf p n d).pipe = (p.files.getD ((p.procs.getD n.toNat default).fds.getD d.toNat 0).toNat default).pipe := rfl
    omega
  · have hp : decide ((fiOf p n d).pipe < 0) = false := hp
    simp only [rdA, rdB, hp, q_bf]; exact Le.refl _

end Go.Proofs.YtemoiphdjocaiaaGreat
