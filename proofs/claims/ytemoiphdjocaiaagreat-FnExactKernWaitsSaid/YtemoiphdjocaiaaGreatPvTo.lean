/-
  What the laws' functions that copy answer. Conditions: none.
-/
import Derived.Test.YtemoiphdjocaiaaGreatPvTy
import Derived.Test.YtemoiphdjocaiaaGreatPvEq
set_option linter.all false
set_option linter.unusedSimpArgs false
set_option linter.unusedVariables false
namespace Go.Proofs.YtemoiphdjocaiaaGreat
open Go.Pv
set_option linter.unusedSimpArgs false
set_option maxRecDepth 100000
set_option maxHeartbeats 4000000

def szdStringS (N : Nat) (x : List ByteArray) : Prop := x.length ≤ N ∧ ∀ i, i < x.length → (x.getD i ⟨#[]⟩).size ≤ N
def szdIntS (N : Nat) (x : List Int) : Prop := x.length ≤ N
def szdPages (N : Nat) (x : Pages) : Prop := szdStringS N x.text ∧ szdIntS N x.refs
def szdAreaS (N : Nat) (x : List Area) : Prop := x.length ≤ N
def szdSlotS (N : Nat) (x : List Slot) : Prop := x.length ≤ N
def szdSpace (N : Nat) (x : Space) : Prop := szdAreaS N x.areas ∧ szdSlotS N x.slots
def szdSpaceS (N : Nat) (x : List Space) : Prop := x.length ≤ N ∧ ∀ i, i < x.length → szdSpace N (x.getD i default)
def szdMem (N : Nat) (x : Mem) : Prop := szdPages N x.ram ∧ szdPages N x.swap ∧ szdSpaceS N x.spaces
def szdEntry (N : Nat) (x : Entry) : Prop := x.name.size ≤ N
def szdEntryS (N : Nat) (x : List Entry) : Prop := x.length ≤ N ∧ ∀ i, i < x.length → szdEntry N (x.getD i default)
def szdInode (N : Nat) (x : Inode) : Prop := x.text.size ≤ N ∧ szdEntryS N x.names
def szdInodeS (N : Nat) (x : List Inode) : Prop := x.length ≤ N ∧ ∀ i, i < x.length → szdInode N (x.getD i default)
def szdFs (N : Nat) (x : Fs) : Prop := szdInodeS N x.nodes
def szdFsS (N : Nat) (x : List Fs) : Prop := x.length ≤ N ∧ ∀ i, i < x.length → szdFs N (x.getD i default)
def szdVfs (N : Nat) (x : Vfs) : Prop := szdFsS N x.fss
def szdFileS (N : Nat) (x : List File) : Prop := x.length ≤ N
def szdPipe (N : Nat) (x : Pipe) : Prop := x.text.size ≤ N
def szdPipeS (N : Nat) (x : List Pipe) : Prop := x.length ≤ N ∧ ∀ i, i < x.length → szdPipe N (x.getD i default)
def szdCred (N : Nat) (x : Cred) : Prop := szdIntS N x.groups
def szdBoolS (N : Nat) (x : List Bool) : Prop := x.length ≤ N
def szdSigs (N : Nat) (x : Sigs) : Prop := szdBoolS N x.here ∧ szdBoolS N x.block ∧ szdIntS N x.does
def szdProc (N : Nat) (x : Proc) : Prop := szdCred N x.who ∧ szdIntS N x.fds ∧ szdSigs N x.sigs
def szdProcS (N : Nat) (x : List Proc) : Prop := x.length ≤ N ∧ ∀ i, i < x.length → szdProc N (x.getD i default)
def szdTaskS (N : Nat) (x : List Task) : Prop := x.length ≤ N
def szdQueue (N : Nat) (x : Queue) : Prop := szdTaskS N x.tasks
def szdKern (N : Nat) (x : Kern) : Prop := szdMem N x.mem ∧ szdVfs N x.vfs ∧ szdFileS N x.files ∧ szdPipeS N x.pipes ∧ szdProcS N x.procs ∧ szdQueue N x.queue

end Go.Proofs.YtemoiphdjocaiaaGreat

namespace Go.Pv
def Pages.encF (x : Pages) : List PV := [.fs 1 (x.text.map encS), .fs 1 (x.refs.map encI)]
theorem Pages.encF_eq (x : Pages) : x.encF = [.fs 1 (x.text.map encS), .fs 1 (x.refs.map encI)] := rfl
def Space.encF (x : Space) : List PV := [.bool x.live, .fs 4 (x.areas.map Area.enc), .fs 4 (x.slots.map Slot.enc)]
theorem Space.encF_eq (x : Space) : x.encF = [.bool x.live, .fs 4 (x.areas.map Area.enc), .fs 4 (x.slots.map Slot.enc)] := rfl
def Mem.encF (x : Mem) : List PV := [.fs 1 (x.ram.text.map encS), .fs 1 (x.ram.refs.map encI), .fs 1 (x.swap.text.map encS), .fs 1 (x.swap.refs.map encI), .fs 3 (x.spaces.map Space.encF), .int .i64 x.hand]
theorem Mem.encF_eq (x : Mem) : x.encF = [.fs 1 (x.ram.text.map encS), .fs 1 (x.ram.refs.map encI), .fs 1 (x.swap.text.map encS), .fs 1 (x.swap.refs.map encI), .fs 3 (x.spaces.map Space.encF), .int .i64 x.hand] := rfl
def Inode.encF (x : Inode) : List PV := [.int .i64 x.kind, .int .i64 x.mode, .int .i64 x.owner, .int .i64 x.group, .int .i64 x.links, .int .i64 x.opens, .bool x.mark, .str x.text, .fs 2 (x.names.map Entry.enc)]
theorem Inode.encF_eq (x : Inode) : x.encF = [.int .i64 x.kind, .int .i64 x.mode, .int .i64 x.owner, .int .i64 x.group, .int .i64 x.links, .int .i64 x.opens, .bool x.mark, .str x.text, .fs 2 (x.names.map Entry.enc)] := rfl
def Fs.encF (x : Fs) : List PV := [.fs 9 (x.nodes.map Inode.encF)]
theorem Fs.encF_eq (x : Fs) : x.encF = [.fs 9 (x.nodes.map Inode.encF)] := rfl
def Vfs.encF (x : Vfs) : List PV := [.fs 1 (x.fss.map Fs.encF), .int .i64 x.mount]
theorem Vfs.encF_eq (x : Vfs) : x.encF = [.fs 1 (x.fss.map Fs.encF), .int .i64 x.mount] := rfl
def Cred.encF (x : Cred) : List PV := [.int .i64 x.user, .int .i64 x.real, .fs 1 (x.groups.map encI)]
theorem Cred.encF_eq (x : Cred) : x.encF = [.int .i64 x.user, .int .i64 x.real, .fs 1 (x.groups.map encI)] := rfl
def Sigs.encF (x : Sigs) : List PV := [.fs 1 (x.here.map encB), .fs 1 (x.block.map encB), .fs 1 (x.does.map encI)]
theorem Sigs.encF_eq (x : Sigs) : x.encF = [.fs 1 (x.here.map encB), .fs 1 (x.block.map encB), .fs 1 (x.does.map encI)] := rfl
def Proc.encF (x : Proc) : List PV := [.int .i64 x.state, .int .i64 x.parent, .int .i64 x.code, .int .i64 x.who.user, .int .i64 x.who.real, .fs 1 (x.who.groups.map encI), .int .i64 x.space, .fs 1 (x.fds.map encI), .fs 1 (x.sigs.here.map encB), .fs 1 (x.sigs.block.map encB), .fs 1 (x.sigs.does.map encI), .int .i64 x.dir.fs, .int .i64 x.dir.id, .int .i64 x.on]
theorem Proc.encF_eq (x : Proc) : x.encF = [.int .i64 x.state, .int .i64 x.parent, .int .i64 x.code, .int .i64 x.who.user, .int .i64 x.who.real, .fs 1 (x.who.groups.map encI), .int .i64 x.space, .fs 1 (x.fds.map encI), .fs 1 (x.sigs.here.map encB), .fs 1 (x.sigs.block.map encB), .fs 1 (x.sigs.does.map encI), .int .i64 x.dir.fs, .int .i64 x.dir.id, .int .i64 x.on] := rfl
def Queue.encF (x : Queue) : List PV := [.fs 4 (x.tasks.map Task.enc), .int .i64 x.floor]
theorem Queue.encF_eq (x : Queue) : x.encF = [.fs 4 (x.tasks.map Task.enc), .int .i64 x.floor] := rfl
def Kern.encF (x : Kern) : List PV := [.fs 1 (x.mem.ram.text.map encS), .fs 1 (x.mem.ram.refs.map encI), .fs 1 (x.mem.swap.text.map encS), .fs 1 (x.mem.swap.refs.map encI), .fs 3 (x.mem.spaces.map Space.encF), .int .i64 x.mem.hand, .fs 1 (x.vfs.fss.map Fs.encF), .int .i64 x.vfs.mount, .fs 8 (x.files.map File.enc), .fs 3 (x.pipes.map Pipe.enc), .fs 14 (x.procs.map Proc.encF), .fs 4 (x.queue.tasks.map Task.enc), .int .i64 x.queue.floor]
theorem Kern.encF_eq (x : Kern) : x.encF = [.fs 1 (x.mem.ram.text.map encS), .fs 1 (x.mem.ram.refs.map encI), .fs 1 (x.mem.swap.text.map encS), .fs 1 (x.mem.swap.refs.map encI), .fs 3 (x.mem.spaces.map Space.encF), .int .i64 x.mem.hand, .fs 1 (x.vfs.fss.map Fs.encF), .int .i64 x.vfs.mount, .fs 8 (x.files.map File.enc), .fs 3 (x.pipes.map Pipe.enc), .fs 14 (x.procs.map Proc.encF), .fs 4 (x.queue.tasks.map Task.enc), .int .i64 x.queue.floor] := rfl
end Go.Pv
namespace Go.Proofs.YtemoiphdjocaiaaGreat
open Go.Pv
set_option linter.unusedSimpArgs false
set_option maxRecDepth 100000
set_option maxHeartbeats 4000000

theorem f_cl (sz : Nat) (es : List (List PV)) : cellsP (.fs sz es) = [.fs sz es] := rfl
theorem f_cb (sz : Nat) (es : List (List PV)) : cellB (.fs sz es) = true := rfl
theorem f_hf (sz : Nat) (es : List (List PV)) : hf (.fs sz es) = true := rfl
theorem f_hb (m sz : Nat) (es : List (List PV)) : hb m (.fs sz es) = true := rfl
theorem tk_EF {α : Type} (f : α → List PV) (z : List PV) (x : List α) (H : Heap) (n : Nat) (he : ∀ a, (f a).map (expo .fs H n) = f a) : List.map (fun e => List.map (expo .fs H n) e) (((x.take x.length).map f ++ List.replicate (x.length - x.length) z).take x.length) = x.map f := by
  rw [List.take_length, Nat.sub_self, List.replicate_zero, List.append_nil, List.take_of_length_le (by rw [List.length_map]; omega), List.map_map]
  exact List.map_congr_left fun a _ => he a

def an108 : List PV → PV
  | [.sl _ a] => .fs 1 a
  | _ => .undef
theorem pc108 (x : List ByteArray) (hs : szdStringS 1048576 x) : PC Tryz.prog 108 [.sl 1 (x.map encS)] (.fs 1 (x.map encS)) := by
  refine PC.of_vcF mixed (phiOf []) Tryz.func108 (by kernel_rfl) (rfl : Tryz.f108.body = some _) Tryz.ntmps108 (by kernel_rfl) rfl (by kernel_rfl) Tryz.results108 fun hwf => ?_
  simp only [pvB, ↓pvP, pvDom, pvRr, pvEe, simprocAttr, f_cl, f_cb, f_hf, f_hb, pvY, rCell, x_be, x_bn, bbE]
  have hw : x.length ≤ 1048576 := hs.1
  clear hwf
  refine ⟨by omega, ?_⟩
  refine .inl ⟨[0, 3, 4], fun _ => 1, fun k vs H => ∃ i : Nat, i ≤ x.length ∧ k = x.length - i ∧ vs = [.sl 1 (x.map encS), .own 0 1 0 x.length, .int .i64 i] ∧ H = [.rows 9 1 ((x.take i).map encS ++ List.replicate (x.length - i) [.str ⟨#[]⟩])], fun _ => Nat.zero_le _, ?_, ?_⟩
  · simp only [pvB, ↓pvP, pvDom, pvRr, pvEe, simprocAttr, f_cl, f_cb, f_hf, f_hb, pvY, rCell, x_be, x_bn, bbE]
    exact ⟨tk_hb encS [.str ⟨#[]⟩] [] x.length 1 (fun a => rfl) rfl, _, 0, Nat.zero_le _, rfl, rfl, rfl⟩
  · rintro k vs H - ⟨i, hi, rfl, rfl, rfl⟩
    have hl := tk_len encS [.str ⟨#[]⟩] x hi
    rcases Nat.lt_or_ge i x.length with h1 | h1
    · simp only [pvB, ↓pvP, pvDom, pvRr, pvEe, simprocAttr, f_cl, f_cb, f_hf, f_hb, pvY, rCell, x_be, x_bn, bbE, hl]
      refine ⟨fun h => ?_, fun h => absurd (of_decide_eq_false h) (by omega)⟩
      have e := tk_S encS [.str ⟨#[]⟩] x (⟨#[]⟩ : ByteArray) (sz := 1) h1 (by decide)
      simp only [encS, List.cons_append, List.nil_append] at e
      rw [e]
      exact ⟨in_of i h1, in_of i h1, h1, tk_hb _ _ _ _ _ (fun a => rfl) rfl, _, by omega, i + 1, h1, rfl, by rw [w_add (by omega)], rfl⟩
    · obtain rfl : i = x.length := by omega
      simp only [pvB, ↓pvP, pvDom, pvRr, pvEe, simprocAttr, f_cl, f_cb, f_hf, f_hb, pvY, rCell, x_be, x_bn, bbE, hl]
      refine ⟨fun h => absurd (of_decide_eq_true h) (by omega), fun h => ?_⟩
      rw [tk_EF encS [.str ⟨#[]⟩] x _ _ (fun a => rfl)]
      exact Le.refl _

def an109 : List PV → PV
  | [.sl _ a] => .fs 1 a
  | _ => .undef
theorem pc109 (x : List Int) (hs : szdIntS 1048576 x) : PC Tryz.prog 109 [.sl 1 (x.map encI)] (.fs 1 (x.map encI)) := by
  refine PC.of_vcF mixed (phiOf []) Tryz.func109 (by kernel_rfl) (rfl : Tryz.f109.body = some _) Tryz.ntmps109 (by kernel_rfl) rfl (by kernel_rfl) Tryz.results109 fun hwf => ?_
  simp only [pvB, ↓pvP, pvDom, pvRr, pvEe, simprocAttr, f_cl, f_cb, f_hf, f_hb, pvY, rCell, x_be, x_bn, bbE]
  have hw : x.length ≤ 1048576 := hs
  clear hwf
  refine ⟨by omega, ?_⟩
  refine .inl ⟨[0, 3, 4], fun _ => 1, fun k vs H => ∃ i : Nat, i ≤ x.length ∧ k = x.length - i ∧ vs = [.sl 1 (x.map encI), .own 0 1 0 x.length, .int .i64 i] ∧ H = [.rows 3 1 ((x.take i).map encI ++ List.replicate (x.length - i) [.int .i64 0])], fun _ => Nat.zero_le _, ?_, ?_⟩
  · simp only [pvB, ↓pvP, pvDom, pvRr, pvEe, simprocAttr, f_cl, f_cb, f_hf, f_hb, pvY, rCell, x_be, x_bn, bbE]
    exact ⟨tk_hb encI [.int .i64 0] [] x.length 1 (fun a => rfl) rfl, _, 0, Nat.zero_le _, rfl, rfl, rfl⟩
  · rintro k vs H - ⟨i, hi, rfl, rfl, rfl⟩
    have hl := tk_len encI [.int .i64 0] x hi
    rcases Nat.lt_or_ge i x.length with h1 | h1
    · simp only [pvB, ↓pvP, pvDom, pvRr, pvEe, simprocAttr, f_cl, f_cb, f_hf, f_hb, pvY, rCell, x_be, x_bn, bbE, hl]
      refine ⟨fun h => ?_, fun h => absurd (of_decide_eq_false h) (by omega)⟩
      have e := tk_S encI [.int .i64 0] x (0 : Int) (sz := 1) h1 (by decide)
      simp only [encI, List.cons_append, List.nil_append] at e
      rw [e]
      exact ⟨in_of i h1, in_of i h1, h1, tk_hb _ _ _ _ _ (fun a => rfl) rfl, _, by omega, i + 1, h1, rfl, by rw [w_add (by omega)], rfl⟩
    · obtain rfl : i = x.length := by omega
      simp only [pvB, ↓pvP, pvDom, pvRr, pvEe, simprocAttr, f_cl, f_cb, f_hf, f_hb, pvY, rCell, x_be, x_bn, bbE, hl]
      refine ⟨fun h => absurd (of_decide_eq_true h) (by omega), fun h => ?_⟩
      rw [tk_EF encI [.int .i64 0] x _ _ (fun a => rfl)]
      exact Le.refl _

def an156 : List PV → PV
  | [.sl _ a] => .fs 1 a
  | _ => .undef
theorem pc156 (x : List Bool) (hs : szdBoolS 1048576 x) : PC Tryz.prog 156 [.sl 1 (x.map encB)] (.fs 1 (x.map encB)) := by
  refine PC.of_vcF mixed (phiOf []) Tryz.func156 (by kernel_rfl) (rfl : Tryz.f156.body = some _) Tryz.ntmps156 (by kernel_rfl) rfl (by kernel_rfl) Tryz.results156 fun hwf => ?_
  simp only [pvB, ↓pvP, pvDom, pvRr, pvEe, simprocAttr, f_cl, f_cb, f_hf, f_hb, pvY, rCell, x_be, x_bn, bbE]
  have hw : x.length ≤ 1048576 := hs
  clear hwf
  refine ⟨by omega, ?_⟩
  refine .inl ⟨[0, 3, 4], fun _ => 1, fun k vs H => ∃ i : Nat, i ≤ x.length ∧ k = x.length - i ∧ vs = [.sl 1 (x.map encB), .own 0 1 0 x.length, .int .i64 i] ∧ H = [.rows 4 1 ((x.take i).map encB ++ List.replicate (x.length - i) [.bool false])], fun _ => Nat.zero_le _, ?_, ?_⟩
  · simp only [pvB, ↓pvP, pvDom, pvRr, pvEe, simprocAttr, f_cl, f_cb, f_hf, f_hb, pvY, rCell, x_be, x_bn, bbE]
    exact ⟨tk_hb encB [.bool false] [] x.length 1 (fun a => rfl) rfl, _, 0, Nat.zero_le _, rfl, rfl, rfl⟩
  · rintro k vs H - ⟨i, hi, rfl, rfl, rfl⟩
    have hl := tk_len encB [.bool false] x hi
    rcases Nat.lt_or_ge i x.length with h1 | h1
    · simp only [pvB, ↓pvP, pvDom, pvRr, pvEe, simprocAttr, f_cl, f_cb, f_hf, f_hb, pvY, rCell, x_be, x_bn, bbE, hl]
      refine ⟨fun h => ?_, fun h => absurd (of_decide_eq_false h) (by omega)⟩
      have e := tk_S encB [.bool false] x false (sz := 1) h1 (by decide)
      simp only [encB, List.cons_append, List.nil_append] at e
      rw [e]
      exact ⟨in_of i h1, in_of i h1, h1, tk_hb _ _ _ _ _ (fun a => rfl) rfl, _, by omega, i + 1, h1, rfl, by rw [w_add (by omega)], rfl⟩
    · obtain rfl : i = x.length := by omega
      simp only [pvB, ↓pvP, pvDom, pvRr, pvEe, simprocAttr, f_cl, f_cb, f_hf, f_hb, pvY, rCell, x_be, x_bn, bbE, hl]
      refine ⟨fun h => absurd (of_decide_eq_true h) (by omega), fun h => ?_⟩
      rw [tk_EF encB [.bool false] x _ _ (fun a => rfl)]
      exact Le.refl _

def an196 : List PV → PV
  | [p] => p
  | _ => .undef
theorem pc196 (x : Entry) (hs : szdEntry 1048576 x) : PC Tryz.prog 196 [.agg [.str x.name, .int .i64 x.id]] (.agg [.str x.name, .int .i64 x.id]) := by
  refine PC.of_vcF mixed (phiOf []) Tryz.func196 (by kernel_rfl) (rfl : Tryz.f196.body = some _) Tryz.ntmps196 (by kernel_rfl) rfl (by kernel_rfl) Tryz.results196 fun hwf => ?_
  simp only [pvB, ↓pvP, pvDom, pvRr, pvEe, simprocAttr, f_cl, f_cb, f_hf, f_hb, pvY, rCell, x_be, x_bn, bbE]
  exact Le.refl _

def an192 : List PV → PV
  | [.sl _ a] => .fs 2 a
  | _ => .undef
theorem pc192 (x : List Entry) (hs : szdEntryS 1048576 x) : PC Tryz.prog 192 [.sl 2 (x.map Entry.enc)] (.fs 2 (x.map Entry.enc)) := by
  refine PC.of_vcF mixed (phiOf [(196, an196)]) Tryz.func192 (by kernel_rfl) (rfl : Tryz.f192.body = some _) Tryz.ntmps192 (by kernel_rfl) rfl (by kernel_rfl) Tryz.results192 fun hwf => ?_
  simp only [pvB, ↓pvP, pvDom, pvRr, pvEe, simprocAttr, an196, pc196, f_cl, f_cb, f_hf, f_hb, pvY, rCell, x_be, x_bn, bbE]
  have hw : x.length ≤ 1048576 := hs.1
  clear hwf
  refine ⟨by omega, ?_⟩
  refine .inl ⟨[0, 3, 4], fun _ => 1, fun k vs H => ∃ i : Nat, i ≤ x.length ∧ k = x.length - i ∧ vs = [.sl 2 (x.map Entry.enc), .own 0 2 0 x.length, .int .i64 i] ∧ H = [.rows 237 2 ((x.take i).map Entry.enc ++ List.replicate (x.length - i) [.str ⟨#[]⟩, .int .i64 0])], fun _ => Nat.zero_le _, ?_, ?_⟩
  · simp only [pvB, ↓pvP, pvDom, pvRr, pvEe, simprocAttr, f_cl, f_cb, f_hf, f_hb, pvY, rCell, x_be, x_bn, bbE]
    exact ⟨tk_hb Entry.enc [.str ⟨#[]⟩, .int .i64 0] [] x.length 1 (fun a => rfl) rfl, _, 0, Nat.zero_le _, rfl, rfl, rfl⟩
  · rintro k vs H - ⟨i, hi, rfl, rfl, rfl⟩
    have hl := tk_len Entry.enc [.str ⟨#[]⟩, .int .i64 0] x hi
    rcases Nat.lt_or_ge i x.length with h1 | h1
    · have h196 := pc196 (x.getD i default) (hs.2 i h1)
      simp only [pvB, ↓pvP, pvDom, pvRr, pvEe, simprocAttr, f_cl, f_cb, f_hf, f_hb, pvY, rCell, x_be, x_bn, bbE, an196, h196, hl]
      refine ⟨fun h => ?_, fun h => absurd (of_decide_eq_false h) (by omega)⟩
      have e := tk_S Entry.enc [.str ⟨#[]⟩, .int .i64 0] x (default : Entry) (sz := 2) h1 (by decide)
      simp only [Entry.enc_eq, List.cons_append, List.nil_append] at e
      rw [e]
      exact ⟨in_of i h1, in_of i h1, h1, tk_hb _ _ _ _ _ (fun a => rfl) rfl, _, by omega, i + 1, h1, rfl, by rw [w_add (by omega)], rfl⟩
    · obtain rfl : i = x.length := by omega
      simp only [pvB, ↓pvP, pvDom, pvRr, pvEe, simprocAttr, f_cl, f_cb, f_hf, f_hb, pvY, rCell, x_be, x_bn, bbE, an196, hl]
      refine ⟨fun h => absurd (of_decide_eq_true h) (by omega), fun h => ?_⟩
      rw [tk_EF Entry.enc [.str ⟨#[]⟩, .int .i64 0] x _ _ (fun a => rfl)]
      exact Le.refl _

def an181 : List PV → PV
  | [.agg [a0, a1, a2, a3, a4, a5, a6, a7, .sl _ a8]] => .agg [a0, a1, a2, a3, a4, a5, a6, a7, .fs 2 a8]
  | _ => .undef
theorem pc181 (x : Inode) (hs : szdInode 1048576 x) : PC Tryz.prog 181 [.agg [.int .i64 x.kind, .int .i64 x.mode, .int .i64 x.owner, .int .i64 x.group, .int .i64 x.links, .int .i64 x.opens, .bool x.mark, .str x.text, .sl 2 (x.names.map Entry.enc)]] (.agg [.int .i64 x.kind, .int .i64 x.mode, .int .i64 x.owner, .int .i64 x.group, .int .i64 x.links, .int .i64 x.opens, .bool x.mark, .str x.text, .fs 2 (x.names.map Entry.enc)]) := by
  refine PC.of_vcF mixed (phiOf [(192, an192)]) Tryz.func181 (by kernel_rfl) (rfl : Tryz.f181.body = some _) Tryz.ntmps181 (by kernel_rfl) rfl (by kernel_rfl) Tryz.results181 fun hwf => ?_
  have k1 : szdEntryS 1048576 x.names := hs.2
  simp only [pvB, ↓pvP, pvDom, pvRr, pvEe, simprocAttr, an192, pc192, f_cl, f_cb, f_hf, f_hb, pvY, rCell, x_be, x_bn, bbE, k1]
  exact Le.refl _

def an155 : List PV → PV
  | [.sl _ a] => .fs 9 ((a.map Inode.dec).map Inode.encF)
  | _ => .undef
theorem pc155 (x : List Inode) (hs : szdInodeS 1048576 x) : PC Tryz.prog 155 [.sl 9 (x.map Inode.enc)] (.fs 9 (x.map Inode.encF)) := by
  refine PC.of_vcF mixed (phiOf [(181, an181)]) Tryz.func155 (by kernel_rfl) (rfl : Tryz.f155.body = some _) Tryz.ntmps155 (by kernel_rfl) rfl (by kernel_rfl) Tryz.results155 fun hwf => ?_
  simp only [pvB, ↓pvP, pvDom, pvRr, pvEe, simprocAttr, an181, pc181, f_cl, f_cb, f_hf, f_hb, pvY, rCell, x_be, x_bn, bbE]
  have hw : x.length ≤ 1048576 := hs.1
  clear hwf
  refine ⟨by omega, ?_⟩
  refine .inl ⟨[0, 3, 4], fun _ => 1, fun k vs H => ∃ i : Nat, i ≤ x.length ∧ k = x.length - i ∧ vs = [.sl 9 (x.map Inode.enc), .own 0 9 0 x.length, .int .i64 i] ∧ H = [.rows 146 9 ((x.take i).map Inode.encF ++ List.replicate (x.length - i) [.int .i64 0, .int .i64 0, .int .i64 0, .int .i64 0, .int .i64 0, .int .i64 0, .bool false, .str ⟨#[]⟩, .sl 2 []])], fun _ => Nat.zero_le _, ?_, ?_⟩
  · simp only [pvB, ↓pvP, pvDom, pvRr, pvEe, simprocAttr, f_cl, f_cb, f_hf, f_hb, pvY, rCell, x_be, x_bn, bbE]
    exact ⟨tk_hb Inode.encF [.int .i64 0, .int .i64 0, .int .i64 0, .int .i64 0, .int .i64 0, .int .i64 0, .bool false, .str ⟨#[]⟩, .sl 2 []] [] x.length 1 (fun a => rfl) rfl, _, 0, Nat.zero_le _, rfl, rfl, rfl⟩
  · rintro k vs H - ⟨i, hi, rfl, rfl, rfl⟩
    have hl := tk_len Inode.encF [.int .i64 0, .int .i64 0, .int .i64 0, .int .i64 0, .int .i64 0, .int .i64 0, .bool false, .str ⟨#[]⟩, .sl 2 []] x hi
    rcases Nat.lt_or_ge i x.length with h1 | h1
    · have h181 := pc181 (x.getD i default) (hs.2 i h1)
      simp only [pvB, ↓pvP, pvDom, pvRr, pvEe, simprocAttr, f_cl, f_cb, f_hf, f_hb, pvY, rCell, x_be, x_bn, bbE, an181, h181, hl]
      refine ⟨fun h => ?_, fun h => absurd (of_decide_eq_false h) (by omega)⟩
      have e := tk_S Inode.encF [.int .i64 0, .int .i64 0, .int .i64 0, .int .i64 0, .int .i64 0, .int .i64 0, .bool false, .str ⟨#[]⟩, .sl 2 []] x (default : Inode) (sz := 9) h1 (by decide)
      simp only [Inode.encF_eq, List.cons_append, List.nil_append] at e
      rw [e]
      exact ⟨in_of i h1, in_of i h1, h1, tk_hb _ _ _ _ _ (fun a => rfl) rfl, _, by omega, i + 1, h1, rfl, by rw [w_add (by omega)], rfl⟩
    · obtain rfl : i = x.length := by omega
      simp only [pvB, ↓pvP, pvDom, pvRr, pvEe, simprocAttr, f_cl, f_cb, f_hf, f_hb, pvY, rCell, x_be, x_bn, bbE, an181, hl]
      refine ⟨fun h => absurd (of_decide_eq_true h) (by omega), fun h => ?_⟩
      rw [tk_EF Inode.encF [.int .i64 0, .int .i64 0, .int .i64 0, .int .i64 0, .int .i64 0, .int .i64 0, .bool false, .str ⟨#[]⟩, .sl 2 []] x _ _ (fun a => rfl)]
      exact Le.refl _

def an111 : List PV → PV
  | [.agg [.sl _ a0]] => .agg [.fs 9 ((a0.map Inode.dec).map Inode.encF)]
  | _ => .undef
theorem pc111 (x : Fs) (hs : szdFs 1048576 x) : PC Tryz.prog 111 [.agg [.sl 9 (x.nodes.map Inode.enc)]] (.agg [.fs 9 (x.nodes.map Inode.encF)]) := by
  refine PC.of_vcF mixed (phiOf [(155, an155)]) Tryz.func111 (by kernel_rfl) (rfl : Tryz.f111.body = some _) Tryz.ntmps111 (by kernel_rfl) rfl (by kernel_rfl) Tryz.results111 fun hwf => ?_
  have k0 : szdInodeS 1048576 x.nodes := hs
  simp only [pvB, ↓pvP, pvDom, pvRr, pvEe, simprocAttr, an155, pc155, f_cl, f_cb, f_hf, f_hb, pvY, rCell, x_be, x_bn, bbE, k0]
  exact Le.refl _

def an62 : List PV → PV
  | [.sl _ a] => .fs 1 ((a.map Fs.dec).map Fs.encF)
  | _ => .undef
theorem pc62 (x : List Fs) (hs : szdFsS 1048576 x) : PC Tryz.prog 62 [.sl 1 (x.map Fs.enc)] (.fs 1 (x.map Fs.encF)) := by
  refine PC.of_vcF mixed (phiOf [(111, an111)]) Tryz.func62 (by kernel_rfl) (rfl : Tryz.f62.body = some _) Tryz.ntmps62 (by kernel_rfl) rfl (by kernel_rfl) Tryz.results62 fun hwf => ?_
  simp only [pvB, ↓pvP, pvDom, pvRr, pvEe, simprocAttr, an111, pc111, f_cl, f_cb, f_hf, f_hb, pvY, rCell, x_be, x_bn, bbE]
  have hw : x.length ≤ 1048576 := hs.1
  clear hwf
  refine ⟨by omega, ?_⟩
  refine .inl ⟨[0, 3, 4], fun _ => 1, fun k vs H => ∃ i : Nat, i ≤ x.length ∧ k = x.length - i ∧ vs = [.sl 1 (x.map Fs.enc), .own 0 1 0 x.length, .int .i64 i] ∧ H = [.rows 157 1 ((x.take i).map Fs.encF ++ List.replicate (x.length - i) [.sl 9 []])], fun _ => Nat.zero_le _, ?_, ?_⟩
  · simp only [pvB, ↓pvP, pvDom, pvRr, pvEe, simprocAttr, f_cl, f_cb, f_hf, f_hb, pvY, rCell, x_be, x_bn, bbE]
    exact ⟨tk_hb Fs.encF [.sl 9 []] [] x.length 1 (fun a => rfl) rfl, _, 0, Nat.zero_le _, rfl, rfl, rfl⟩
  · rintro k vs H - ⟨i, hi, rfl, rfl, rfl⟩
    have hl := tk_len Fs.encF [.sl 9 []] x hi
    rcases Nat.lt_or_ge i x.length with h1 | h1
    · have h111 := pc111 (x.getD i default) (hs.2 i h1)
      simp only [pvB, ↓pvP, pvDom, pvRr, pvEe, simprocAttr, f_cl, f_cb, f_hf, f_hb, pvY, rCell, x_be, x_bn, bbE, an111, h111, hl]
      refine ⟨fun h => ?_, fun h => absurd (of_decide_eq_false h) (by omega)⟩
      have e := tk_S Fs.encF [.sl 9 []] x (default : Fs) (sz := 1) h1 (by decide)
      simp only [Fs.encF_eq, List.cons_append, List.nil_append] at e
      rw [e]
      exact ⟨in_of i h1, in_of i h1, h1, tk_hb _ _ _ _ _ (fun a => rfl) rfl, _, by omega, i + 1, h1, rfl, by rw [w_add (by omega)], rfl⟩
    · obtain rfl : i = x.length := by omega
      simp only [pvB, ↓pvP, pvDom, pvRr, pvEe, simprocAttr, f_cl, f_cb, f_hf, f_hb, pvY, rCell, x_be, x_bn, bbE, an111, hl]
      refine ⟨fun h => absurd (of_decide_eq_true h) (by omega), fun h => ?_⟩
      rw [tk_EF Fs.encF [.sl 9 []] x _ _ (fun a => rfl)]
      exact Le.refl _

def an29 : List PV → PV
  | [.agg [.sl _ a0, a1]] => .agg [.fs 1 ((a0.map Fs.dec).map Fs.encF), a1]
  | _ => .undef
theorem pc29 (x : Vfs) (hs : szdVfs 1048576 x) : PC Tryz.prog 29 [.agg [.sl 1 (x.fss.map Fs.enc), .int .i64 x.mount]] (.agg [.fs 1 (x.fss.map Fs.encF), .int .i64 x.mount]) := by
  refine PC.of_vcF mixed (phiOf [(62, an62)]) Tryz.func29 (by kernel_rfl) (rfl : Tryz.f29.body = some _) Tryz.ntmps29 (by kernel_rfl) rfl (by kernel_rfl) Tryz.results29 fun hwf => ?_
  have k0 : szdFsS 1048576 x.fss := hs
  simp only [pvB, ↓pvP, pvDom, pvRr, pvEe, simprocAttr, an62, pc62, f_cl, f_cb, f_hf, f_hb, pvY, rCell, x_be, x_bn, bbE, k0]
  exact Le.refl _

def an179 : List PV → PV
  | [p] => p
  | _ => .undef
theorem pc179 (x : Area) : PC Tryz.prog 179 [.agg [.int .i64 x.from_, .int .i64 x.many, .bool x.write, .bool x.shared]] (.agg [.int .i64 x.from_, .int .i64 x.many, .bool x.write, .bool x.shared]) := by
  refine PC.of_vcF mixed (phiOf []) Tryz.func179 (by kernel_rfl) (rfl : Tryz.f179.body = some _) Tryz.ntmps179 (by kernel_rfl) rfl (by kernel_rfl) Tryz.results179 fun hwf => ?_
  simp only [pvB, ↓pvP, pvDom, pvRr, pvEe, simprocAttr, f_cl, f_cb, f_hf, f_hb, pvY, rCell, x_be, x_bn, bbE]
  exact Le.refl _

def an153 : List PV → PV
  | [.sl _ a] => .fs 4 a
  | _ => .undef
theorem pc153 (x : List Area) (hs : szdAreaS 1048576 x) : PC Tryz.prog 153 [.sl 4 (x.map Area.enc)] (.fs 4 (x.map Area.enc)) := by
  refine PC.of_vcF mixed (phiOf [(179, an179)]) Tryz.func153 (by kernel_rfl) (rfl : Tryz.f153.body = some _) Tryz.ntmps153 (by kernel_rfl) rfl (by kernel_rfl) Tryz.results153 fun hwf => ?_
  simp only [pvB, ↓pvP, pvDom, pvRr, pvEe, simprocAttr, an179, pc179, f_cl, f_cb, f_hf, f_hb, pvY, rCell, x_be, x_bn, bbE]
  have hw : x.length ≤ 1048576 := hs
  clear hwf
  refine ⟨by omega, ?_⟩
  refine .inl ⟨[0, 3, 4], fun _ => 1, fun k vs H => ∃ i : Nat, i ≤ x.length ∧ k = x.length - i ∧ vs = [.sl 4 (x.map Area.enc), .own 0 4 0 x.length, .int .i64 i] ∧ H = [.rows 232 4 ((x.take i).map Area.enc ++ List.replicate (x.length - i) [.int .i64 0, .int .i64 0, .bool false, .bool false])], fun _ => Nat.zero_le _, ?_, ?_⟩
  · simp only [pvB, ↓pvP, pvDom, pvRr, pvEe, simprocAttr, f_cl, f_cb, f_hf, f_hb, pvY, rCell, x_be, x_bn, bbE]
    exact ⟨tk_hb Area.enc [.int .i64 0, .int .i64 0, .bool false, .bool false] [] x.length 1 (fun a => rfl) rfl, _, 0, Nat.zero_le _, rfl, rfl, rfl⟩
  · rintro k vs H - ⟨i, hi, rfl, rfl, rfl⟩
    have hl := tk_len Area.enc [.int .i64 0, .int .i64 0, .bool false, .bool false] x hi
    rcases Nat.lt_or_ge i x.length with h1 | h1
    · simp only [pvB, ↓pvP, pvDom, pvRr, pvEe, simprocAttr, f_cl, f_cb, f_hf, f_hb, pvY, rCell, x_be, x_bn, bbE, an179, pc179, hl]
      refine ⟨fun h => ?_, fun h => absurd (of_decide_eq_false h) (by omega)⟩
      have e := tk_S Area.enc [.int .i64 0, .int .i64 0, .bool false, .bool false] x (default : Area) (sz := 4) h1 (by decide)
      simp only [Area.enc_eq, List.cons_append, List.nil_append] at e
      rw [e]
      exact ⟨in_of i h1, in_of i h1, h1, tk_hb _ _ _ _ _ (fun a => rfl) rfl, _, by omega, i + 1, h1, rfl, by rw [w_add (by omega)], rfl⟩
    · obtain rfl : i = x.length := by omega
      simp only [pvB, ↓pvP, pvDom, pvRr, pvEe, simprocAttr, f_cl, f_cb, f_hf, f_hb, pvY, rCell, x_be, x_bn, bbE, an179, pc179, hl]
      refine ⟨fun h => absurd (of_decide_eq_true h) (by omega), fun h => ?_⟩
      rw [tk_EF Area.enc [.int .i64 0, .int .i64 0, .bool false, .bool false] x _ _ (fun a => rfl)]
      exact Le.refl _

def an180 : List PV → PV
  | [p] => p
  | _ => .undef
theorem pc180 (x : Slot) : PC Tryz.prog 180 [.agg [.int .i64 x.kind, .int .i64 x.at_, .bool x.own, .bool x.used]] (.agg [.int .i64 x.kind, .int .i64 x.at_, .bool x.own, .bool x.used]) := by
  refine PC.of_vcF mixed (phiOf []) Tryz.func180 (by kernel_rfl) (rfl : Tryz.f180.body = some _) Tryz.ntmps180 (by kernel_rfl) rfl (by kernel_rfl) Tryz.results180 fun hwf => ?_
  simp only [pvB, ↓pvP, pvDom, pvRr, pvEe, simprocAttr, f_cl, f_cb, f_hf, f_hb, pvY, rCell, x_be, x_bn, bbE]
  exact Le.refl _

def an154 : List PV → PV
  | [.sl _ a] => .fs 4 a
  | _ => .undef
theorem pc154 (x : List Slot) (hs : szdSlotS 1048576 x) : PC Tryz.prog 154 [.sl 4 (x.map Slot.enc)] (.fs 4 (x.map Slot.enc)) := by
  refine PC.of_vcF mixed (phiOf [(180, an180)]) Tryz.func154 (by kernel_rfl) (rfl : Tryz.f154.body = some _) Tryz.ntmps154 (by kernel_rfl) rfl (by kernel_rfl) Tryz.results154 fun hwf => ?_
  simp only [pvB, ↓pvP, pvDom, pvRr, pvEe, simprocAttr, an180, pc180, f_cl, f_cb, f_hf, f_hb, pvY, rCell, x_be, x_bn, bbE]
  have hw : x.length ≤ 1048576 := hs
  clear hwf
  refine ⟨by omega, ?_⟩
  refine .inl ⟨[0, 3, 4], fun _ => 1, fun k vs H => ∃ i : Nat, i ≤ x.length ∧ k = x.length - i ∧ vs = [.sl 4 (x.map Slot.enc), .own 0 4 0 x.length, .int .i64 i] ∧ H = [.rows 197 4 ((x.take i).map Slot.enc ++ List.replicate (x.length - i) [.int .i64 0, .int .i64 0, .bool false, .bool false])], fun _ => Nat.zero_le _, ?_, ?_⟩
  · simp only [pvB, ↓pvP, pvDom, pvRr, pvEe, simprocAttr, f_cl, f_cb, f_hf, f_hb, pvY, rCell, x_be, x_bn, bbE]
    exact ⟨tk_hb Slot.enc [.int .i64 0, .int .i64 0, .bool false, .bool false] [] x.length 1 (fun a => rfl) rfl, _, 0, Nat.zero_le _, rfl, rfl, rfl⟩
  · rintro k vs H - ⟨i, hi, rfl, rfl, rfl⟩
    have hl := tk_len Slot.enc [.int .i64 0, .int .i64 0, .bool false, .bool false] x hi
    rcases Nat.lt_or_ge i x.length with h1 | h1
    · simp only [pvB, ↓pvP, pvDom, pvRr, pvEe, simprocAttr, f_cl, f_cb, f_hf, f_hb, pvY, rCell, x_be, x_bn, bbE, an180, pc180, hl]
      refine ⟨fun h => ?_, fun h => absurd (of_decide_eq_false h) (by omega)⟩
      have e := tk_S Slot.enc [.int .i64 0, .int .i64 0, .bool false, .bool false] x (default : Slot) (sz := 4) h1 (by decide)
      simp only [Slot.enc_eq, List.cons_append, List.nil_append] at e
      rw [e]
      exact ⟨in_of i h1, in_of i h1, h1, tk_hb _ _ _ _ _ (fun a => rfl) rfl, _, by omega, i + 1, h1, rfl, by rw [w_add (by omega)], rfl⟩
    · obtain rfl : i = x.length := by omega
      simp only [pvB, ↓pvP, pvDom, pvRr, pvEe, simprocAttr, f_cl, f_cb, f_hf, f_hb, pvY, rCell, x_be, x_bn, bbE, an180, pc180, hl]
      refine ⟨fun h => absurd (of_decide_eq_true h) (by omega), fun h => ?_⟩
      rw [tk_EF Slot.enc [.int .i64 0, .int .i64 0, .bool false, .bool false] x _ _ (fun a => rfl)]
      exact Le.refl _

def an110 : List PV → PV
  | [.agg [a0, .sl _ a1, .sl _ a2]] => .agg [a0, .fs 4 a1, .fs 4 a2]
  | _ => .undef
theorem pc110 (x : Space) (hs : szdSpace 1048576 x) : PC Tryz.prog 110 [.agg [.bool x.live, .sl 4 (x.areas.map Area.enc), .sl 4 (x.slots.map Slot.enc)]] (.agg [.bool x.live, .fs 4 (x.areas.map Area.enc), .fs 4 (x.slots.map Slot.enc)]) := by
  refine PC.of_vcF mixed (phiOf [(153, an153), (154, an154)]) Tryz.func110 (by kernel_rfl) (rfl : Tryz.f110.body = some _) Tryz.ntmps110 (by kernel_rfl) rfl (by kernel_rfl) Tryz.results110 fun hwf => ?_
  have k0 : szdAreaS 1048576 x.areas := hs.1
  have k1 : szdSlotS 1048576 x.slots := hs.2
  simp only [pvB, ↓pvP, pvDom, pvRr, pvEe, simprocAttr, an153, pc153, an154, pc154, f_cl, f_cb, f_hf, f_hb, pvY, rCell, x_be, x_bn, bbE, k0, k1]
  exact Le.refl _

def an61 : List PV → PV
  | [.sl _ a] => .fs 3 ((a.map Space.dec).map Space.encF)
  | _ => .undef
theorem pc61 (x : List Space) (hs : szdSpaceS 1048576 x) : PC Tryz.prog 61 [.sl 3 (x.map Space.enc)] (.fs 3 (x.map Space.encF)) := by
  refine PC.of_vcF mixed (phiOf [(110, an110)]) Tryz.func61 (by kernel_rfl) (rfl : Tryz.f61.body = some _) Tryz.ntmps61 (by kernel_rfl) rfl (by kernel_rfl) Tryz.results61 fun hwf => ?_
  simp only [pvB, ↓pvP, pvDom, pvRr, pvEe, simprocAttr, an110, pc110, f_cl, f_cb, f_hf, f_hb, pvY, rCell, x_be, x_bn, bbE]
  have hw : x.length ≤ 1048576 := hs.1
  clear hwf
  refine ⟨by omega, ?_⟩
  refine .inl ⟨[0, 3, 4], fun _ => 1, fun k vs H => ∃ i : Nat, i ≤ x.length ∧ k = x.length - i ∧ vs = [.sl 3 (x.map Space.enc), .own 0 3 0 x.length, .int .i64 i] ∧ H = [.rows 153 3 ((x.take i).map Space.encF ++ List.replicate (x.length - i) [.bool false, .sl 4 [], .sl 4 []])], fun _ => Nat.zero_le _, ?_, ?_⟩
  · simp only [pvB, ↓pvP, pvDom, pvRr, pvEe, simprocAttr, f_cl, f_cb, f_hf, f_hb, pvY, rCell, x_be, x_bn, bbE]
    exact ⟨tk_hb Space.encF [.bool false, .sl 4 [], .sl 4 []] [] x.length 1 (fun a => rfl) rfl, _, 0, Nat.zero_le _, rfl, rfl, rfl⟩
  · rintro k vs H - ⟨i, hi, rfl, rfl, rfl⟩
    have hl := tk_len Space.encF [.bool false, .sl 4 [], .sl 4 []] x hi
    rcases Nat.lt_or_ge i x.length with h1 | h1
    · have h110 := pc110 (x.getD i default) (hs.2 i h1)
      simp only [pvB, ↓pvP, pvDom, pvRr, pvEe, simprocAttr, f_cl, f_cb, f_hf, f_hb, pvY, rCell, x_be, x_bn, bbE, an110, h110, hl]
      refine ⟨fun h => ?_, fun h => absurd (of_decide_eq_false h) (by omega)⟩
      have e := tk_S Space.encF [.bool false, .sl 4 [], .sl 4 []] x (default : Space) (sz := 3) h1 (by decide)
      simp only [Space.encF_eq, List.cons_append, List.nil_append] at e
      rw [e]
      exact ⟨in_of i h1, in_of i h1, h1, tk_hb _ _ _ _ _ (fun a => rfl) rfl, _, by omega, i + 1, h1, rfl, by rw [w_add (by omega)], rfl⟩
    · obtain rfl : i = x.length := by omega
      simp only [pvB, ↓pvP, pvDom, pvRr, pvEe, simprocAttr, f_cl, f_cb, f_hf, f_hb, pvY, rCell, x_be, x_bn, bbE, an110, hl]
      refine ⟨fun h => absurd (of_decide_eq_true h) (by omega), fun h => ?_⟩
      rw [tk_EF Space.encF [.bool false, .sl 4 [], .sl 4 []] x _ _ (fun a => rfl)]
      exact Le.refl _

def an60 : List PV → PV
  | [.agg [.sl _ a0, .sl _ a1]] => .agg [.fs 1 a0, .fs 1 a1]
  | _ => .undef
theorem pc60 (x : Pages) (hs : szdPages 1048576 x) : PC Tryz.prog 60 [.agg [.sl 1 (x.text.map encS), .sl 1 (x.refs.map encI)]] (.agg [.fs 1 (x.text.map encS), .fs 1 (x.refs.map encI)]) := by
  refine PC.of_vcF mixed (phiOf [(108, an108), (109, an109)]) Tryz.func60 (by kernel_rfl) (rfl : Tryz.f60.body = some _) Tryz.ntmps60 (by kernel_rfl) rfl (by kernel_rfl) Tryz.results60 fun hwf => ?_
  have k0 : szdStringS 1048576 x.text := hs.1
  have k1 : szdIntS 1048576 x.refs := hs.2
  simp only [pvB, ↓pvP, pvDom, pvRr, pvEe, simprocAttr, an108, pc108, an109, pc109, f_cl, f_cb, f_hf, f_hb, pvY, rCell, x_be, x_bn, bbE, k0, k1]
  exact Le.refl _

def an28 : List PV → PV
  | [.agg [.sl _ a0, .sl _ a1, .sl _ a2, .sl _ a3, .sl _ a4, a5]] => .agg [.fs 1 a0, .fs 1 a1, .fs 1 a2, .fs 1 a3, .fs 3 ((a4.map Space.dec).map Space.encF), a5]
  | _ => .undef
theorem pc28 (x : Mem) (hs : szdMem 1048576 x) : PC Tryz.prog 28 [.agg [.sl 1 (x.ram.text.map encS), .sl 1 (x.ram.refs.map encI), .sl 1 (x.swap.text.map encS), .sl 1 (x.swap.refs.map encI), .sl 3 (x.spaces.map Space.enc), .int .i64 x.hand]] (.agg [.fs 1 (x.ram.text.map encS), .fs 1 (x.ram.refs.map encI), .fs 1 (x.swap.text.map encS), .fs 1 (x.swap.refs.map encI), .fs 3 (x.spaces.map Space.encF), .int .i64 x.hand]) := by
  refine PC.of_vcF mixed (phiOf [(60, an60), (61, an61)]) Tryz.func28 (by kernel_rfl) (rfl : Tryz.f28.body = some _) Tryz.ntmps28 (by kernel_rfl) rfl (by kernel_rfl) Tryz.results28 fun hwf => ?_
  have k0 : szdPages 1048576 x.ram := hs.1
  have k1 : szdPages 1048576 x.swap := hs.2.1
  have k2 : szdSpaceS 1048576 x.spaces := hs.2.2
  simp only [pvB, ↓pvP, pvDom, pvRr, pvEe, simprocAttr, an60, pc60, an61, pc61, f_cl, f_cb, f_hf, f_hb, pvY, rCell, x_be, x_bn, bbE, k0, k1, k2]
  exact Le.refl _

def an112 : List PV → PV
  | [p] => p
  | _ => .undef
theorem pc112 (x : Spt) : PC Tryz.prog 112 [.agg [.int .i64 x.fs, .int .i64 x.id]] (.agg [.int .i64 x.fs, .int .i64 x.id]) := by
  refine PC.of_vcF mixed (phiOf []) Tryz.func112 (by kernel_rfl) (rfl : Tryz.f112.body = some _) Tryz.ntmps112 (by kernel_rfl) rfl (by kernel_rfl) Tryz.results112 fun hwf => ?_
  simp only [pvB, ↓pvP, pvDom, pvRr, pvEe, simprocAttr, f_cl, f_cb, f_hf, f_hb, pvY, rCell, x_be, x_bn, bbE]
  exact Le.refl _

def an63 : List PV → PV
  | [p] => p
  | _ => .undef
theorem pc63 (x : File) : PC Tryz.prog 63 [.agg [.int .i64 x.refs, .int .i64 x.where_.fs, .int .i64 x.where_.id, .int .i64 x.pipe, .int .i64 x.pos, .bool x.read, .bool x.write, .bool x.end_]] (.agg [.int .i64 x.refs, .int .i64 x.where_.fs, .int .i64 x.where_.id, .int .i64 x.pipe, .int .i64 x.pos, .bool x.read, .bool x.write, .bool x.end_]) := by
  refine PC.of_vcF mixed (phiOf [(112, an112)]) Tryz.func63 (by kernel_rfl) (rfl : Tryz.f63.body = some _) Tryz.ntmps63 (by kernel_rfl) rfl (by kernel_rfl) Tryz.results63 fun hwf => ?_
  simp only [pvB, ↓pvP, pvDom, pvRr, pvEe, simprocAttr, an112, pc112, f_cl, f_cb, f_hf, f_hb, pvY, rCell, x_be, x_bn, bbE]
  exact Le.refl _

def an30 : List PV → PV
  | [.sl _ a] => .fs 8 a
  | _ => .undef
theorem pc30 (x : List File) (hs : szdFileS 1048576 x) : PC Tryz.prog 30 [.sl 8 (x.map File.enc)] (.fs 8 (x.map File.enc)) := by
  refine PC.of_vcF mixed (phiOf [(63, an63)]) Tryz.func30 (by kernel_rfl) (rfl : Tryz.f30.body = some _) Tryz.ntmps30 (by kernel_rfl) rfl (by kernel_rfl) Tryz.results30 fun hwf => ?_
  simp only [pvB, ↓pvP, pvDom, pvRr, pvEe, simprocAttr, an63, pc63, f_cl, f_cb, f_hf, f_hb, pvY, rCell, x_be, x_bn, bbE]
  have hw : x.length ≤ 1048576 := hs
  clear hwf
  refine ⟨by omega, ?_⟩
  refine .inl ⟨[0, 3, 4], fun _ => 1, fun k vs H => ∃ i : Nat, i ≤ x.length ∧ k = x.length - i ∧ vs = [.sl 8 (x.map File.enc), .own 0 8 0 x.length, .int .i64 i] ∧ H = [.rows 87 8 ((x.take i).map File.enc ++ List.replicate (x.length - i) [.int .i64 0, .int .i64 0, .int .i64 0, .int .i64 0, .int .i64 0, .bool false, .bool false, .bool false])], fun _ => Nat.zero_le _, ?_, ?_⟩
  · simp only [pvB, ↓pvP, pvDom, pvRr, pvEe, simprocAttr, f_cl, f_cb, f_hf, f_hb, pvY, rCell, x_be, x_bn, bbE]
    exact ⟨tk_hb File.enc [.int .i64 0, .int .i64 0, .int .i64 0, .int .i64 0, .int .i64 0, .bool false, .bool false, .bool false] [] x.length 1 (fun a => rfl) rfl, _, 0, Nat.zero_le _, rfl, rfl, rfl⟩
  · rintro k vs H - ⟨i, hi, rfl, rfl, rfl⟩
    have hl := tk_len File.enc [.int .i64 0, .int .i64 0, .int .i64 0, .int .i64 0, .int .i64 0, .bool false, .bool false, .bool false] x hi
    rcases Nat.lt_or_ge i x.length with h1 | h1
    · simp only [pvB, ↓pvP, pvDom, pvRr, pvEe, simprocAttr, f_cl, f_cb, f_hf, f_hb, pvY, rCell, x_be, x_bn, bbE, an63, pc63, hl]
      refine ⟨fun h => ?_, fun h => absurd (of_decide_eq_false h) (by omega)⟩
      have e := tk_S File.enc [.int .i64 0, .int .i64 0, .int .i64 0, .int .i64 0, .int .i64 0, .bool false, .bool false, .bool false] x (default : File) (sz := 8) h1 (by decide)
      simp only [File.enc_eq, List.cons_append, List.nil_append] at e
      rw [e]
      exact ⟨in_of i h1, in_of i h1, h1, tk_hb _ _ _ _ _ (fun a => rfl) rfl, _, by omega, i + 1, h1, rfl, by rw [w_add (by omega)], rfl⟩
    · obtain rfl : i = x.length := by omega
      simp only [pvB, ↓pvP, pvDom, pvRr, pvEe, simprocAttr, f_cl, f_cb, f_hf, f_hb, pvY, rCell, x_be, x_bn, bbE, an63, pc63, hl]
      refine ⟨fun h => absurd (of_decide_eq_true h) (by omega), fun h => ?_⟩
      rw [tk_EF File.enc [.int .i64 0, .int .i64 0, .int .i64 0, .int .i64 0, .int .i64 0, .bool false, .bool false, .bool false] x _ _ (fun a => rfl)]
      exact Le.refl _

def an64 : List PV → PV
  | [p] => p
  | _ => .undef
theorem pc64 (x : Pipe) (hs : szdPipe 1048576 x) : PC Tryz.prog 64 [.agg [.str x.text, .int .i64 x.readers, .int .i64 x.writers]] (.agg [.str x.text, .int .i64 x.readers, .int .i64 x.writers]) := by
  refine PC.of_vcF mixed (phiOf []) Tryz.func64 (by kernel_rfl) (rfl : Tryz.f64.body = some _) Tryz.ntmps64 (by kernel_rfl) rfl (by kernel_rfl) Tryz.results64 fun hwf => ?_
  simp only [pvB, ↓pvP, pvDom, pvRr, pvEe, simprocAttr, f_cl, f_cb, f_hf, f_hb, pvY, rCell, x_be, x_bn, bbE]
  exact Le.refl _

def an31 : List PV → PV
  | [.sl _ a] => .fs 3 a
  | _ => .undef
theorem pc31 (x : List Pipe) (hs : szdPipeS 1048576 x) : PC Tryz.prog 31 [.sl 3 (x.map Pipe.enc)] (.fs 3 (x.map Pipe.enc)) := by
  refine PC.of_vcF mixed (phiOf [(64, an64)]) Tryz.func31 (by kernel_rfl) (rfl : Tryz.f31.body = some _) Tryz.ntmps31 (by kernel_rfl) rfl (by kernel_rfl) Tryz.results31 fun hwf => ?_
  simp only [pvB, ↓pvP, pvDom, pvRr, pvEe, simprocAttr, an64, pc64, f_cl, f_cb, f_hf, f_hb, pvY, rCell, x_be, x_bn, bbE]
  have hw : x.length ≤ 1048576 := hs.1
  clear hwf
  refine ⟨by omega, ?_⟩
  refine .inl ⟨[0, 3, 4], fun _ => 1, fun k vs H => ∃ i : Nat, i ≤ x.length ∧ k = x.length - i ∧ vs = [.sl 3 (x.map Pipe.enc), .own 0 3 0 x.length, .int .i64 i] ∧ H = [.rows 98 3 ((x.take i).map Pipe.enc ++ List.replicate (x.length - i) [.str ⟨#[]⟩, .int .i64 0, .int .i64 0])], fun _ => Nat.zero_le _, ?_, ?_⟩
  · simp only [pvB, ↓pvP, pvDom, pvRr, pvEe, simprocAttr, f_cl, f_cb, f_hf, f_hb, pvY, rCell, x_be, x_bn, bbE]
    exact ⟨tk_hb Pipe.enc [.str ⟨#[]⟩, .int .i64 0, .int .i64 0] [] x.length 1 (fun a => rfl) rfl, _, 0, Nat.zero_le _, rfl, rfl, rfl⟩
  · rintro k vs H - ⟨i, hi, rfl, rfl, rfl⟩
    have hl := tk_len Pipe.enc [.str ⟨#[]⟩, .int .i64 0, .int .i64 0] x hi
    rcases Nat.lt_or_ge i x.length with h1 | h1
    · have h64 := pc64 (x.getD i default) (hs.2 i h1)
      simp only [pvB, ↓pvP, pvDom, pvRr, pvEe, simprocAttr, f_cl, f_cb, f_hf, f_hb, pvY, rCell, x_be, x_bn, bbE, an64, h64, hl]
      refine ⟨fun h => ?_, fun h => absurd (of_decide_eq_false h) (by omega)⟩
      have e := tk_S Pipe.enc [.str ⟨#[]⟩, .int .i64 0, .int .i64 0] x (default : Pipe) (sz := 3) h1 (by decide)
      simp only [Pipe.enc_eq, List.cons_append, List.nil_append] at e
      rw [e]
      exact ⟨in_of i h1, in_of i h1, h1, tk_hb _ _ _ _ _ (fun a => rfl) rfl, _, by omega, i + 1, h1, rfl, by rw [w_add (by omega)], rfl⟩
    · obtain rfl : i = x.length := by omega
      simp only [pvB, ↓pvP, pvDom, pvRr, pvEe, simprocAttr, f_cl, f_cb, f_hf, f_hb, pvY, rCell, x_be, x_bn, bbE, an64, hl]
      refine ⟨fun h => absurd (of_decide_eq_true h) (by omega), fun h => ?_⟩
      rw [tk_EF Pipe.enc [.str ⟨#[]⟩, .int .i64 0, .int .i64 0] x _ _ (fun a => rfl)]
      exact Le.refl _

def an113 : List PV → PV
  | [.agg [a0, a1, .sl _ a2]] => .agg [a0, a1, .fs 1 a2]
  | _ => .undef
theorem pc113 (x : Cred) (hs : szdCred 1048576 x) : PC Tryz.prog 113 [.agg [.int .i64 x.user, .int .i64 x.real, .sl 1 (x.groups.map encI)]] (.agg [.int .i64 x.user, .int .i64 x.real, .fs 1 (x.groups.map encI)]) := by
  refine PC.of_vcF mixed (phiOf [(109, an109)]) Tryz.func113 (by kernel_rfl) (rfl : Tryz.f113.body = some _) Tryz.ntmps113 (by kernel_rfl) rfl (by kernel_rfl) Tryz.results113 fun hwf => ?_
  have k0 : szdIntS 1048576 x.groups := hs
  simp only [pvB, ↓pvP, pvDom, pvRr, pvEe, simprocAttr, an109, pc109, f_cl, f_cb, f_hf, f_hb, pvY, rCell, x_be, x_bn, bbE, k0]
  exact Le.refl _

def an114 : List PV → PV
  | [.agg [.sl _ a0, .sl _ a1, .sl _ a2]] => .agg [.fs 1 a0, .fs 1 a1, .fs 1 a2]
  | _ => .undef
theorem pc114 (x : Sigs) (hs : szdSigs 1048576 x) : PC Tryz.prog 114 [.agg [.sl 1 (x.here.map encB), .sl 1 (x.block.map encB), .sl 1 (x.does.map encI)]] (.agg [.fs 1 (x.here.map encB), .fs 1 (x.block.map encB), .fs 1 (x.does.map encI)]) := by
  refine PC.of_vcF mixed (phiOf [(156, an156), (109, an109)]) Tryz.func114 (by kernel_rfl) (rfl : Tryz.f114.body = some _) Tryz.ntmps114 (by kernel_rfl) rfl (by kernel_rfl) Tryz.results114 fun hwf => ?_
  have k0 : szdBoolS 1048576 x.here := hs.1
  have k1 : szdBoolS 1048576 x.block := hs.2.1
  have k2 : szdIntS 1048576 x.does := hs.2.2
  simp only [pvB, ↓pvP, pvDom, pvRr, pvEe, simprocAttr, an156, pc156, an109, pc109, f_cl, f_cb, f_hf, f_hb, pvY, rCell, x_be, x_bn, bbE, k0, k1, k2]
  exact Le.refl _

def an65 : List PV → PV
  | [.agg [a0, a1, a2, a3, a4, .sl _ a5, a6, .sl _ a7, .sl _ a8, .sl _ a9, .sl _ a10, a11, a12, a13]] => .agg [a0, a1, a2, a3, a4, .fs 1 a5, a6, .fs 1 a7, .fs 1 a8, .fs 1 a9, .fs 1 a10, a11, a12, a13]
  | _ => .undef
theorem pc65 (x : Proc) (hs : szdProc 1048576 x) : PC Tryz.prog 65 [.agg [.int .i64 x.state, .int .i64 x.parent, .int .i64 x.code, .int .i64 x.who.user, .int .i64 x.who.real, .sl 1 (x.who.groups.map encI), .int .i64 x.space, .sl 1 (x.fds.map encI), .sl 1 (x.sigs.here.map encB), .sl 1 (x.sigs.block.map encB), .sl 1 (x.sigs.does.map encI), .int .i64 x.dir.fs, .int .i64 x.dir.id, .int .i64 x.on]] (.agg [.int .i64 x.state, .int .i64 x.parent, .int .i64 x.code, .int .i64 x.who.user, .int .i64 x.who.real, .fs 1 (x.who.groups.map encI), .int .i64 x.space, .fs 1 (x.fds.map encI), .fs 1 (x.sigs.here.map encB), .fs 1 (x.sigs.block.map encB), .fs 1 (x.sigs.does.map encI), .int .i64 x.dir.fs, .int .i64 x.dir.id, .int .i64 x.on]) := by
  refine PC.of_vcF mixed (phiOf [(113, an113), (109, an109), (114, an114), (112, an112)]) Tryz.func65 (by kernel_rfl) (rfl : Tryz.f65.body = some _) Tryz.ntmps65 (by kernel_rfl) rfl (by kernel_rfl) Tryz.results65 fun hwf => ?_
  have k0 : szdCred 1048576 x.who := hs.1
  have k1 : szdIntS 1048576 x.fds := hs.2.1
  have k2 : szdSigs 1048576 x.sigs := hs.2.2
  simp only [pvB, ↓pvP, pvDom, pvRr, pvEe, simprocAttr, an113, pc113, an109, pc109, an114, pc114, an112, pc112, f_cl, f_cb, f_hf, f_hb, pvY, rCell, x_be, x_bn, bbE, k0, k1, k2]
  exact Le.refl _

def an32 : List PV → PV
  | [.sl _ a] => .fs 14 ((a.map Proc.dec).map Proc.encF)
  | _ => .undef
theorem pc32 (x : List Proc) (hs : szdProcS 1048576 x) : PC Tryz.prog 32 [.sl 14 (x.map Proc.enc)] (.fs 14 (x.map Proc.encF)) := by
  refine PC.of_vcF mixed (phiOf [(65, an65)]) Tryz.func32 (by kernel_rfl) (rfl : Tryz.f32.body = some _) Tryz.ntmps32 (by kernel_rfl) rfl (by kernel_rfl) Tryz.results32 fun hwf => ?_
  simp only [pvB, ↓pvP, pvDom, pvRr, pvEe, simprocAttr, an65, pc65, f_cl, f_cb, f_hf, f_hb, pvY, rCell, x_be, x_bn, bbE]
  have hw : x.length ≤ 1048576 := hs.1
  clear hwf
  refine ⟨by omega, ?_⟩
  refine .inl ⟨[0, 3, 4], fun _ => 1, fun k vs H => ∃ i : Nat, i ≤ x.length ∧ k = x.length - i ∧ vs = [.sl 14 (x.map Proc.enc), .own 0 14 0 x.length, .int .i64 i] ∧ H = [.rows 83 14 ((x.take i).map Proc.encF ++ List.replicate (x.length - i) [.int .i64 0, .int .i64 0, .int .i64 0, .int .i64 0, .int .i64 0, .sl 1 [], .int .i64 0, .sl 1 [], .sl 1 [], .sl 1 [], .sl 1 [], .int .i64 0, .int .i64 0, .int .i64 0])], fun _ => Nat.zero_le _, ?_, ?_⟩
  · simp only [pvB, ↓pvP, pvDom, pvRr, pvEe, simprocAttr, f_cl, f_cb, f_hf, f_hb, pvY, rCell, x_be, x_bn, bbE]
    exact ⟨tk_hb Proc.encF [.int .i64 0, .int .i64 0, .int .i64 0, .int .i64 0, .int .i64 0, .sl 1 [], .int .i64 0, .sl 1 [], .sl 1 [], .sl 1 [], .sl 1 [], .int .i64 0, .int .i64 0, .int .i64 0] [] x.length 1 (fun a => rfl) rfl, _, 0, Nat.zero_le _, rfl, rfl, rfl⟩
  · rintro k vs H - ⟨i, hi, rfl, rfl, rfl⟩
    have hl := tk_len Proc.encF [.int .i64 0, .int .i64 0, .int .i64 0, .int .i64 0, .int .i64 0, .sl 1 [], .int .i64 0, .sl 1 [], .sl 1 [], .sl 1 [], .sl 1 [], .int .i64 0, .int .i64 0, .int .i64 0] x hi
    rcases Nat.lt_or_ge i x.length with h1 | h1
    · have h65 := pc65 (x.getD i default) (hs.2 i h1)
      simp only [pvB, ↓pvP, pvDom, pvRr, pvEe, simprocAttr, f_cl, f_cb, f_hf, f_hb, pvY, rCell, x_be, x_bn, bbE, an65, h65, hl]
      refine ⟨fun h => ?_, fun h => absurd (of_decide_eq_false h) (by omega)⟩
      have e := tk_S Proc.encF [.int .i64 0, .int .i64 0, .int .i64 0, .int .i64 0, .int .i64 0, .sl 1 [], .int .i64 0, .sl 1 [], .sl 1 [], .sl 1 [], .sl 1 [], .int .i64 0, .int .i64 0, .int .i64 0] x (default : Proc) (sz := 14) h1 (by decide)
      simp only [Proc.encF_eq, List.cons_append, List.nil_append] at e
      rw [e]
      exact ⟨in_of i h1, in_of i h1, h1, tk_hb _ _ _ _ _ (fun a => rfl) rfl, _, by omega, i + 1, h1, rfl, by rw [w_add (by omega)], rfl⟩
    · obtain rfl : i = x.length := by omega
      simp only [pvB, ↓pvP, pvDom, pvRr, pvEe, simprocAttr, f_cl, f_cb, f_hf, f_hb, pvY, rCell, x_be, x_bn, bbE, an65, hl]
      refine ⟨fun h => absurd (of_decide_eq_true h) (by omega), fun h => ?_⟩
      rw [tk_EF Proc.encF [.int .i64 0, .int .i64 0, .int .i64 0, .int .i64 0, .int .i64 0, .sl 1 [], .int .i64 0, .sl 1 [], .sl 1 [], .sl 1 [], .sl 1 [], .int .i64 0, .int .i64 0, .int .i64 0] x _ _ (fun a => rfl)]
      exact Le.refl _

def an115 : List PV → PV
  | [p] => p
  | _ => .undef
theorem pc115 (x : Task) : PC Tryz.prog 115 [.agg [.int .i64 x.id, .int .i64 x.weight, .int .i64 x.cost, .bool x.ready]] (.agg [.int .i64 x.id, .int .i64 x.weight, .int .i64 x.cost, .bool x.ready]) := by
  refine PC.of_vcF mixed (phiOf []) Tryz.func115 (by kernel_rfl) (rfl : Tryz.f115.body = some _) Tryz.ntmps115 (by kernel_rfl) rfl (by kernel_rfl) Tryz.results115 fun hwf => ?_
  simp only [pvB, ↓pvP, pvDom, pvRr, pvEe, simprocAttr, f_cl, f_cb, f_hf, f_hb, pvY, rCell, x_be, x_bn, bbE]
  exact Le.refl _

def an66 : List PV → PV
  | [.sl _ a] => .fs 4 a
  | _ => .undef
theorem pc66 (x : List Task) (hs : szdTaskS 1048576 x) : PC Tryz.prog 66 [.sl 4 (x.map Task.enc)] (.fs 4 (x.map Task.enc)) := by
  refine PC.of_vcF mixed (phiOf [(115, an115)]) Tryz.func66 (by kernel_rfl) (rfl : Tryz.f66.body = some _) Tryz.ntmps66 (by kernel_rfl) rfl (by kernel_rfl) Tryz.results66 fun hwf => ?_
  simp only [pvB, ↓pvP, pvDom, pvRr, pvEe, simprocAttr, an115, pc115, f_cl, f_cb, f_hf, f_hb, pvY, rCell, x_be, x_bn, bbE]
  have hw : x.length ≤ 1048576 := hs
  clear hwf
  refine ⟨by omega, ?_⟩
  refine .inl ⟨[0, 3, 4], fun _ => 1, fun k vs H => ∃ i : Nat, i ≤ x.length ∧ k = x.length - i ∧ vs = [.sl 4 (x.map Task.enc), .own 0 4 0 x.length, .int .i64 i] ∧ H = [.rows 149 4 ((x.take i).map Task.enc ++ List.replicate (x.length - i) [.int .i64 0, .int .i64 0, .int .i64 0, .bool false])], fun _ => Nat.zero_le _, ?_, ?_⟩
  · simp only [pvB, ↓pvP, pvDom, pvRr, pvEe, simprocAttr, f_cl, f_cb, f_hf, f_hb, pvY, rCell, x_be, x_bn, bbE]
    exact ⟨tk_hb Task.enc [.int .i64 0, .int .i64 0, .int .i64 0, .bool false] [] x.length 1 (fun a => rfl) rfl, _, 0, Nat.zero_le _, rfl, rfl, rfl⟩
  · rintro k vs H - ⟨i, hi, rfl, rfl, rfl⟩
    have hl := tk_len Task.enc [.int .i64 0, .int .i64 0, .int .i64 0, .bool false] x hi
    rcases Nat.lt_or_ge i x.length with h1 | h1
    · simp only [pvB, ↓pvP, pvDom, pvRr, pvEe, simprocAttr, f_cl, f_cb, f_hf, f_hb, pvY, rCell, x_be, x_bn, bbE, an115, pc115, hl]
      refine ⟨fun h => ?_, fun h => absurd (of_decide_eq_false h) (by omega)⟩
      have e := tk_S Task.enc [.int .i64 0, .int .i64 0, .int .i64 0, .bool false] x (default : Task) (sz := 4) h1 (by decide)
      simp only [Task.enc_eq, List.cons_append, List.nil_append] at e
      rw [e]
      exact ⟨in_of i h1, in_of i h1, h1, tk_hb _ _ _ _ _ (fun a => rfl) rfl, _, by omega, i + 1, h1, rfl, by rw [w_add (by omega)], rfl⟩
    · obtain rfl : i = x.length := by omega
      simp only [pvB, ↓pvP, pvDom, pvRr, pvEe, simprocAttr, f_cl, f_cb, f_hf, f_hb, pvY, rCell, x_be, x_bn, bbE, an115, pc115, hl]
      refine ⟨fun h => absurd (of_decide_eq_true h) (by omega), fun h => ?_⟩
      rw [tk_EF Task.enc [.int .i64 0, .int .i64 0, .int .i64 0, .bool false] x _ _ (fun a => rfl)]
      exact Le.refl _

def an33 : List PV → PV
  | [.agg [.sl _ a0, a1]] => .agg [.fs 4 a0, a1]
  | _ => .undef
theorem pc33 (x : Queue) (hs : szdQueue 1048576 x) : PC Tryz.prog 33 [.agg [.sl 4 (x.tasks.map Task.enc), .int .i64 x.floor]] (.agg [.fs 4 (x.tasks.map Task.enc), .int .i64 x.floor]) := by
  refine PC.of_vcF mixed (phiOf [(66, an66)]) Tryz.func33 (by kernel_rfl) (rfl : Tryz.f33.body = some _) Tryz.ntmps33 (by kernel_rfl) rfl (by kernel_rfl) Tryz.results33 fun hwf => ?_
  have k0 : szdTaskS 1048576 x.tasks := hs
  simp only [pvB, ↓pvP, pvDom, pvRr, pvEe, simprocAttr, an66, pc66, f_cl, f_cb, f_hf, f_hb, pvY, rCell, x_be, x_bn, bbE, k0]
  exact Le.refl _

def an8 : List PV → PV
  | [.agg [.sl _ a0, .sl _ a1, .sl _ a2, .sl _ a3, .sl _ a4, a5, .sl _ a6, a7, .sl _ a8, .sl _ a9, .sl _ a10, .sl _ a11, a12]] => .agg [.fs 1 a0, .fs 1 a1, .fs 1 a2, .fs 1 a3, .fs 3 ((a4.map Space.dec).map Space.encF), a5, .fs 1 ((a6.map Fs.dec).map Fs.encF), a7, .fs 8 a8, .fs 3 a9, .fs 14 ((a10.map Proc.dec).map Proc.encF), .fs 4 a11, a12]
  | _ => .undef
theorem pc8 (x : Kern) (hs : szdKern 1048576 x) : PC Tryz.prog 8 [.agg [.sl 1 (x.mem.ram.text.map encS), .sl 1 (x.mem.ram.refs.map encI), .sl 1 (x.mem.swap.text.map encS), .sl 1 (x.mem.swap.refs.map encI), .sl 3 (x.mem.spaces.map Space.enc), .int .i64 x.mem.hand, .sl 1 (x.vfs.fss.map Fs.enc), .int .i64 x.vfs.mount, .sl 8 (x.files.map File.enc), .sl 3 (x.pipes.map Pipe.enc), .sl 14 (x.procs.map Proc.enc), .sl 4 (x.queue.tasks.map Task.enc), .int .i64 x.queue.floor]] (.agg [.fs 1 (x.mem.ram.text.map encS), .fs 1 (x.mem.ram.refs.map encI), .fs 1 (x.mem.swap.text.map encS), .fs 1 (x.mem.swap.refs.map encI), .fs 3 (x.mem.spaces.map Space.encF), .int .i64 x.mem.hand, .fs 1 (x.vfs.fss.map Fs.encF), .int .i64 x.vfs.mount, .fs 8 (x.files.map File.enc), .fs 3 (x.pipes.map Pipe.enc), .fs 14 (x.procs.map Proc.encF), .fs 4 (x.queue.tasks.map Task.enc), .int .i64 x.queue.floor]) := by
  refine PC.of_vcF mixed (phiOf [(28, an28), (29, an29), (30, an30), (31, an31), (32, an32), (33, an33)]) Tryz.func8 (by kernel_rfl) (rfl : Tryz.f8.body = some _) Tryz.ntmps8 (by kernel_rfl) rfl (by kernel_rfl) Tryz.results8 fun hwf => ?_
  have k0 : szdMem 1048576 x.mem := hs.1
  have k1 : szdVfs 1048576 x.vfs := hs.2.1
  have k2 : szdFileS 1048576 x.files := hs.2.2.1
  have k3 : szdPipeS 1048576 x.pipes := hs.2.2.2.1
  have k4 : szdProcS 1048576 x.procs := hs.2.2.2.2.1
  have k5 : szdQueue 1048576 x.queue := hs.2.2.2.2.2
  simp only [pvB, ↓pvP, pvDom, pvRr, pvEe, simprocAttr, an28, pc28, an29, pc29, an30, pc30, an31, pc31, an32, pc32, an33, pc33, f_cl, f_cb, f_hf, f_hb, pvY, rCell, x_be, x_bn, bbE, k0, k1, k2, k3, k4, k5]
  exact Le.refl _

end Go.Proofs.YtemoiphdjocaiaaGreat
