/-
  What the laws' functions that measure answer. Conditions: none.
-/
import Derived.Test.YtemoiphdjocaiaaGreatPvTy
import Derived.Test.YtemoiphdjocaiaaGreatPvTo
set_option linter.all false
set_option linter.unusedSimpArgs false
set_option linter.unusedVariables false
namespace Go.Proofs.YtemoiphdjocaiaaGreat
open Go.Pv
set_option linter.unusedSimpArgs false
set_option maxRecDepth 100000
set_option maxHeartbeats 4000000

def ck (v : Int) (k : Int → Int) : Int := bif decide (v < 0) then -1 else k v
def szLoop (f : Nat → Int → Int) : Nat → Nat → Int → Int
  | 0, _, l => l
  | k + 1, i, l => ck (f i l) fun l' => szLoop f k (i + 1) l'
theorem szL_bad {f : Nat → Int → Int} {n i : Nat} {l : Int} (h : i < n) (hb : decide (f i l < 0) = true) : szLoop f (n - i) i l = -1 := by
  rw [show n - i = (n - (i + 1)) + 1 by omega, szLoop, ck, hb]; rfl
theorem szL_ok {f : Nat → Int → Int} {n i : Nat} {l : Int} (h : i < n) (hb : decide (f i l < 0) = false) : szLoop f (n - (i + 1)) (i + 1) (f i l) = szLoop f (n - i) i l := by
  rw [show n - i = (n - (i + 1)) + 1 by omega, szLoop, ck, hb]; rfl
theorem ck_t {v : Int} {k : Int → Int} (h : decide (v < 0) = true) : ck v k = -1 := by unfold ck; rw [h]; rfl
theorem ck_f {v : Int} {k : Int → Int} (h : decide (v < 0) = false) : ck v k = k v := by unfold ck; rw [h]; rfl

def szStringSF (x : List ByteArray) (i : Nat) (l : Int) : Int := IntKind.i64.wrap (l - (((x.getD i ⟨#[]⟩).size : Nat) : Int))
def szStringS (x : List ByteArray) (l : Int) : Int := ck (IntKind.i64.wrap (l - ((x.length : Nat) : Int))) fun l => szLoop (szStringSF x) x.length 0 l
def an92 : List PV → PV
  | [.sl _ p, .int _ l] => .int .i64 (szStringS (p.map decS) l)
  | _ => .undef
theorem pc92 (x : List ByteArray) (l : Int) : PC Tryz.prog 92 [.sl 1 (x.map encS), .int .i64 l] (.int .i64 (szStringS x l)) := by
  refine PC.of_vc mixed (phiOf []) Tryz.func92 (by kernel_rfl) (rfl : Tryz.f92.body = some _) Tryz.ntmps92 (by kernel_rfl) rfl (by kernel_rfl) Tryz.results92 fun hwf => ?_
  simp only [pvB, ↓pvP, pvDom, simprocAttr, pvI, pvY]
  have hw : x.length ≤ 140737488355328 := by
    have h := hwf.1.1
    rw [List.length_map] at h
    exact h
  clear hwf
  refine ⟨fun h => by simp only [szStringS, ck_t h]; exact Le.refl _, fun h => ?_⟩
  have hA : szStringS x l = szLoop (szStringSF x) x.length 0 (IntKind.i64.wrap (l - ((x.length : Nat) : Int))) := by simp only [szStringS, ck_f h]
  rw [hA]
  refine .inl ⟨[0, 1, 5], fun _ => 0, fun k vs H => ∃ (i : Nat) (l' : Int), i ≤ x.length ∧ k = x.length - i ∧ vs = [.sl 1 (x.map encS), .int .i64 l', .int .i64 i] ∧ H = [] ∧ szLoop (szStringSF x) (x.length - i) i l' = szLoop (szStringSF x) x.length 0 (IntKind.i64.wrap (l - ((x.length : Nat) : Int))), fun _ => Nat.zero_le _, ?_, ?_⟩
  · simp only [pvB, ↓pvP, pvDom, simprocAttr, pvI, pvY]
    exact ⟨_, 0, _, Nat.zero_le _, rfl, rfl, rfl⟩
  · rintro k vs H - ⟨i, l', hi, rfl, rfl, rfl, hI⟩
    rw [← hI]
    simp only [pvB, ↓pvP, pvDom, simprocAttr, pvI, pvY]
    refine ⟨fun h => ?_, fun h => ?_⟩
    · have h1 : i < x.length := dlt h
      exact ⟨in_of i h1, fun h2 => by rw [szL_bad h1 h2]; exact Le.refl _, fun h2 => ⟨_, by omega, i + 1, _, h1, rfl, by rw [w_add (by omega)]; rfl, szL_ok (f := szStringSF x) h1 h2⟩⟩
    · obtain rfl : i = x.length := by
        have := of_decide_eq_false h
        omega
      rw [Nat.sub_self]
      exact Le.refl _


def szIntS (x : List Int) (l : Int) : Int := ck (IntKind.i64.wrap (l - ((x.length : Nat) : Int))) fun l => l
def an93 : List PV → PV
  | [.sl _ p, .int _ l] => .int .i64 (szIntS (p.map decI) l)
  | _ => .undef
theorem pc93 (x : List Int) (l : Int) : PC Tryz.prog 93 [.sl 1 (x.map encI), .int .i64 l] (.int .i64 (szIntS x l)) := by
  refine PC.of_vc mixed (phiOf []) Tryz.func93 (by kernel_rfl) (rfl : Tryz.f93.body = some _) Tryz.ntmps93 (by kernel_rfl) rfl (by kernel_rfl) Tryz.results93 fun hwf => ?_
  simp only [pvB, ↓pvP, pvDom, simprocAttr, pvI, pvY]
  clear hwf
  exact ⟨fun h => by simp only [szIntS, ck_t h]; exact Le.refl _, fun h => by simp only [szIntS, ck_f h]; exact Le.refl _⟩


def szBoolS (x : List Bool) (l : Int) : Int := ck (IntKind.i64.wrap (l - ((x.length : Nat) : Int))) fun l => l
def an140 : List PV → PV
  | [.sl _ p, .int _ l] => .int .i64 (szBoolS (p.map decB) l)
  | _ => .undef
theorem pc140 (x : List Bool) (l : Int) : PC Tryz.prog 140 [.sl 1 (x.map encB), .int .i64 l] (.int .i64 (szBoolS x l)) := by
  refine PC.of_vc mixed (phiOf []) Tryz.func140 (by kernel_rfl) (rfl : Tryz.f140.body = some _) Tryz.ntmps140 (by kernel_rfl) rfl (by kernel_rfl) Tryz.results140 fun hwf => ?_
  simp only [pvB, ↓pvP, pvDom, simprocAttr, pvI, pvY]
  clear hwf
  exact ⟨fun h => by simp only [szBoolS, ck_t h]; exact Le.refl _, fun h => by simp only [szBoolS, ck_f h]; exact Le.refl _⟩


def szEntry (x : Entry) (l : Int) : Int := ck (IntKind.i64.wrap (l - ((x.name.size : Nat) : Int))) fun l => l
def an195 : List PV → PV
  | [.agg p, .int _ l] => .int .i64 (szEntry (Entry.dec p) l)
  | _ => .undef
theorem pc195 (x : Entry) (l : Int) : PC Tryz.prog 195 [.agg [.str x.name, .int .i64 x.id], .int .i64 l] (.int .i64 (szEntry x l)) := by
  refine PC.of_vc mixed (phiOf []) Tryz.func195 (by kernel_rfl) (rfl : Tryz.f195.body = some _) Tryz.ntmps195 (by kernel_rfl) rfl (by kernel_rfl) Tryz.results195 fun hwf => ?_
  simp only [pvB, ↓pvP, pvDom, simprocAttr, pvI, pvY]
  clear hwf
  exact ⟨fun h0 => by simp only [szEntry, ck_t h0]; exact Le.refl _, fun h0 => by simp only [szEntry, ck_f h0]; exact Le.refl _⟩


def szEntrySF (x : List Entry) (i : Nat) (l : Int) : Int := szEntry (x.getD i default) l
def szEntryS (x : List Entry) (l : Int) : Int := ck (IntKind.i64.wrap (l - ((x.length : Nat) : Int))) fun l => szLoop (szEntrySF x) x.length 0 l
def an188 : List PV → PV
  | [.sl _ p, .int _ l] => .int .i64 (szEntryS (p.map Entry.dec) l)
  | _ => .undef
theorem pc188 (x : List Entry) (l : Int) : PC Tryz.prog 188 [.sl 2 (x.map Entry.enc), .int .i64 l] (.int .i64 (szEntryS x l)) := by
  refine PC.of_vc mixed (phiOf [(195, an195)]) Tryz.func188 (by kernel_rfl) (rfl : Tryz.f188.body = some _) Tryz.ntmps188 (by kernel_rfl) rfl (by kernel_rfl) Tryz.results188 fun hwf => ?_
  simp only [pvB, ↓pvP, pvDom, simprocAttr, an195, pc195, pvI, pvY]
  have hw : x.length ≤ 140737488355328 := by
    have h := hwf.1.1
    rw [List.length_map] at h
    exact h
  clear hwf
  refine ⟨fun h => by simp only [szEntryS, ck_t h]; exact Le.refl _, fun h => ?_⟩
  have hA : szEntryS x l = szLoop (szEntrySF x) x.length 0 (IntKind.i64.wrap (l - ((x.length : Nat) : Int))) := by simp only [szEntryS, ck_f h]
  rw [hA]
  refine .inl ⟨[0, 1, 5], fun _ => 0, fun k vs H => ∃ (i : Nat) (l' : Int), i ≤ x.length ∧ k = x.length - i ∧ vs = [.sl 2 (x.map Entry.enc), .int .i64 l', .int .i64 i] ∧ H = [] ∧ szLoop (szEntrySF x) (x.length - i) i l' = szLoop (szEntrySF x) x.length 0 (IntKind.i64.wrap (l - ((x.length : Nat) : Int))), fun _ => Nat.zero_le _, ?_, ?_⟩
  · simp only [pvB, ↓pvP, pvDom, simprocAttr, pvI, pvY]
    exact ⟨_, 0, _, Nat.zero_le _, rfl, rfl, rfl⟩
  · rintro k vs H - ⟨i, l', hi, rfl, rfl, rfl, hI⟩
    rw [← hI]
    simp only [pvB, ↓pvP, pvDom, simprocAttr, pvI, pvY, an195, pc195]
    refine ⟨fun h => ?_, fun h => ?_⟩
    · have h1 : i < x.length := dlt h
      exact ⟨in_of i h1, fun h2 => by rw [szL_bad h1 h2]; exact Le.refl _, fun h2 => ⟨_, by omega, i + 1, _, h1, rfl, by rw [w_add (by omega)]; rfl, szL_ok (f := szEntrySF x) h1 h2⟩⟩
    · obtain rfl : i = x.length := by
        have := of_decide_eq_false h
        omega
      rw [Nat.sub_self]
      exact Le.refl _


def szInode (x : Inode) (l : Int) : Int := ck (IntKind.i64.wrap (l - ((x.text.size : Nat) : Int))) fun l => ck (szEntryS x.names l) fun l => l
def an170 : List PV → PV
  | [.agg p, .int _ l] => .int .i64 (szInode (Inode.dec p) l)
  | _ => .undef
theorem pc170 (x : Inode) (l : Int) : PC Tryz.prog 170 [.agg [.int .i64 x.kind, .int .i64 x.mode, .int .i64 x.owner, .int .i64 x.group, .int .i64 x.links, .int .i64 x.opens, .bool x.mark, .str x.text, .sl 2 (x.names.map Entry.enc)], .int .i64 l] (.int .i64 (szInode x l)) := by
  refine PC.of_vc mixed (phiOf [(188, an188)]) Tryz.func170 (by kernel_rfl) (rfl : Tryz.f170.body = some _) Tryz.ntmps170 (by kernel_rfl) rfl (by kernel_rfl) Tryz.results170 fun hwf => ?_
  simp only [pvB, ↓pvP, pvDom, simprocAttr, an188, pc188, pvI, pvY]
  clear hwf
  exact ⟨fun h0 => by simp only [szInode, ck_t h0]; exact Le.refl _, fun h0 => ⟨fun h1 => by simp only [szInode, ck_f h0, ck_t h1]; exact Le.refl _, fun h1 => by simp only [szInode, ck_f h0, ck_f h1]; exact Le.refl _⟩⟩


def szInodeSF (x : List Inode) (i : Nat) (l : Int) : Int := szInode (x.getD i default) l
def szInodeS (x : List Inode) (l : Int) : Int := ck (IntKind.i64.wrap (l - ((x.length : Nat) : Int))) fun l => szLoop (szInodeSF x) x.length 0 l
def an139 : List PV → PV
  | [.sl _ p, .int _ l] => .int .i64 (szInodeS (p.map Inode.dec) l)
  | _ => .undef
theorem pc139 (x : List Inode) (l : Int) : PC Tryz.prog 139 [.sl 9 (x.map Inode.enc), .int .i64 l] (.int .i64 (szInodeS x l)) := by
  refine PC.of_vc mixed (phiOf [(170, an170)]) Tryz.func139 (by kernel_rfl) (rfl : Tryz.f139.body = some _) Tryz.ntmps139 (by kernel_rfl) rfl (by kernel_rfl) Tryz.results139 fun hwf => ?_
  simp only [pvB, ↓pvP, pvDom, simprocAttr, an170, pc170, pvI, pvY]
  have hw : x.length ≤ 140737488355328 := by
    have h := hwf.1.1
    rw [List.length_map] at h
    exact h
  clear hwf
  refine ⟨fun h => by simp only [szInodeS, ck_t h]; exact Le.refl _, fun h => ?_⟩
  have hA : szInodeS x l = szLoop (szInodeSF x) x.length 0 (IntKind.i64.wrap (l - ((x.length : Nat) : Int))) := by simp only [szInodeS, ck_f h]
  rw [hA]
  refine .inl ⟨[0, 1, 5], fun _ => 0, fun k vs H => ∃ (i : Nat) (l' : Int), i ≤ x.length ∧ k = x.length - i ∧ vs = [.sl 9 (x.map Inode.enc), .int .i64 l', .int .i64 i] ∧ H = [] ∧ szLoop (szInodeSF x) (x.length - i) i l' = szLoop (szInodeSF x) x.length 0 (IntKind.i64.wrap (l - ((x.length : Nat) : Int))), fun _ => Nat.zero_le _, ?_, ?_⟩
  · simp only [pvB, ↓pvP, pvDom, simprocAttr, pvI, pvY]
    exact ⟨_, 0, _, Nat.zero_le _, rfl, rfl, rfl⟩
  · rintro k vs H - ⟨i, l', hi, rfl, rfl, rfl, hI⟩
    rw [← hI]
    simp only [pvB, ↓pvP, pvDom, simprocAttr, pvI, pvY, an170, pc170]
    refine ⟨fun h => ?_, fun h => ?_⟩
    · have h1 : i < x.length := dlt h
      exact ⟨in_of i h1, fun h2 => by rw [szL_bad h1 h2]; exact Le.refl _, fun h2 => ⟨_, by omega, i + 1, _, h1, rfl, by rw [w_add (by omega)]; rfl, szL_ok (f := szInodeSF x) h1 h2⟩⟩
    · obtain rfl : i = x.length := by
        have := of_decide_eq_false h
        omega
      rw [Nat.sub_self]
      exact Le.refl _


def szFs (x : Fs) (l : Int) : Int := ck (szInodeS x.nodes l) fun l => l
def an95 : List PV → PV
  | [.agg p, .int _ l] => .int .i64 (szFs (Fs.dec p) l)
  | _ => .undef
theorem pc95 (x : Fs) (l : Int) : PC Tryz.prog 95 [.agg [.sl 9 (x.nodes.map Inode.enc)], .int .i64 l] (.int .i64 (szFs x l)) := by
  refine PC.of_vc mixed (phiOf [(139, an139)]) Tryz.func95 (by kernel_rfl) (rfl : Tryz.f95.body = some _) Tryz.ntmps95 (by kernel_rfl) rfl (by kernel_rfl) Tryz.results95 fun hwf => ?_
  simp only [pvB, ↓pvP, pvDom, simprocAttr, an139, pc139, pvI, pvY]
  clear hwf
  exact ⟨fun h0 => by simp only [szFs, ck_t h0]; exact Le.refl _, fun h0 => by simp only [szFs, ck_f h0]; exact Le.refl _⟩


def szFsSF (x : List Fs) (i : Nat) (l : Int) : Int := szFs (x.getD i default) l
def szFsS (x : List Fs) (l : Int) : Int := ck (IntKind.i64.wrap (l - ((x.length : Nat) : Int))) fun l => szLoop (szFsSF x) x.length 0 l
def an53 : List PV → PV
  | [.sl _ p, .int _ l] => .int .i64 (szFsS (p.map Fs.dec) l)
  | _ => .undef
theorem pc53 (x : List Fs) (l : Int) : PC Tryz.prog 53 [.sl 1 (x.map Fs.enc), .int .i64 l] (.int .i64 (szFsS x l)) := by
  refine PC.of_vc mixed (phiOf [(95, an95)]) Tryz.func53 (by kernel_rfl) (rfl : Tryz.f53.body = some _) Tryz.ntmps53 (by kernel_rfl) rfl (by kernel_rfl) Tryz.results53 fun hwf => ?_
  simp only [pvB, ↓pvP, pvDom, simprocAttr, an95, pc95, pvI, pvY]
  have hw : x.length ≤ 140737488355328 := by
    have h := hwf.1.1
    rw [List.length_map] at h
    exact h
  clear hwf
  refine ⟨fun h => by simp only [szFsS, ck_t h]; exact Le.refl _, fun h => ?_⟩
  have hA : szFsS x l = szLoop (szFsSF x) x.length 0 (IntKind.i64.wrap (l - ((x.length : Nat) : Int))) := by simp only [szFsS, ck_f h]
  rw [hA]
  refine .inl ⟨[0, 1, 5], fun _ => 0, fun k vs H => ∃ (i : Nat) (l' : Int), i ≤ x.length ∧ k = x.length - i ∧ vs = [.sl 1 (x.map Fs.enc), .int .i64 l', .int .i64 i] ∧ H = [] ∧ szLoop (szFsSF x) (x.length - i) i l' = szLoop (szFsSF x) x.length 0 (IntKind.i64.wrap (l - ((x.length : Nat) : Int))), fun _ => Nat.zero_le _, ?_, ?_⟩
  · simp only [pvB, ↓pvP, pvDom, simprocAttr, pvI, pvY]
    exact ⟨_, 0, _, Nat.zero_le _, rfl, rfl, rfl⟩
  · rintro k vs H - ⟨i, l', hi, rfl, rfl, rfl, hI⟩
    rw [← hI]
    simp only [pvB, ↓pvP, pvDom, simprocAttr, pvI, pvY, an95, pc95]
    refine ⟨fun h => ?_, fun h => ?_⟩
    · have h1 : i < x.length := dlt h
      exact ⟨in_of i h1, fun h2 => by rw [szL_bad h1 h2]; exact Le.refl _, fun h2 => ⟨_, by omega, i + 1, _, h1, rfl, by rw [w_add (by omega)]; rfl, szL_ok (f := szFsSF x) h1 h2⟩⟩
    · obtain rfl : i = x.length := by
        have := of_decide_eq_false h
        omega
      rw [Nat.sub_self]
      exact Le.refl _


def szVfs (x : Vfs) (l : Int) : Int := ck (szFsS x.fss l) fun l => l
def an20 : List PV → PV
  | [.agg p, .int _ l] => .int .i64 (szVfs (Vfs.dec p) l)
  | _ => .undef
theorem pc20 (x : Vfs) (l : Int) : PC Tryz.prog 20 [.agg [.sl 1 (x.fss.map Fs.enc), .int .i64 x.mount], .int .i64 l] (.int .i64 (szVfs x l)) := by
  refine PC.of_vc mixed (phiOf [(53, an53)]) Tryz.func20 (by kernel_rfl) (rfl : Tryz.f20.body = some _) Tryz.ntmps20 (by kernel_rfl) rfl (by kernel_rfl) Tryz.results20 fun hwf => ?_
  simp only [pvB, ↓pvP, pvDom, simprocAttr, an53, pc53, pvI, pvY]
  clear hwf
  exact ⟨fun h0 => by simp only [szVfs, ck_t h0]; exact Le.refl _, fun h0 => by simp only [szVfs, ck_f h0]; exact Le.refl _⟩


def szAreaS (x : List Area) (l : Int) : Int := ck (IntKind.i64.wrap (l - ((x.length : Nat) : Int))) fun l => l
def an137 : List PV → PV
  | [.sl _ p, .int _ l] => .int .i64 (szAreaS (p.map Area.dec) l)
  | _ => .undef
theorem pc137 (x : List Area) (l : Int) : PC Tryz.prog 137 [.sl 4 (x.map Area.enc), .int .i64 l] (.int .i64 (szAreaS x l)) := by
  refine PC.of_vc mixed (phiOf []) Tryz.func137 (by kernel_rfl) (rfl : Tryz.f137.body = some _) Tryz.ntmps137 (by kernel_rfl) rfl (by kernel_rfl) Tryz.results137 fun hwf => ?_
  simp only [pvB, ↓pvP, pvDom, simprocAttr, pvI, pvY]
  clear hwf
  exact ⟨fun h => by simp only [szAreaS, ck_t h]; exact Le.refl _, fun h => by simp only [szAreaS, ck_f h]; exact Le.refl _⟩


def szSlotS (x : List Slot) (l : Int) : Int := ck (IntKind.i64.wrap (l - ((x.length : Nat) : Int))) fun l => l
def an138 : List PV → PV
  | [.sl _ p, .int _ l] => .int .i64 (szSlotS (p.map Slot.dec) l)
  | _ => .undef
theorem pc138 (x : List Slot) (l : Int) : PC Tryz.prog 138 [.sl 4 (x.map Slot.enc), .int .i64 l] (.int .i64 (szSlotS x l)) := by
  refine PC.of_vc mixed (phiOf []) Tryz.func138 (by kernel_rfl) (rfl : Tryz.f138.body = some _) Tryz.ntmps138 (by kernel_rfl) rfl (by kernel_rfl) Tryz.results138 fun hwf => ?_
  simp only [pvB, ↓pvP, pvDom, simprocAttr, pvI, pvY]
  clear hwf
  exact ⟨fun h => by simp only [szSlotS, ck_t h]; exact Le.refl _, fun h => by simp only [szSlotS, ck_f h]; exact Le.refl _⟩


def szSpace (x : Space) (l : Int) : Int := ck (szAreaS x.areas l) fun l => ck (szSlotS x.slots l) fun l => l
def an94 : List PV → PV
  | [.agg p, .int _ l] => .int .i64 (szSpace (Space.dec p) l)
  | _ => .undef
theorem pc94 (x : Space) (l : Int) : PC Tryz.prog 94 [.agg [.bool x.live, .sl 4 (x.areas.map Area.enc), .sl 4 (x.slots.map Slot.enc)], .int .i64 l] (.int .i64 (szSpace x l)) := by
  refine PC.of_vc mixed (phiOf [(137, an137), (138, an138)]) Tryz.func94 (by kernel_rfl) (rfl : Tryz.f94.body = some _) Tryz.ntmps94 (by kernel_rfl) rfl (by kernel_rfl) Tryz.results94 fun hwf => ?_
  simp only [pvB, ↓pvP, pvDom, simprocAttr, an137, pc137, an138, pc138, pvI, pvY]
  clear hwf
  exact ⟨fun h0 => by simp only [szSpace, ck_t h0]; exact Le.refl _, fun h0 => ⟨fun h1 => by simp only [szSpace, ck_f h0, ck_t h1]; exact Le.refl _, fun h1 => by simp only [szSpace, ck_f h0, ck_f h1]; exact Le.refl _⟩⟩


def szSpaceSF (x : List Space) (i : Nat) (l : Int) : Int := szSpace (x.getD i default) l
def szSpaceS (x : List Space) (l : Int) : Int := ck (IntKind.i64.wrap (l - ((x.length : Nat) : Int))) fun l => szLoop (szSpaceSF x) x.length 0 l
def an52 : List PV → PV
  | [.sl _ p, .int _ l] => .int .i64 (szSpaceS (p.map Space.dec) l)
  | _ => .undef
theorem pc52 (x : List Space) (l : Int) : PC Tryz.prog 52 [.sl 3 (x.map Space.enc), .int .i64 l] (.int .i64 (szSpaceS x l)) := by
  refine PC.of_vc mixed (phiOf [(94, an94)]) Tryz.func52 (by kernel_rfl) (rfl : Tryz.f52.body = some _) Tryz.ntmps52 (by kernel_rfl) rfl (by kernel_rfl) Tryz.results52 fun hwf => ?_
  simp only [pvB, ↓pvP, pvDom, simprocAttr, an94, pc94, pvI, pvY]
  have hw : x.length ≤ 140737488355328 := by
    have h := hwf.1.1
    rw [List.length_map] at h
    exact h
  clear hwf
  refine ⟨fun h => by simp only [szSpaceS, ck_t h]; exact Le.refl _, fun h => ?_⟩
  have hA : szSpaceS x l = szLoop (szSpaceSF x) x.length 0 (IntKind.i64.wrap (l - ((x.length : Nat) : Int))) := by simp only [szSpaceS, ck_f h]
  rw [hA]
  refine .inl ⟨[0, 1, 5], fun _ => 0, fun k vs H => ∃ (i : Nat) (l' : Int), i ≤ x.length ∧ k = x.length - i ∧ vs = [.sl 3 (x.map Space.enc), .int .i64 l', .int .i64 i] ∧ H = [] ∧ szLoop (szSpaceSF x) (x.length - i) i l' = szLoop (szSpaceSF x) x.length 0 (IntKind.i64.wrap (l - ((x.length : Nat) : Int))), fun _ => Nat.zero_le _, ?_, ?_⟩
  · simp only [pvB, ↓pvP, pvDom, simprocAttr, pvI, pvY]
    exact ⟨_, 0, _, Nat.zero_le _, rfl, rfl, rfl⟩
  · rintro k vs H - ⟨i, l', hi, rfl, rfl, rfl, hI⟩
    rw [← hI]
    simp only [pvB, ↓pvP, pvDom, simprocAttr, pvI, pvY, an94, pc94]
    refine ⟨fun h => ?_, fun h => ?_⟩
    · have h1 : i < x.length := dlt h
      exact ⟨in_of i h1, fun h2 => by rw [szL_bad h1 h2]; exact Le.refl _, fun h2 => ⟨_, by omega, i + 1, _, h1, rfl, by rw [w_add (by omega)]; rfl, szL_ok (f := szSpaceSF x) h1 h2⟩⟩
    · obtain rfl : i = x.length := by
        have := of_decide_eq_false h
        omega
      rw [Nat.sub_self]
      exact Le.refl _


def szPages (x : Pages) (l : Int) : Int := ck (szStringS x.text l) fun l => ck (szIntS x.refs l) fun l => l
def an51 : List PV → PV
  | [.agg p, .int _ l] => .int .i64 (szPages (Pages.dec p) l)
  | _ => .undef
theorem pc51 (x : Pages) (l : Int) : PC Tryz.prog 51 [.agg [.sl 1 (x.text.map encS), .sl 1 (x.refs.map encI)], .int .i64 l] (.int .i64 (szPages x l)) := by
  refine PC.of_vc mixed (phiOf [(92, an92), (93, an93)]) Tryz.func51 (by kernel_rfl) (rfl : Tryz.f51.body = some _) Tryz.ntmps51 (by kernel_rfl) rfl (by kernel_rfl) Tryz.results51 fun hwf => ?_
  simp only [pvB, ↓pvP, pvDom, simprocAttr, an92, pc92, an93, pc93, pvI, pvY]
  clear hwf
  exact ⟨fun h0 => by simp only [szPages, ck_t h0]; exact Le.refl _, fun h0 => ⟨fun h1 => by simp only [szPages, ck_f h0, ck_t h1]; exact Le.refl _, fun h1 => by simp only [szPages, ck_f h0, ck_f h1]; exact Le.refl _⟩⟩


def szMem (x : Mem) (l : Int) : Int := ck (szPages x.ram l) fun l => ck (szPages x.swap l) fun l => ck (szSpaceS x.spaces l) fun l => l
def an19 : List PV → PV
  | [.agg p, .int _ l] => .int .i64 (szMem (Mem.dec p) l)
  | _ => .undef
theorem pc19 (x : Mem) (l : Int) : PC Tryz.prog 19 [.agg [.sl 1 (x.ram.text.map encS), .sl 1 (x.ram.refs.map encI), .sl 1 (x.swap.text.map encS), .sl 1 (x.swap.refs.map encI), .sl 3 (x.spaces.map Space.enc), .int .i64 x.hand], .int .i64 l] (.int .i64 (szMem x l)) := by
  refine PC.of_vc mixed (phiOf [(51, an51), (52, an52)]) Tryz.func19 (by kernel_rfl) (rfl : Tryz.f19.body = some _) Tryz.ntmps19 (by kernel_rfl) rfl (by kernel_rfl) Tryz.results19 fun hwf => ?_
  simp only [pvB, ↓pvP, pvDom, simprocAttr, an51, pc51, an52, pc52, pvI, pvY]
  clear hwf
  exact ⟨fun h0 => by simp only [szMem, ck_t h0]; exact Le.refl _, fun h0 => ⟨fun h1 => by simp only [szMem, ck_f h0, ck_t h1]; exact Le.refl _, fun h1 => ⟨fun h2 => by simp only [szMem, ck_f h0, ck_f h1, ck_t h2]; exact Le.refl _, fun h2 => by simp only [szMem, ck_f h0, ck_f h1, ck_f h2]; exact Le.refl _⟩⟩⟩


def szFileS (x : List File) (l : Int) : Int := ck (IntKind.i64.wrap (l - ((x.length : Nat) : Int))) fun l => l
def an21 : List PV → PV
  | [.sl _ p, .int _ l] => .int .i64 (szFileS (p.map File.dec) l)
  | _ => .undef
theorem pc21 (x : List File) (l : Int) : PC Tryz.prog 21 [.sl 8 (x.map File.enc), .int .i64 l] (.int .i64 (szFileS x l)) := by
  refine PC.of_vc mixed (phiOf []) Tryz.func21 (by kernel_rfl) (rfl : Tryz.f21.body = some _) Tryz.ntmps21 (by kernel_rfl) rfl (by kernel_rfl) Tryz.results21 fun hwf => ?_
  simp only [pvB, ↓pvP, pvDom, simprocAttr, pvI, pvY]
  clear hwf
  exact ⟨fun h => by simp only [szFileS, ck_t h]; exact Le.refl _, fun h => by simp only [szFileS, ck_f h]; exact Le.refl _⟩


def szPipe (x : Pipe) (l : Int) : Int := ck (IntKind.i64.wrap (l - ((x.text.size : Nat) : Int))) fun l => l
def an54 : List PV → PV
  | [.agg p, .int _ l] => .int .i64 (szPipe (Pipe.dec p) l)
  | _ => .undef
theorem pc54 (x : Pipe) (l : Int) : PC Tryz.prog 54 [.agg [.str x.text, .int .i64 x.readers, .int .i64 x.writers], .int .i64 l] (.int .i64 (szPipe x l)) := by
  refine PC.of_vc mixed (phiOf []) Tryz.func54 (by kernel_rfl) (rfl : Tryz.f54.body = some _) Tryz.ntmps54 (by kernel_rfl) rfl (by kernel_rfl) Tryz.results54 fun hwf => ?_
  simp only [pvB, ↓pvP, pvDom, simprocAttr, pvI, pvY]
  clear hwf
  exact ⟨fun h0 => by simp only [szPipe, ck_t h0]; exact Le.refl _, fun h0 => by simp only [szPipe, ck_f h0]; exact Le.refl _⟩


def szPipeSF (x : List Pipe) (i : Nat) (l : Int) : Int := szPipe (x.getD i default) l
def szPipeS (x : List Pipe) (l : Int) : Int := ck (IntKind.i64.wrap (l - ((x.length : Nat) : Int))) fun l => szLoop (szPipeSF x) x.length 0 l
def an22 : List PV → PV
  | [.sl _ p, .int _ l] => .int .i64 (szPipeS (p.map Pipe.dec) l)
  | _ => .undef
theorem pc22 (x : List Pipe) (l : Int) : PC Tryz.prog 22 [.sl 3 (x.map Pipe.enc), .int .i64 l] (.int .i64 (szPipeS x l)) := by
  refine PC.of_vc mixed (phiOf [(54, an54)]) Tryz.func22 (by kernel_rfl) (rfl : Tryz.f22.body = some _) Tryz.ntmps22 (by kernel_rfl) rfl (by kernel_rfl) Tryz.results22 fun hwf => ?_
  simp only [pvB, ↓pvP, pvDom, simprocAttr, an54, pc54, pvI, pvY]
  have hw : x.length ≤ 140737488355328 := by
    have h := hwf.1.1
    rw [List.length_map] at h
    exact h
  clear hwf
  refine ⟨fun h => by simp only [szPipeS, ck_t h]; exact Le.refl _, fun h => ?_⟩
  have hA : szPipeS x l = szLoop (szPipeSF x) x.length 0 (IntKind.i64.wrap (l - ((x.length : Nat) : Int))) := by simp only [szPipeS, ck_f h]
  rw [hA]
  refine .inl ⟨[0, 1, 5], fun _ => 0, fun k vs H => ∃ (i : Nat) (l' : Int), i ≤ x.length ∧ k = x.length - i ∧ vs = [.sl 3 (x.map Pipe.enc), .int .i64 l', .int .i64 i] ∧ H = [] ∧ szLoop (szPipeSF x) (x.length - i) i l' = szLoop (szPipeSF x) x.length 0 (IntKind.i64.wrap (l - ((x.length : Nat) : Int))), fun _ => Nat.zero_le _, ?_, ?_⟩
  · simp only [pvB, ↓pvP, pvDom, simprocAttr, pvI, pvY]
    exact ⟨_, 0, _, Nat.zero_le _, rfl, rfl, rfl⟩
  · rintro k vs H - ⟨i, l', hi, rfl, rfl, rfl, hI⟩
    rw [← hI]
    simp only [pvB, ↓pvP, pvDom, simprocAttr, pvI, pvY, an54, pc54]
    refine ⟨fun h => ?_, fun h => ?_⟩
    · have h1 : i < x.length := dlt h
      exact ⟨in_of i h1, fun h2 => by rw [szL_bad h1 h2]; exact Le.refl _, fun h2 => ⟨_, by omega, i + 1, _, h1, rfl, by rw [w_add (by omega)]; rfl, szL_ok (f := szPipeSF x) h1 h2⟩⟩
    · obtain rfl : i = x.length := by
        have := of_decide_eq_false h
        omega
      rw [Nat.sub_self]
      exact Le.refl _


def szCred (x : Cred) (l : Int) : Int := ck (szIntS x.groups l) fun l => l
def an96 : List PV → PV
  | [.agg p, .int _ l] => .int .i64 (szCred (Cred.dec p) l)
  | _ => .undef
theorem pc96 (x : Cred) (l : Int) : PC Tryz.prog 96 [.agg [.int .i64 x.user, .int .i64 x.real, .sl 1 (x.groups.map encI)], .int .i64 l] (.int .i64 (szCred x l)) := by
  refine PC.of_vc mixed (phiOf [(93, an93)]) Tryz.func96 (by kernel_rfl) (rfl : Tryz.f96.body = some _) Tryz.ntmps96 (by kernel_rfl) rfl (by kernel_rfl) Tryz.results96 fun hwf => ?_
  simp only [pvB, ↓pvP, pvDom, simprocAttr, an93, pc93, pvI, pvY]
  clear hwf
  exact ⟨fun h0 => by simp only [szCred, ck_t h0]; exact Le.refl _, fun h0 => by simp only [szCred, ck_f h0]; exact Le.refl _⟩


def szSigs (x : Sigs) (l : Int) : Int := ck (szBoolS x.here l) fun l => ck (szBoolS x.block l) fun l => ck (szIntS x.does l) fun l => l
def an97 : List PV → PV
  | [.agg p, .int _ l] => .int .i64 (szSigs (Sigs.dec p) l)
  | _ => .undef
theorem pc97 (x : Sigs) (l : Int) : PC Tryz.prog 97 [.agg [.sl 1 (x.here.map encB), .sl 1 (x.block.map encB), .sl 1 (x.does.map encI)], .int .i64 l] (.int .i64 (szSigs x l)) := by
  refine PC.of_vc mixed (phiOf [(140, an140), (93, an93)]) Tryz.func97 (by kernel_rfl) (rfl : Tryz.f97.body = some _) Tryz.ntmps97 (by kernel_rfl) rfl (by kernel_rfl) Tryz.results97 fun hwf => ?_
  simp only [pvB, ↓pvP, pvDom, simprocAttr, an140, pc140, an93, pc93, pvI, pvY]
  clear hwf
  exact ⟨fun h0 => by simp only [szSigs, ck_t h0]; exact Le.refl _, fun h0 => ⟨fun h1 => by simp only [szSigs, ck_f h0, ck_t h1]; exact Le.refl _, fun h1 => ⟨fun h2 => by simp only [szSigs, ck_f h0, ck_f h1, ck_t h2]; exact Le.refl _, fun h2 => by simp only [szSigs, ck_f h0, ck_f h1, ck_f h2]; exact Le.refl _⟩⟩⟩


def szProc (x : Proc) (l : Int) : Int := ck (szCred x.who l) fun l => ck (szIntS x.fds l) fun l => ck (szSigs x.sigs l) fun l => l
def an55 : List PV → PV
  | [.agg p, .int _ l] => .int .i64 (szProc (Proc.dec p) l)
  | _ => .undef
theorem pc55 (x : Proc) (l : Int) : PC Tryz.prog 55 [.agg [.int .i64 x.state, .int .i64 x.parent, .int .i64 x.code, .int .i64 x.who.user, .int .i64 x.who.real, .sl 1 (x.who.groups.map encI), .int .i64 x.space, .sl 1 (x.fds.map encI), .sl 1 (x.sigs.here.map encB), .sl 1 (x.sigs.block.map encB), .sl 1 (x.sigs.does.map encI), .int .i64 x.dir.fs, .int .i64 x.dir.id, .int .i64 x.on], .int .i64 l] (.int .i64 (szProc x l)) := by
  refine PC.of_vc mixed (phiOf [(96, an96), (93, an93), (97, an97)]) Tryz.func55 (by kernel_rfl) (rfl : Tryz.f55.body = some _) Tryz.ntmps55 (by kernel_rfl) rfl (by kernel_rfl) Tryz.results55 fun hwf => ?_
  simp only [pvB, ↓pvP, pvDom, simprocAttr, an96, pc96, an93, pc93, an97, pc97, pvI, pvY]
  clear hwf
  exact ⟨fun h0 => by simp only [szProc, ck_t h0]; exact Le.refl _, fun h0 => ⟨fun h1 => by simp only [szProc, ck_f h0, ck_t h1]; exact Le.refl _, fun h1 => ⟨fun h2 => by simp only [szProc, ck_f h0, ck_f h1, ck_t h2]; exact Le.refl _, fun h2 => by simp only [szProc, ck_f h0, ck_f h1, ck_f h2]; exact Le.refl _⟩⟩⟩


def szProcSF (x : List Proc) (i : Nat) (l : Int) : Int := szProc (x.getD i default) l
def szProcS (x : List Proc) (l : Int) : Int := ck (IntKind.i64.wrap (l - ((x.length : Nat) : Int))) fun l => szLoop (szProcSF x) x.length 0 l
def an23 : List PV → PV
  | [.sl _ p, .int _ l] => .int .i64 (szProcS (p.map Proc.dec) l)
  | _ => .undef
theorem pc23 (x : List Proc) (l : Int) : PC Tryz.prog 23 [.sl 14 (x.map Proc.enc), .int .i64 l] (.int .i64 (szProcS x l)) := by
  refine PC.of_vc mixed (phiOf [(55, an55)]) Tryz.func23 (by kernel_rfl) (rfl : Tryz.f23.body = some _) Tryz.ntmps23 (by kernel_rfl) rfl (by kernel_rfl) Tryz.results23 fun hwf => ?_
  simp only [pvB, ↓pvP, pvDom, simprocAttr, an55, pc55, pvI, pvY]
  have hw : x.length ≤ 140737488355328 := by
    have h := hwf.1.1
    rw [List.length_map] at h
    exact h
  clear hwf
  refine ⟨fun h => by simp only [szProcS, ck_t h]; exact Le.refl _, fun h => ?_⟩
  have hA : szProcS x l = szLoop (szProcSF x) x.length 0 (IntKind.i64.wrap (l - ((x.length : Nat) : Int))) := by simp only [szProcS, ck_f h]
  rw [hA]
  refine .inl ⟨[0, 1, 5], fun _ => 0, fun k vs H => ∃ (i : Nat) (l' : Int), i ≤ x.length ∧ k = x.length - i ∧ vs = [.sl 14 (x.map Proc.enc), .int .i64 l', .int .i64 i] ∧ H = [] ∧ szLoop (szProcSF x) (x.length - i) i l' = szLoop (szProcSF x) x.length 0 (IntKind.i64.wrap (l - ((x.length : Nat) : Int))), fun _ => Nat.zero_le _, ?_, ?_⟩
  · simp only [pvB, ↓pvP, pvDom, simprocAttr, pvI, pvY]
    exact ⟨_, 0, _, Nat.zero_le _, rfl, rfl, rfl⟩
  · rintro k vs H - ⟨i, l', hi, rfl, rfl, rfl, hI⟩
    rw [← hI]
    simp only [pvB, ↓pvP, pvDom, simprocAttr, pvI, pvY, an55, pc55]
    refine ⟨fun h => ?_, fun h => ?_⟩
    · have h1 : i < x.length := dlt h
      exact ⟨in_of i h1, fun h2 => by rw [szL_bad h1 h2]; exact Le.refl _, fun h2 => ⟨_, by omega, i + 1, _, h1, rfl, by rw [w_add (by omega)]; rfl, szL_ok (f := szProcSF x) h1 h2⟩⟩
    · obtain rfl : i = x.length := by
        have := of_decide_eq_false h
        omega
      rw [Nat.sub_self]
      exact Le.refl _


def szTaskS (x : List Task) (l : Int) : Int := ck (IntKind.i64.wrap (l - ((x.length : Nat) : Int))) fun l => l
def an56 : List PV → PV
  | [.sl _ p, .int _ l] => .int .i64 (szTaskS (p.map Task.dec) l)
  | _ => .undef
theorem pc56 (x : List Task) (l : Int) : PC Tryz.prog 56 [.sl 4 (x.map Task.enc), .int .i64 l] (.int .i64 (szTaskS x l)) := by
  refine PC.of_vc mixed (phiOf []) Tryz.func56 (by kernel_rfl) (rfl : Tryz.f56.body = some _) Tryz.ntmps56 (by kernel_rfl) rfl (by kernel_rfl) Tryz.results56 fun hwf => ?_
  simp only [pvB, ↓pvP, pvDom, simprocAttr, pvI, pvY]
  clear hwf
  exact ⟨fun h => by simp only [szTaskS, ck_t h]; exact Le.refl _, fun h => by simp only [szTaskS, ck_f h]; exact Le.refl _⟩


def szQueue (x : Queue) (l : Int) : Int := ck (szTaskS x.tasks l) fun l => l
def an24 : List PV → PV
  | [.agg p, .int _ l] => .int .i64 (szQueue (Queue.dec p) l)
  | _ => .undef
theorem pc24 (x : Queue) (l : Int) : PC Tryz.prog 24 [.agg [.sl 4 (x.tasks.map Task.enc), .int .i64 x.floor], .int .i64 l] (.int .i64 (szQueue x l)) := by
  refine PC.of_vc mixed (phiOf [(56, an56)]) Tryz.func24 (by kernel_rfl) (rfl : Tryz.f24.body = some _) Tryz.ntmps24 (by kernel_rfl) rfl (by kernel_rfl) Tryz.results24 fun hwf => ?_
  simp only [pvB, ↓pvP, pvDom, simprocAttr, an56, pc56, pvI, pvY]
  clear hwf
  exact ⟨fun h0 => by simp only [szQueue, ck_t h0]; exact Le.refl _, fun h0 => by simp only [szQueue, ck_f h0]; exact Le.refl _⟩


def szKern (x : Kern) (l : Int) : Int := ck (szMem x.mem l) fun l => ck (szVfs x.vfs l) fun l => ck (szFileS x.files l) fun l => ck (szPipeS x.pipes l) fun l => ck (szProcS x.procs l) fun l => ck (szQueue x.queue l) fun l => l
def an6 : List PV → PV
  | [.agg p, .int _ l] => .int .i64 (szKern (Kern.dec p) l)
  | _ => .undef
theorem pc6 (x : Kern) (l : Int) : PC Tryz.prog 6 [.agg [.sl 1 (x.mem.ram.text.map encS), .sl 1 (x.mem.ram.refs.map encI), .sl 1 (x.mem.swap.text.map encS), .sl 1 (x.mem.swap.refs.map encI), .sl 3 (x.mem.spaces.map Space.enc), .int .i64 x.mem.hand, .sl 1 (x.vfs.fss.map Fs.enc), .int .i64 x.vfs.mount, .sl 8 (x.files.map File.enc), .sl 3 (x.pipes.map Pipe.enc), .sl 14 (x.procs.map Proc.enc), .sl 4 (x.queue.tasks.map Task.enc), .int .i64 x.queue.floor], .int .i64 l] (.int .i64 (szKern x l)) := by
  refine PC.of_vc mixed (phiOf [(19, an19), (20, an20), (21, an21), (22, an22), (23, an23), (24, an24)]) Tryz.func6 (by kernel_rfl) (rfl : Tryz.f6.body = some _) Tryz.ntmps6 (by kernel_rfl) rfl (by kernel_rfl) Tryz.results6 fun hwf => ?_
  simp only [pvB, ↓pvP, pvDom, simprocAttr, an19, pc19, an20, pc20, an21, pc21, an22, pc22, an23, pc23, an24, pc24, pvI, pvY]
  clear hwf
  exact ⟨fun h0 => by simp only [szKern, ck_t h0]; exact Le.refl _, fun h0 => ⟨fun h1 => by simp only [szKern, ck_f h0, ck_t h1]; exact Le.refl _, fun h1 => ⟨fun h2 => by simp only [szKern, ck_f h0, ck_f h1, ck_t h2]; exact Le.refl _, fun h2 => ⟨fun h3 => by simp only [szKern, ck_f h0, ck_f h1, ck_f h2, ck_t h3]; exact Le.refl _, fun h3 => ⟨fun h4 => by simp only [szKern, ck_f h0, ck_f h1, ck_f h2, ck_f h3, ck_t h4]; exact Le.refl _, fun h4 => ⟨fun h5 => by simp only [szKern, ck_f h0, ck_f h1, ck_f h2, ck_f h3, ck_f h4, ck_t h5]; exact Le.refl _, fun h5 => by simp only [szKern, ck_f h0, ck_f h1, ck_f h2, ck_f h3, ck_f h4, ck_f h5]; exact Le.refl _⟩⟩⟩⟩⟩⟩


end Go.Proofs.YtemoiphdjocaiaaGreat

namespace Go.Proofs.YtemoiphdjocaiaaGreat
open Go.Pv
set_option linter.unusedSimpArgs false
set_option maxRecDepth 100000
set_option maxHeartbeats 4000000

theorem ck_inv {v : Int} {k : Int → Int} (h : 0 ≤ ck v k) : 0 ≤ v ∧ ck v k = k v := by
  cases hd : decide (v < 0) with
  | true => rw [ck_t hd] at h; omega
  | false => exact ⟨by have := of_decide_eq_false hd; omega, ck_f hd⟩
theorem wrapsub {l : Int} {n : Nat} (h0 : 0 ≤ l) (h1 : l ≤ 1048576) (hn : n ≤ 140737488355328) : IntKind.i64.wrap (l - (n : Int)) = l - n := w64_of (by omega) (by omega)
theorem szL_inv {F : Nat → Int → Int} {Q : Nat → Prop} {n : Nat} (hF : ∀ j, j < n → ∀ l, 0 ≤ l → l ≤ 1048576 → 0 ≤ F j l → F j l ≤ l ∧ Q j) : ∀ (k i : Nat) (l : Int), i + k ≤ n → 0 ≤ l → l ≤ 1048576 → 0 ≤ szLoop F k i l → szLoop F k i l ≤ l ∧ ∀ j, i ≤ j → j < i + k → Q j
  | 0, i, l, _, _, _, _ => ⟨Int.le_refl _, fun j h1 h2 => by omega⟩
  | k + 1, i, l, hn, h0, h1, h => by
    rw [szLoop] at h ⊢
    obtain ⟨g1, e1⟩ := ck_inv h
    rw [e1] at h ⊢
    obtain ⟨f1, f2⟩ := hF i (by omega) l h0 h1 g1
    obtain ⟨r1, r2⟩ := szL_inv hF k (i + 1) (F i l) (by omega) g1 (by omega) h
    refine ⟨by omega, fun j h2 h3 => ?_⟩
    by_cases hj : j = i
    · subst hj; exact f2
    · exact r2 j (by omega) (by omega)
theorem wfE_get {α : Type} (f : α → List PV) (d : α) : ∀ (x : List α), wfE (x.map f) → ∀ i, i < x.length → wfL (f (x.getD i d))
  | [], _, i, hi => absurd hi (Nat.not_lt_zero i)
  | a :: r, h, 0, _ => h.1
  | a :: r, h, i + 1, hi => wfE_get f d r h.2 i (by simpa using hi)

theorem szlStringS (x : List ByteArray) (l : Int) (h0 : 0 ≤ l) (h1 : l ≤ 1048576) (hb : szdStringS 140737488355328 x) (h : 0 ≤ szStringS x l) : szStringS x l ≤ l ∧ szdStringS 1048576 x := by
  unfold szStringS at h ⊢
  obtain ⟨g0, e0⟩ := ck_inv h
  rw [e0] at h ⊢
  have b0 : x.length ≤ 140737488355328 := hb.1
  have w0 := wrapsub (l := l) h0 h1 b0
  rw [w0] at g0 h ⊢
  obtain ⟨r1, r2⟩ := szL_inv (Q := (fun j => (x.getD j ⟨#[]⟩).size ≤ 1048576)) (n := x.length) (F := szStringSF x) (fun j hj l' a0 a1 a2 => by
    have w1 := wrapsub (l := l') a0 a1 (hb.2 j hj)
    have a2 : 0 ≤ IntKind.i64.wrap (l' - (((x.getD j ⟨#[]⟩).size : Nat) : Int)) := a2
    rw [w1] at a2
    refine ⟨?_, show (x.getD j ⟨#[]⟩).size ≤ 1048576 by omega⟩
    show IntKind.i64.wrap (l' - (((x.getD j ⟨#[]⟩).size : Nat) : Int)) ≤ l'
    rw [w1]; omega) x.length 0 (l - (x.length : Int)) (by omega) g0 (by omega) h
  exact ⟨by omega, (show x.length ≤ 1048576 by omega), fun i hi => r2 i (Nat.zero_le i) (by omega)⟩

theorem szlIntS (x : List Int) (l : Int) (h0 : 0 ≤ l) (h1 : l ≤ 1048576) (hb : szdIntS 140737488355328 x) (h : 0 ≤ szIntS x l) : szIntS x l ≤ l ∧ szdIntS 1048576 x := by
  unfold szIntS at h ⊢
  obtain ⟨g0, e0⟩ := ck_inv h
  rw [e0] at h ⊢
  have b0 : x.length ≤ 140737488355328 := hb
  have w0 := wrapsub (l := l) h0 h1 b0
  rw [w0] at g0 h ⊢
  exact ⟨by omega, (show x.length ≤ 1048576 by omega)⟩

theorem szlBoolS (x : List Bool) (l : Int) (h0 : 0 ≤ l) (h1 : l ≤ 1048576) (hb : szdBoolS 140737488355328 x) (h : 0 ≤ szBoolS x l) : szBoolS x l ≤ l ∧ szdBoolS 1048576 x := by
  unfold szBoolS at h ⊢
  obtain ⟨g0, e0⟩ := ck_inv h
  rw [e0] at h ⊢
  have b0 : x.length ≤ 140737488355328 := hb
  have w0 := wrapsub (l := l) h0 h1 b0
  rw [w0] at g0 h ⊢
  exact ⟨by omega, (show x.length ≤ 1048576 by omega)⟩

theorem szlEntry (x : Entry) (l : Int) (h0 : 0 ≤ l) (h1 : l ≤ 1048576) (hb : szdEntry 140737488355328 x) (h : 0 ≤ szEntry x l) : szEntry x l ≤ l ∧ szdEntry 1048576 x := by
  unfold szEntry at h ⊢
  obtain ⟨g0, e0⟩ := ck_inv h
  rw [e0] at h ⊢
  have b0 : x.name.size ≤ 140737488355328 := hb
  have w0 := wrapsub (l := l) h0 h1 b0
  rw [w0] at g0 h ⊢
  have t0 : (l - (x.name.size : Int)) ≤ 1048576 := by omega
  exact ⟨by omega, (show x.name.size ≤ 1048576 by omega)⟩

theorem szlEntryS (x : List Entry) (l : Int) (h0 : 0 ≤ l) (h1 : l ≤ 1048576) (hb : szdEntryS 140737488355328 x) (h : 0 ≤ szEntryS x l) : szEntryS x l ≤ l ∧ szdEntryS 1048576 x := by
  unfold szEntryS at h ⊢
  obtain ⟨g0, e0⟩ := ck_inv h
  rw [e0] at h ⊢
  have b0 : x.length ≤ 140737488355328 := hb.1
  have w0 := wrapsub (l := l) h0 h1 b0
  rw [w0] at g0 h ⊢
  obtain ⟨r1, r2⟩ := szL_inv (Q := (fun j => szdEntry 1048576 (x.getD j default))) (n := x.length) (F := szEntrySF x) (fun j hj l' a0 a1 a2 => szlEntry (x.getD j default) l' a0 a1 (hb.2 j hj) a2) x.length 0 (l - (x.length : Int)) (by omega) g0 (by omega) h
  exact ⟨by omega, (show x.length ≤ 1048576 by omega), fun i hi => r2 i (Nat.zero_le i) (by omega)⟩

theorem szlInode (x : Inode) (l : Int) (h0 : 0 ≤ l) (h1 : l ≤ 1048576) (hb : szdInode 140737488355328 x) (h : 0 ≤ szInode x l) : szInode x l ≤ l ∧ szdInode 1048576 x := by
  unfold szInode at h ⊢
  obtain ⟨g0, e0⟩ := ck_inv h
  rw [e0] at h ⊢
  have b0 : x.text.size ≤ 140737488355328 := hb.1
  have w0 := wrapsub (l := l) h0 h1 b0
  rw [w0] at g0 h ⊢
  have t0 : (l - (x.text.size : Int)) ≤ 1048576 := by omega
  obtain ⟨g1, e1⟩ := ck_inv h
  rw [e1] at h ⊢
  obtain ⟨q1, r1⟩ := szlEntryS x.names (l - (x.text.size : Int)) g0 t0 hb.2 g1
  have t1 : (szEntryS x.names (l - (x.text.size : Int))) ≤ 1048576 := by omega
  exact ⟨by omega, ⟨(show x.text.size ≤ 1048576 by omega), r1⟩⟩

theorem szlInodeS (x : List Inode) (l : Int) (h0 : 0 ≤ l) (h1 : l ≤ 1048576) (hb : szdInodeS 140737488355328 x) (h : 0 ≤ szInodeS x l) : szInodeS x l ≤ l ∧ szdInodeS 1048576 x := by
  unfold szInodeS at h ⊢
  obtain ⟨g0, e0⟩ := ck_inv h
  rw [e0] at h ⊢
  have b0 : x.length ≤ 140737488355328 := hb.1
  have w0 := wrapsub (l := l) h0 h1 b0
  rw [w0] at g0 h ⊢
  obtain ⟨r1, r2⟩ := szL_inv (Q := (fun j => szdInode 1048576 (x.getD j default))) (n := x.length) (F := szInodeSF x) (fun j hj l' a0 a1 a2 => szlInode (x.getD j default) l' a0 a1 (hb.2 j hj) a2) x.length 0 (l - (x.length : Int)) (by omega) g0 (by omega) h
  exact ⟨by omega, (show x.length ≤ 1048576 by omega), fun i hi => r2 i (Nat.zero_le i) (by omega)⟩

theorem szlFs (x : Fs) (l : Int) (h0 : 0 ≤ l) (h1 : l ≤ 1048576) (hb : szdFs 140737488355328 x) (h : 0 ≤ szFs x l) : szFs x l ≤ l ∧ szdFs 1048576 x := by
  unfold szFs at h ⊢
  obtain ⟨g0, e0⟩ := ck_inv h
  rw [e0] at h ⊢
  obtain ⟨q0, r0⟩ := szlInodeS x.nodes l h0 h1 hb g0
  have t0 : (szInodeS x.nodes l) ≤ 1048576 := by omega
  exact ⟨by omega, r0⟩

theorem szlFsS (x : List Fs) (l : Int) (h0 : 0 ≤ l) (h1 : l ≤ 1048576) (hb : szdFsS 140737488355328 x) (h : 0 ≤ szFsS x l) : szFsS x l ≤ l ∧ szdFsS 1048576 x := by
  unfold szFsS at h ⊢
  obtain ⟨g0, e0⟩ := ck_inv h
  rw [e0] at h ⊢
  have b0 : x.length ≤ 140737488355328 := hb.1
  have w0 := wrapsub (l := l) h0 h1 b0
  rw [w0] at g0 h ⊢
  obtain ⟨r1, r2⟩ := szL_inv (Q := (fun j => szdFs 1048576 (x.getD j default))) (n := x.length) (F := szFsSF x) (fun j hj l' a0 a1 a2 => szlFs (x.getD j default) l' a0 a1 (hb.2 j hj) a2) x.length 0 (l - (x.length : Int)) (by omega) g0 (by omega) h
  exact ⟨by omega, (show x.length ≤ 1048576 by omega), fun i hi => r2 i (Nat.zero_le i) (by omega)⟩

theorem szlVfs (x : Vfs) (l : Int) (h0 : 0 ≤ l) (h1 : l ≤ 1048576) (hb : szdVfs 140737488355328 x) (h : 0 ≤ szVfs x l) : szVfs x l ≤ l ∧ szdVfs 1048576 x := by
  unfold szVfs at h ⊢
  obtain ⟨g0, e0⟩ := ck_inv h
  rw [e0] at h ⊢
  obtain ⟨q0, r0⟩ := szlFsS x.fss l h0 h1 hb g0
  have t0 : (szFsS x.fss l) ≤ 1048576 := by omega
  exact ⟨by omega, r0⟩

theorem szlAreaS (x : List Area) (l : Int) (h0 : 0 ≤ l) (h1 : l ≤ 1048576) (hb : szdAreaS 140737488355328 x) (h : 0 ≤ szAreaS x l) : szAreaS x l ≤ l ∧ szdAreaS 1048576 x := by
  unfold szAreaS at h ⊢
  obtain ⟨g0, e0⟩ := ck_inv h
  rw [e0] at h ⊢
  have b0 : x.length ≤ 140737488355328 := hb
  have w0 := wrapsub (l := l) h0 h1 b0
  rw [w0] at g0 h ⊢
  exact ⟨by omega, (show x.length ≤ 1048576 by omega)⟩

theorem szlSlotS (x : List Slot) (l : Int) (h0 : 0 ≤ l) (h1 : l ≤ 1048576) (hb : szdSlotS 140737488355328 x) (h : 0 ≤ szSlotS x l) : szSlotS x l ≤ l ∧ szdSlotS 1048576 x := by
  unfold szSlotS at h ⊢
  obtain ⟨g0, e0⟩ := ck_inv h
  rw [e0] at h ⊢
  have b0 : x.length ≤ 140737488355328 := hb
  have w0 := wrapsub (l := l) h0 h1 b0
  rw [w0] at g0 h ⊢
  exact ⟨by omega, (show x.length ≤ 1048576 by omega)⟩

theorem szlSpace (x : Space) (l : Int) (h0 : 0 ≤ l) (h1 : l ≤ 1048576) (hb : szdSpace 140737488355328 x) (h : 0 ≤ szSpace x l) : szSpace x l ≤ l ∧ szdSpace 1048576 x := by
  unfold szSpace at h ⊢
  obtain ⟨g0, e0⟩ := ck_inv h
  rw [e0] at h ⊢
  obtain ⟨q0, r0⟩ := szlAreaS x.areas l h0 h1 hb.1 g0
  have t0 : (szAreaS x.areas l) ≤ 1048576 := by omega
  obtain ⟨g1, e1⟩ := ck_inv h
  rw [e1] at h ⊢
  obtain ⟨q1, r1⟩ := szlSlotS x.slots (szAreaS x.areas l) g0 t0 hb.2 g1
  have t1 : (szSlotS x.slots (szAreaS x.areas l)) ≤ 1048576 := by omega
  exact ⟨by omega, ⟨r0, r1⟩⟩

theorem szlSpaceS (x : List Space) (l : Int) (h0 : 0 ≤ l) (h1 : l ≤ 1048576) (hb : szdSpaceS 140737488355328 x) (h : 0 ≤ szSpaceS x l) : szSpaceS x l ≤ l ∧ szdSpaceS 1048576 x := by
  unfold szSpaceS at h ⊢
  obtain ⟨g0, e0⟩ := ck_inv h
  rw [e0] at h ⊢
  have b0 : x.length ≤ 140737488355328 := hb.1
  have w0 := wrapsub (l := l) h0 h1 b0
  rw [w0] at g0 h ⊢
  obtain ⟨r1, r2⟩ := szL_inv (Q := (fun j => szdSpace 1048576 (x.getD j default))) (n := x.length) (F := szSpaceSF x) (fun j hj l' a0 a1 a2 => szlSpace (x.getD j default) l' a0 a1 (hb.2 j hj) a2) x.length 0 (l - (x.length : Int)) (by omega) g0 (by omega) h
  exact ⟨by omega, (show x.length ≤ 1048576 by omega), fun i hi => r2 i (Nat.zero_le i) (by omega)⟩

theorem szlPages (x : Pages) (l : Int) (h0 : 0 ≤ l) (h1 : l ≤ 1048576) (hb : szdPages 140737488355328 x) (h : 0 ≤ szPages x l) : szPages x l ≤ l ∧ szdPages 1048576 x := by
  unfold szPages at h ⊢
  obtain ⟨g0, e0⟩ := ck_inv h
  rw [e0] at h ⊢
  obtain ⟨q0, r0⟩ := szlStringS x.text l h0 h1 hb.1 g0
  have t0 : (szStringS x.text l) ≤ 1048576 := by omega
  obtain ⟨g1, e1⟩ := ck_inv h
  rw [e1] at h ⊢
  obtain ⟨q1, r1⟩ := szlIntS x.refs (szStringS x.text l) g0 t0 hb.2 g1
  have t1 : (szIntS x.refs (szStringS x.text l)) ≤ 1048576 := by omega
  exact ⟨by omega, ⟨r0, r1⟩⟩

theorem szlMem (x : Mem) (l : Int) (h0 : 0 ≤ l) (h1 : l ≤ 1048576) (hb : szdMem 140737488355328 x) (h : 0 ≤ szMem x l) : szMem x l ≤ l ∧ szdMem 1048576 x := by
  unfold szMem at h ⊢
  obtain ⟨g0, e0⟩ := ck_inv h
  rw [e0] at h ⊢
  obtain ⟨q0, r0⟩ := szlPages x.ram l h0 h1 hb.1 g0
  have t0 : (szPages x.ram l) ≤ 1048576 := by omega
  obtain ⟨g1, e1⟩ := ck_inv h
  rw [e1] at h ⊢
  obtain ⟨q1, r1⟩ := szlPages x.swap (szPages x.ram l) g0 t0 hb.2.1 g1
  have t1 : (szPages x.swap (szPages x.ram l)) ≤ 1048576 := by omega
  obtain ⟨g2, e2⟩ := ck_inv h
  rw [e2] at h ⊢
  obtain ⟨q2, r2⟩ := szlSpaceS x.spaces (szPages x.swap (szPages x.ram l)) g1 t1 hb.2.2 g2
  have t2 : (szSpaceS x.spaces (szPages x.swap (szPages x.ram l))) ≤ 1048576 := by omega
  exact ⟨by omega, ⟨r0, r1, r2⟩⟩

theorem szlFileS (x : List File) (l : Int) (h0 : 0 ≤ l) (h1 : l ≤ 1048576) (hb : szdFileS 140737488355328 x) (h : 0 ≤ szFileS x l) : szFileS x l ≤ l ∧ szdFileS 1048576 x := by
  unfold szFileS at h ⊢
  obtain ⟨g0, e0⟩ := ck_inv h
  rw [e0] at h ⊢
  have b0 : x.length ≤ 140737488355328 := hb
  have w0 := wrapsub (l := l) h0 h1 b0
  rw [w0] at g0 h ⊢
  exact ⟨by omega, (show x.length ≤ 1048576 by omega)⟩

theorem szlPipe (x : Pipe) (l : Int) (h0 : 0 ≤ l) (h1 : l ≤ 1048576) (hb : szdPipe 140737488355328 x) (h : 0 ≤ szPipe x l) : szPipe x l ≤ l ∧ szdPipe 1048576 x := by
  unfold szPipe at h ⊢
  obtain ⟨g0, e0⟩ := ck_inv h
  rw [e0] at h ⊢
  have b0 : x.text.size ≤ 140737488355328 := hb
  have w0 := wrapsub (l := l) h0 h1 b0
  rw [w0] at g0 h ⊢
  have t0 : (l - (x.text.size : Int)) ≤ 1048576 := by omega
  exact ⟨by omega, (show x.text.size ≤ 1048576 by omega)⟩

theorem szlPipeS (x : List Pipe) (l : Int) (h0 : 0 ≤ l) (h1 : l ≤ 1048576) (hb : szdPipeS 140737488355328 x) (h : 0 ≤ szPipeS x l) : szPipeS x l ≤ l ∧ szdPipeS 1048576 x := by
  unfold szPipeS at h ⊢
  obtain ⟨g0, e0⟩ := ck_inv h
  rw [e0] at h ⊢
  have b0 : x.length ≤ 140737488355328 := hb.1
  have w0 := wrapsub (l := l) h0 h1 b0
  rw [w0] at g0 h ⊢
  obtain ⟨r1, r2⟩ := szL_inv (Q := (fun j => szdPipe 1048576 (x.getD j default))) (n := x.length) (F := szPipeSF x) (fun j hj l' a0 a1 a2 => szlPipe (x.getD j default) l' a0 a1 (hb.2 j hj) a2) x.length 0 (l - (x.length : Int)) (by omega) g0 (by omega) h
  exact ⟨by omega, (show x.length ≤ 1048576 by omega), fun i hi => r2 i (Nat.zero_le i) (by omega)⟩

theorem szlCred (x : Cred) (l : Int) (h0 : 0 ≤ l) (h1 : l ≤ 1048576) (hb : szdCred 140737488355328 x) (h : 0 ≤ szCred x l) : szCred x l ≤ l ∧ szdCred 1048576 x := by
  unfold szCred at h ⊢
  obtain ⟨g0, e0⟩ := ck_inv h
  rw [e0] at h ⊢
  obtain ⟨q0, r0⟩ := szlIntS x.groups l h0 h1 hb g0
  have t0 : (szIntS x.groups l) ≤ 1048576 := by omega
  exact ⟨by omega, r0⟩

theorem szlSigs (x : Sigs) (l : Int) (h0 : 0 ≤ l) (h1 : l ≤ 1048576) (hb : szdSigs 140737488355328 x) (h : 0 ≤ szSigs x l) : szSigs x l ≤ l ∧ szdSigs 1048576 x := by
  unfold szSigs at h ⊢
  obtain ⟨g0, e0⟩ := ck_inv h
  rw [e0] at h ⊢
  obtain ⟨q0, r0⟩ := szlBoolS x.here l h0 h1 hb.1 g0
  have t0 : (szBoolS x.here l) ≤ 1048576 := by omega
  obtain ⟨g1, e1⟩ := ck_inv h
  rw [e1] at h ⊢
  obtain ⟨q1, r1⟩ := szlBoolS x.block (szBoolS x.here l) g0 t0 hb.2.1 g1
  have t1 : (szBoolS x.block (szBoolS x.here l)) ≤ 1048576 := by omega
  obtain ⟨g2, e2⟩ := ck_inv h
  rw [e2] at h ⊢
  obtain ⟨q2, r2⟩ := szlIntS x.does (szBoolS x.block (szBoolS x.here l)) g1 t1 hb.2.2 g2
  have t2 : (szIntS x.does (szBoolS x.block (szBoolS x.here l))) ≤ 1048576 := by omega
  exact ⟨by omega, ⟨r0, r1, r2⟩⟩

theorem szlProc (x : Proc) (l : Int) (h0 : 0 ≤ l) (h1 : l ≤ 1048576) (hb : szdProc 140737488355328 x) (h : 0 ≤ szProc x l) : szProc x l ≤ l ∧ szdProc 1048576 x := by
  unfold szProc at h ⊢
  obtain ⟨g0, e0⟩ := ck_inv h
  rw [e0] at h ⊢
  obtain ⟨q0, r0⟩ := szlCred x.who l h0 h1 hb.1 g0
  have t0 : (szCred x.who l) ≤ 1048576 := by omega
  obtain ⟨g1, e1⟩ := ck_inv h
  rw [e1] at h ⊢
  obtain ⟨q1, r1⟩ := szlIntS x.fds (szCred x.who l) g0 t0 hb.2.1 g1
  have t1 : (szIntS x.fds (szCred x.who l)) ≤ 1048576 := by omega
  obtain ⟨g2, e2⟩ := ck_inv h
  rw [e2] at h ⊢
  obtain ⟨q2, r2⟩ := szlSigs x.sigs (szIntS x.fds (szCred x.who l)) g1 t1 hb.2.2 g2
  have t2 : (szSigs x.sigs (szIntS x.fds (szCred x.who l))) ≤ 1048576 := by omega
  exact ⟨by omega, ⟨r0, r1, r2⟩⟩

theorem szlProcS (x : List Proc) (l : Int) (h0 : 0 ≤ l) (h1 : l ≤ 1048576) (hb : szdProcS 140737488355328 x) (h : 0 ≤ szProcS x l) : szProcS x l ≤ l ∧ szdProcS 1048576 x := by
  unfold szProcS at h ⊢
  obtain ⟨g0, e0⟩ := ck_inv h
  rw [e0] at h ⊢
  have b0 : x.length ≤ 140737488355328 := hb.1
  have w0 := wrapsub (l := l) h0 h1 b0
  rw [w0] at g0 h ⊢
  obtain ⟨r1, r2⟩ := szL_inv (Q := (fun j => szdProc 1048576 (x.getD j default))) (n := x.length) (F := szProcSF x) (fun j hj l' a0 a1 a2 => szlProc (x.getD j default) l' a0 a1 (hb.2 j hj) a2) x.length 0 (l - (x.length : Int)) (by omega) g0 (by omega) h
  exact ⟨by omega, (show x.length ≤ 1048576 by omega), fun i hi => r2 i (Nat.zero_le i) (by omega)⟩

theorem szlTaskS (x : List Task) (l : Int) (h0 : 0 ≤ l) (h1 : l ≤ 1048576) (hb : szdTaskS 140737488355328 x) (h : 0 ≤ szTaskS x l) : szTaskS x l ≤ l ∧ szdTaskS 1048576 x := by
  unfold szTaskS at h ⊢
  obtain ⟨g0, e0⟩ := ck_inv h
  rw [e0] at h ⊢
  have b0 : x.length ≤ 140737488355328 := hb
  have w0 := wrapsub (l := l) h0 h1 b0
  rw [w0] at g0 h ⊢
  exact ⟨by omega, (show x.length ≤ 1048576 by omega)⟩

theorem szlQueue (x : Queue) (l : Int) (h0 : 0 ≤ l) (h1 : l ≤ 1048576) (hb : szdQueue 140737488355328 x) (h : 0 ≤ szQueue x l) : szQueue x l ≤ l ∧ szdQueue 1048576 x := by
  unfold szQueue at h ⊢
  obtain ⟨g0, e0⟩ := ck_inv h
  rw [e0] at h ⊢
  obtain ⟨q0, r0⟩ := szlTaskS x.tasks l h0 h1 hb g0
  have t0 : (szTaskS x.tasks l) ≤ 1048576 := by omega
  exact ⟨by omega, r0⟩

theorem szlKern (x : Kern) (l : Int) (h0 : 0 ≤ l) (h1 : l ≤ 1048576) (hb : szdKern 140737488355328 x) (h : 0 ≤ szKern x l) : szKern x l ≤ l ∧ szdKern 1048576 x := by
  unfold szKern at h ⊢
  obtain ⟨g0, e0⟩ := ck_inv h
  rw [e0] at h ⊢
  obtain ⟨q0, r0⟩ := szlMem x.mem l h0 h1 hb.1 g0
  have t0 : (szMem x.mem l) ≤ 1048576 := by omega
  obtain ⟨g1, e1⟩ := ck_inv h
  rw [e1] at h ⊢
  obtain ⟨q1, r1⟩ := szlVfs x.vfs (szMem x.mem l) g0 t0 hb.2.1 g1
  have t1 : (szVfs x.vfs (szMem x.mem l)) ≤ 1048576 := by omega
  obtain ⟨g2, e2⟩ := ck_inv h
  rw [e2] at h ⊢
  obtain ⟨q2, r2⟩ := szlFileS x.files (szVfs x.vfs (szMem x.mem l)) g1 t1 hb.2.2.1 g2
  have t2 : (szFileS x.files (szVfs x.vfs (szMem x.mem l))) ≤ 1048576 := by omega
  obtain ⟨g3, e3⟩ := ck_inv h
  rw [e3] at h ⊢
  obtain ⟨q3, r3⟩ := szlPipeS x.pipes (szFileS x.files (szVfs x.vfs (szMem x.mem l))) g2 t2 hb.2.2.2.1 g3
  have t3 : (szPipeS x.pipes (szFileS x.files (szVfs x.vfs (szMem x.mem l)))) ≤ 1048576 := by omega
  obtain ⟨g4, e4⟩ := ck_inv h
  rw [e4] at h ⊢
  obtain ⟨q4, r4⟩ := szlProcS x.procs (szPipeS x.pipes (szFileS x.files (szVfs x.vfs (szMem x.mem l)))) g3 t3 hb.2.2.2.2.1 g4
  have t4 : (szProcS x.procs (szPipeS x.pipes (szFileS x.files (szVfs x.vfs (szMem x.mem l))))) ≤ 1048576 := by omega
  obtain ⟨g5, e5⟩ := ck_inv h
  rw [e5] at h ⊢
  obtain ⟨q5, r5⟩ := szlQueue x.queue (szProcS x.procs (szPipeS x.pipes (szFileS x.files (szVfs x.vfs (szMem x.mem l))))) g4 t4 hb.2.2.2.2.2 g5
  have t5 : (szQueue x.queue (szProcS x.procs (szPipeS x.pipes (szFileS x.files (szVfs x.vfs (szMem x.mem l)))))) ≤ 1048576 := by omega
  exact ⟨by omega, ⟨r0, r1, r2, r3, r4, r5⟩⟩

theorem wfdStringS (x : List ByteArray) (h : wf (.sl 1 (x.map encS))) : szdStringS 140737488355328 x := by
  have h1 := h.1
  rw [List.length_map] at h1
  exact ⟨h1, fun i hi => (wfE_get encS ⟨#[]⟩ x h.2 i hi).1⟩

theorem wfdIntS (x : List Int) (h : wf (.sl 1 (x.map encI))) : szdIntS 140737488355328 x := by
  have h1 := h.1
  rw [List.length_map] at h1
  exact h1

theorem wfdBoolS (x : List Bool) (h : wf (.sl 1 (x.map encB))) : szdBoolS 140737488355328 x := by
  have h1 := h.1
  rw [List.length_map] at h1
  exact h1

theorem wfdEntry (x : Entry) (h : wfL x.enc) : szdEntry 140737488355328 x :=
  h.1

theorem wfdEntryS (x : List Entry) (h : wf (.sl 2 (x.map Entry.enc))) : szdEntryS 140737488355328 x := by
  have h1 := h.1
  rw [List.length_map] at h1
  exact ⟨h1, fun i hi => wfdEntry _ (wfE_get Entry.enc default x h.2 i hi)⟩

theorem wfdInode (x : Inode) (h : wfL x.enc) : szdInode 140737488355328 x :=
  ⟨h.2.2.2.2.2.2.2.1, wfdEntryS _ h.2.2.2.2.2.2.2.2.1⟩

theorem wfdInodeS (x : List Inode) (h : wf (.sl 9 (x.map Inode.enc))) : szdInodeS 140737488355328 x := by
  have h1 := h.1
  rw [List.length_map] at h1
  exact ⟨h1, fun i hi => wfdInode _ (wfE_get Inode.enc default x h.2 i hi)⟩

theorem wfdFs (x : Fs) (h : wfL x.enc) : szdFs 140737488355328 x :=
  wfdInodeS _ h.1

theorem wfdFsS (x : List Fs) (h : wf (.sl 1 (x.map Fs.enc))) : szdFsS 140737488355328 x := by
  have h1 := h.1
  rw [List.length_map] at h1
  exact ⟨h1, fun i hi => wfdFs _ (wfE_get Fs.enc default x h.2 i hi)⟩

theorem wfdVfs (x : Vfs) (h : wfL x.enc) : szdVfs 140737488355328 x :=
  wfdFsS _ h.1

theorem wfdAreaS (x : List Area) (h : wf (.sl 4 (x.map Area.enc))) : szdAreaS 140737488355328 x := by
  have h1 := h.1
  rw [List.length_map] at h1
  exact h1

theorem wfdSlotS (x : List Slot) (h : wf (.sl 4 (x.map Slot.enc))) : szdSlotS 140737488355328 x := by
  have h1 := h.1
  rw [List.length_map] at h1
  exact h1

theorem wfdSpace (x : Space) (h : wfL x.enc) : szdSpace 140737488355328 x :=
  ⟨wfdAreaS _ h.2.1, wfdSlotS _ h.2.2.1⟩

theorem wfdSpaceS (x : List Space) (h : wf (.sl 3 (x.map Space.enc))) : szdSpaceS 140737488355328 x := by
  have h1 := h.1
  rw [List.length_map] at h1
  exact ⟨h1, fun i hi => wfdSpace _ (wfE_get Space.enc default x h.2 i hi)⟩

theorem wfdPages (x : Pages) (h : wfL x.enc) : szdPages 140737488355328 x :=
  ⟨wfdStringS _ h.1, wfdIntS _ h.2.1⟩

theorem wfdMem (x : Mem) (h : wfL x.enc) : szdMem 140737488355328 x :=
  ⟨⟨wfdStringS _ h.1, wfdIntS _ h.2.1⟩, ⟨wfdStringS _ h.2.2.1, wfdIntS _ h.2.2.2.1⟩, wfdSpaceS _ h.2.2.2.2.1⟩

theorem wfdFileS (x : List File) (h : wf (.sl 8 (x.map File.enc))) : szdFileS 140737488355328 x := by
  have h1 := h.1
  rw [List.length_map] at h1
  exact h1

theorem wfdPipe (x : Pipe) (h : wfL x.enc) : szdPipe 140737488355328 x :=
  h.1

theorem wfdPipeS (x : List Pipe) (h : wf (.sl 3 (x.map Pipe.enc))) : szdPipeS 140737488355328 x := by
  have h1 := h.1
  rw [List.length_map] at h1
  exact ⟨h1, fun i hi => wfdPipe _ (wfE_get Pipe.enc default x h.2 i hi)⟩

theorem wfdCred (x : Cred) (h : wfL x.enc) : szdCred 140737488355328 x :=
  wfdIntS _ h.2.2.1

theorem wfdSigs (x : Sigs) (h : wfL x.enc) : szdSigs 140737488355328 x :=
  ⟨wfdBoolS _ h.1, wfdBoolS _ h.2.1, wfdIntS _ h.2.2.1⟩

theorem wfdProc (x : Proc) (h : wfL x.enc) : szdProc 140737488355328 x :=
  ⟨wfdIntS _ h.2.2.2.2.2.1, wfdIntS _ h.2.2.2.2.2.2.2.1, ⟨wfdBoolS _ h.2.2.2.2.2.2.2.2.1, wfdBoolS _ h.2.2.2.2.2.2.2.2.2.1, wfdIntS _ h.2.2.2.2.2.2.2.2.2.2.1⟩⟩

theorem wfdProcS (x : List Proc) (h : wf (.sl 14 (x.map Proc.enc))) : szdProcS 140737488355328 x := by
  have h1 := h.1
  rw [List.length_map] at h1
  exact ⟨h1, fun i hi => wfdProc _ (wfE_get Proc.enc default x h.2 i hi)⟩

theorem wfdTaskS (x : List Task) (h : wf (.sl 4 (x.map Task.enc))) : szdTaskS 140737488355328 x := by
  have h1 := h.1
  rw [List.length_map] at h1
  exact h1

theorem wfdQueue (x : Queue) (h : wfL x.enc) : szdQueue 140737488355328 x :=
  wfdTaskS _ h.1

theorem wfdKern (x : Kern) (h : wfL x.enc) : szdKern 140737488355328 x :=
  ⟨⟨⟨wfdStringS _ h.1, wfdIntS _ h.2.1⟩, ⟨wfdStringS _ h.2.2.1, wfdIntS _ h.2.2.2.1⟩, wfdSpaceS _ h.2.2.2.2.1⟩, wfdFsS _ h.2.2.2.2.2.2.1, wfdFileS _ h.2.2.2.2.2.2.2.2.1, wfdPipeS _ h.2.2.2.2.2.2.2.2.2.1, wfdProcS _ h.2.2.2.2.2.2.2.2.2.2.1, wfdTaskS _ h.2.2.2.2.2.2.2.2.2.2.2.1⟩

end Go.Proofs.YtemoiphdjocaiaaGreat
