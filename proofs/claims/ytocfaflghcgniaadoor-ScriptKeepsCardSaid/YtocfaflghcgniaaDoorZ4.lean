/- Part of a proof: what functions of the given program compute, and plain laws of it. -/
import Derived.Test.YtocfaflghcgniaaDoorZ3
import Derived.Test.YtocfaflghcgniaaDoorT4
import Derived.Test.YtocfaflghcgniaaDoorT3
/- The library's functions that scripts call. -/
namespace Go.Proofs.YtocfaflghcgniaaDoor
open Go Go.T Go.Proofs Go.Sc Go.RowKit
set_option linter.unusedSimpArgs false
set_option maxRecDepth 10000
theorem TrimPrefix_spec (s p : ByteArray) : PureF Tryd.prog 38 [.str s, .str p] (strV (Lib.trimPrefix s.data.toList p.data.toList)) :=
  PureF.kit (ws := #[.string s, .string p]) rfl (fun _ _ _ _ => .str _) fun w => (Any.strings_TrimPrefix lays101 s p w).mono fun _ _ ⟨h1, h2⟩ => ⟨h1, h2 ▸ Below.refl _ _⟩
theorem Trim_spec (s c : ByteArray) (hs : s.size ≤ 9223372036854775807) (hc : c.size < 4294967281) (ha : c.data.toList.all (fun b => decide (b.toNat < 128)) = true) : PureF Tryd.prog 39 [.str s, .str c] (strV (Lib.trimS s.data.toList c.data.toList)) :=
  PureF.kit (ws := #[.string s, .string c]) rfl (fun _ _ _ _ => .str _) fun w => Any.strings_Trim_laid lays160 (by kernel_rfl) s c w hs hc (ascii_of_all ha)
theorem Index_spec (s : ByteArray) (c : UInt8) : PureF Tryd.prog 37 [.str s, .str ⟨#[c]⟩] (.int .i64 (Lib.indexByte s.data.toList c)) :=
  PureF.kit (ws := #[.string s, .string ⟨#[c]⟩]) rfl (fun _ _ _ _ => .int _ _) fun w => (Any.strings_Index_one lays143 s c w).mono fun _ _ ⟨h1, h2⟩ => ⟨h1, h2 ▸ Below.refl _ _⟩
theorem Atoi_spec (s : ByteArray) (v : Int) (hs : s.size ≤ 9223372036854775806) (h : Lib.atoiAll s.data.toList = .ok v) : PureF Tryd.prog 40 [.str s] (.tup [.int .i64 v, .undef]) :=
  PureF.kit (ws := #[.string s]) (rv := .tuple #[.int .i64 v, .nilIface]) rfl (fun _ _ _ _ => .tup _ _ rfl (fun j hj => by
    match j, hj with
    | 0, _ => exact .int _ _
    | 1, _ => exact .undef _)) fun w => (Any.strconv_Atoi_ok laysC172 s hs v h w).mono (by
    rintro en w' ⟨rfl, h2⟩
    refine ⟨rfl, ?_⟩
    rcases h2 with rfl | ⟨t, rfl⟩
    · exact Below.refl _ _
    · exact Lib.below_freeze ((Below.drew (Below.refl _ w)).alloc (Nat.le_refl _) _) (Nat.le_refl _) _)
/-- The table that strconv.Itoa reads. -/
def powL : Lab := glL 3
def powC : Con := .gl (Lib.pow10Tab.map (AV.int .u64))
theorem TrimPrefix_at (s p : Bs) : PureF Tryd.prog 38 [strV s, strV p] (strV (Lib.trimPrefix s p)) := by
  have := TrimPrefix_spec ⟨s.toArray⟩ ⟨p.toArray⟩
  rw [ba_list, ba_list] at this; exact this
theorem Trim_at (s c : Bs) (hs : s.length ≤ 9223372036854775807) (hc : c.length < 4294967281) (ha : c.all (fun b => decide (b.toNat < 128)) = true) : PureF Tryd.prog 39 [strV s, strV c] (strV (Lib.trimS s c)) := by
  have := Trim_spec ⟨s.toArray⟩ ⟨c.toArray⟩ (by rw [ba_size]; exact hs) (by rw [ba_size]; exact hc) (by rw [ba_list]; exact ha)
  rw [ba_list, ba_list] at this; exact this
theorem Index_at (s : Bs) (c : UInt8) : PureF Tryd.prog 37 [strV s, strV [c]] (.int .i64 (Lib.indexByte s c)) := by
  have := Index_spec ⟨s.toArray⟩ c
  rw [ba_list] at this; exact this
theorem Atoi_at (s : Bs) (v : Int) (hs : s.length ≤ 9223372036854775806) (h : Lib.atoiAll s = .ok v) : PureF Tryd.prog 40 [strV s] (.tup [.int .i64 v, .undef]) :=
  Atoi_spec ⟨s.toArray⟩ v (by rw [ba_size]; exact hs) (by rw [ba_list]; exact h)
theorem Itoa_at (n : Int) (h0 : -9223372036854775808 ≤ n) (h1 : n ≤ 9223372036854775807) (h : Hp) (hp : h.con powL = powC) : CallK Tryd.prog 22 [.int .i64 n] h (fun r h' => r = strV (Lib.itoa n) ∧ h' = h) :=
  CallK.kit (ws := #[.int .i64 n]) rfl (fun _ _ _ => .str _) (fun w B e hh => (Any.strconv_Itoa laysM171 n h0 h1 w (TabIs.of hh (by kernel_rfl) hp)).mono (by
    rintro en w' ⟨rfl, k, os, rfl⟩
    exact ⟨rfl, below_drewN⟩)) ⟨rfl, rfl⟩
end Go.Proofs.YtocfaflghcgniaaDoor
