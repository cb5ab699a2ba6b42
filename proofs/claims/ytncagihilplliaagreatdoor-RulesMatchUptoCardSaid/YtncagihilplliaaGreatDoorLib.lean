/- The library's contracts in this claim's words: a world that has only grown, texts as lists of bytes. -/
import Derived.Test.YtncagihilplliaaGreatDoorBase
import Derived.Test.YtncagihilplliaaGreatDoorShelf
namespace Go.Proofs.YtncagihilplliaaGreatDoor
open Go.RowKit

/-- A slice of strings that lies at the head of a block. -/
structure Strs (w : World) (b : Nat) (xs : List ByteArray) : Prop where
  lt : b < w.heap.size
  cell : ∀ k (h : k < xs.length), w.cell? ⟨b, k, none⟩ = some (.string xs[k])
theorem Strs.ext {w w' : World} {b : Nat} {xs : List ByteArray} (h : Strs w b xs) (hx : Ext w w') : Strs w' b xs := ⟨Nat.lt_of_lt_of_le h.lt hx.size, fun k hk => hx.cell (h.cell k hk)⟩

theorem split_any (c : UInt8) (s : ByteArray) (w : World) (hg : Good w) (hs : s.size ≤ 2097152) :
    Calls Tryz.prog 57 #[.string s, .string ⟨#[c]⟩] w fun e w' => ∃ (b : Nat) (xs : List ByteArray),
      e = .returned (.slice (some ⟨b, 0, none⟩) xs.length xs.length) ∧ w.heap.size ≤ b ∧ Strs w' b xs ∧ xs.map bs = splitC c (bs s) ∧ Ext w w' := by
  obtain ⟨m, hm⟩ := hg.maxLen
  refine (Tryz.strings_Split s ⟨#[c]⟩ m w (by omega) hm (Nat.le_refl _)).mono ?_
  rintro e w' ⟨rfl, rfl⟩
  have hlen : (Lib.splitB ⟨#[c]⟩ 0 (Lib.countB s ⟨#[c]⟩) s).length = Lib.countB s ⟨#[c]⟩ + 1 := by
    rw [splitC_length, splitC_count c _ _ (Nat.le_refl _)]
  refine ⟨w.heap.size, _, by rw [hlen], Nat.le_refl _, ⟨by simp, ?_⟩, splitB_one c s, (Ext.refl w).alloc _⟩
  intro k hk
  rw [World.cell?_alloc_at _ _ _ _ rfl]
  simp [hk]
theorem cut_any (c : UInt8) (s : ByteArray) (w : World) (hg : Good w) (hs : s.size ≤ 2097152) :
    Calls Tryz.prog 49 #[.string s, .string ⟨#[c]⟩] w fun e w' => e = .returned (.tuple #[S (cutC c (bs s)).1, S (cutC c (bs s)).2.1, .bool (cutC c (bs s)).2.2]) ∧ Ext w w' := by
  obtain ⟨m, hm⟩ := hg.maxLen
  refine (Tryz.strings_Cut s ⟨#[c]⟩ m w (by omega) hm).mono ?_
  rintro e w' ⟨rfl, n, rfl⟩
  exact ⟨by rw [show (⟨#[c]⟩ : ByteArray).data.toList = [c] from rfl, cut_one], (Ext.refl w).drewN n⟩
theorem cutC_size (c : UInt8) (l : Str) : (cutC c l).1.length ≤ l.length ∧ (cutC c l).2.1.length ≤ l.length := by
  rcases first_cut c l with h | ⟨a, r, ha, rfl⟩
  · rw [cutC_none c l h]; simp
  · rw [cutC_app c a r ha]; simp; omega
/-- strings.Cut, its parts named -/
theorem cut_ex (c : UInt8) (s : ByteArray) (w : World) (hg : Good w) (hs : s.size ≤ 2097152) :
    Calls Tryz.prog 49 #[.string s, .string ⟨#[c]⟩] w fun e w' => ∃ (a b : ByteArray) (f : Bool), e = .returned (.tuple #[.string a, .string b, .bool f]) ∧ cutC c (bs s) = (bs a, bs b, f) ∧ a.size ≤ s.size ∧ b.size ≤ s.size ∧ Ext w w' :=
  (cut_any c s w hg hs).mono fun _ _ ⟨h, k⟩ => by
    have h1 := cutC_size c (bs s)
    rw [bs_length] at h1
    exact ⟨_, _, _, h, by rw [bs_mk, bs_mk], by rw [← bs_length, bs_mk]; exact h1.1, by rw [← bs_length, bs_mk]; exact h1.2, k⟩
theorem contains_any (c : UInt8) (s : ByteArray) (w : World) (hg : Good w) (hs : s.size ≤ 2097152) :
    Calls Tryz.prog 51 #[.string s, .string ⟨#[c]⟩] w fun e w' => e = .returned (.bool ((bs s).contains c)) ∧ w = w' := by
  obtain ⟨m, hm⟩ := hg.maxLen
  refine (Tryz.strings_Contains s ⟨#[c]⟩ m w (by omega) hm).mono ?_
  rintro e w' ⟨rfl, rfl⟩
  refine ⟨ret_bool ?_, rfl⟩
  unfold Lib.contains
  rw [show (⟨#[c]⟩ : ByteArray).data.toList = [c] from rfl]
  rcases first_cut c (bs s) with h | ⟨a, r, ha, hr⟩
  · rw [index_none c _ h]; simp [h]
  · rw [show s.data.toList = a ++ c :: r from hr, index_app c a r ha]; simp [bs, hr]
theorem hasPrefix_any (s p : ByteArray) (w : World) :
    Calls Tryz.prog 44 #[.string s, .string p] w fun e w' => e = .returned (.bool ((bs p).isPrefixOf (bs s))) ∧ w = w' :=
  (Tryz.strings_HasPrefix s p w).mono fun _ _ ⟨h, k⟩ => ⟨h, k.symm⟩
theorem cutPrefix_any (s p : ByteArray) (w : World) :
    Calls Tryz.prog 84 #[.string s, .string p] w fun e w' => e = .returned (.tuple #[S (Lib.trimPrefix (bs s) (bs p)), .bool ((bs p).isPrefixOf (bs s))]) ∧ w = w' :=
  (Tryz.strings_CutPrefix s p w).mono fun _ _ ⟨h, k⟩ => ⟨h, k.symm⟩
theorem indexByte_any (s : ByteArray) (c : UInt8) (w : World) :
    Calls Tryz.prog 118 #[.string s, .int .u8 c.toNat] w fun e w' => e = .returned (.int .i64 (Lib.indexByte (bs s) c)) ∧ w = w' :=
  (Tryz.strings_IndexByte s c.toNat w).mono fun _ _ ⟨h, k⟩ => ⟨by rw [h, Lib.byte_back], k.symm⟩
theorem compare_any (a b : ByteArray) (w : World) :
    Calls Tryz.prog 74 #[.string a, .string b] w fun e w' => e = .returned (.int .i64 (Lib.compareBytes (bs a) (bs b))) ∧ w = w' :=
  (Tryz.strings_Compare a b w).mono fun _ _ ⟨h, k⟩ => ⟨h, k.symm⟩
theorem compareInt_any (a b : Int) (w : World) :
    Calls Tryz.prog 72 #[.int .i64 a, .int .i64 b] w fun e w' => e = .returned (.int .i64 (Lib.compareInt a b)) ∧ w = w' :=
  (Tryz.cmp_Compare_int a b w).mono fun _ _ ⟨h, k⟩ => ⟨h, k.symm⟩
theorem itoa_any (n : Int) (w : World) (hg : GoodN w) (h0 : -9223372036854775808 ≤ n) (h1 : n ≤ 9223372036854775807) :
    Calls Tryz.prog 70 #[.int .i64 n] w fun e w' => e = .returned (S (Lib.itoa n)) ∧ Ext w w' :=
  (Tryz.strconv_Itoa n h0 h1 w hg.pow10).mono fun _ _ ⟨h, k, os, hk⟩ => ⟨h, by rw [hk]; exact ((Ext.refl w).drewN k).grow os⟩
theorem atoi_any (s : ByteArray) (w : World) (hg : GoodN w) (hs : s.size ≤ 2097152) :
    Calls Tryz.prog 73 #[.string s] w fun e w' => ∃ (v : Int) (ev : Value), e = .returned (.tuple #[.int .i64 v, ev]) ∧ Ext w w' ∧
      (∀ u, Lib.atoiAll (bs s) = .ok u → v = u ∧ ev = .nilIface) ∧ (ev = .nilIface ∨ ∃ t p, ev = .iface t p) := by
  cases h : Lib.atoiAll s.data.toList
  · rename_i u
    refine (Tryz.strconv_Atoi_ok s (by omega) u h w).mono ?_
    rintro e w' ⟨rfl, hw⟩
    refine ⟨u, .nilIface, rfl, ?_, fun u' hu => ⟨by injection hu, rfl⟩, .inl rfl⟩
    rcases hw with rfl | ⟨t, rfl⟩
    · exact Ext.refl _
    · exact (Ext.refl _).bytesWorld _ _
  · obtain ⟨tp, p, hv⟩ := hg.errS
    refine (Any.strconv_Atoi_syntax_var Tryz.laysC172 s (by omega) h tp p w hv).mono ?_
    rintro e w' ⟨N, rfl, _, _, hb⟩
    exact ⟨_, _, rfl, hb, (fun u' hu => by cases hu), .inr ⟨_, _, rfl⟩⟩
  · obtain ⟨tp, p, hv⟩ := hg.errR
    refine (Tryz.strconv_Atoi_range_var s (by omega) h tp p w hv).mono ?_
    rintro e w' ⟨N, rfl, _, _, hb⟩
    exact ⟨_, _, rfl, hb, (fun u' hu => by cases hu), .inr ⟨_, _, rfl⟩⟩
theorem trim_any (s cs : ByteArray) (w : World) (hs : s.size ≤ 2097152) (hcs : cs.size ≤ 1000) (hascii : ∀ (j : Nat) b, cs.data.toList[j]? = some b → b.toNat < 128) :
    Calls Tryz.prog 102 #[.string s, .string cs] w fun e w' => e = .returned (S (Lib.trimS (bs s) (bs cs))) ∧ Ext w w' :=
  Any.strings_Trim_laid Tryz.laysT160 (by kernel_rfl) s cs w (by omega) (by omega) hascii
end Go.Proofs.YtncagihilplliaaGreatDoor
