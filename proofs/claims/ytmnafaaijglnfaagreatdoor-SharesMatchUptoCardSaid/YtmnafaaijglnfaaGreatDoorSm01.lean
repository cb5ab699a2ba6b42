/- Sums of texts and their digits in plain words. Contract of disk.SumOf. Contracts of strconv.FormatUint at base 16, and what it calls. Contract of outref2.SumOf. Contract of strconv.ParseUint at base 16 and 64 bits, of eight digits. Texts in a slice; slices.Equal at equal texts. slices.IndexFunc and slices.ContainsFunc over texts, with any closure. (Own rows of PkI, PkH, MvL, PkQ, for seats without packages.) Arguments opened: what a reading of cells at a type says of memory, and of the reading's bulk. One law a kind of type: numbers, texts, structs of one field, slices. Versions, spans and ranges among the arguments. A condition among the arguments. Contracts of feed.shareAt, outref2.ShareOf, feed.timed, feed.Share, and of times. From which time on a machine is within the share, in plain words: by a quotient, and hour by hour. -/
import Derived.Test.YtmnafaaijglnfaaGreatDoorFr02
import Derived.Laws.Bits64
import Derived.Laws.Bits64b
import Derived.Maps.AppendAt
import Derived.Laws.AppendOwn
import Derived.Laws.OwnMore
import Derived.Lib.ConvBytes
import Derived.Deep.Slices
import Derived.Test.YtmnafaaijglnfaaGreatDoorFr06
import Derived.Test.YtmnafaaijglnfaaGreatDoorFr22
import Derived.Test.YtmnafaaijglnfaaGreatDoorFr29
import Derived.Test.YtmnafaaijglnfaaGreatDoorFr03

namespace Go.Proofs.YtmnafaaijglnfaaGreatDoor
open Go.RowKit

/-! ### The sum of a text -/
def fnvF (n : Nat) (c : UInt8) : Nat := (n ^^^ c.toNat) * 1099511628211 % 18446744073709551616
def fnvL (l : Str) : Nat := l.foldl fnvF 14695981039346656037
theorem fnvF_lt (n : Nat) (c : UInt8) : fnvF n c < 18446744073709551616 := Nat.mod_lt _ (by decide)
theorem fnv_fold_lt : ∀ (l : Str) (n : Nat), n < 18446744073709551616 → l.foldl fnvF n < 18446744073709551616
  | [], _, h => h
  | c :: l, n, _ => fnv_fold_lt l (fnvF n c) (fnvF_lt n c)
theorem fnvL_lt (l : Str) : fnvL l < 18446744073709551616 := by
  unfold fnvL
  exact fnv_fold_lt l 14695981039346656037 (by omega)
/-- one round of the sum, as both programs spell it -/
theorem fnv_step (n : Nat) (c : UInt8) (hn : n < 18446744073709551616) : IntKind.u64.wrap (bits .xor .u64 (n : Int) (c.toNat : Int) * 1099511628211) = (fnvF n c : Nat) := by
  have hc : c.toNat < 256 := c.toNat_lt
  rw [bits_xor_u64_nat n c.toNat hn (by omega), IntKind.wrap_u64, fnvF]
  omega
theorem fnv_take (l : Str) (z k : Nat) (h : k < l.length) : (l.take (k + 1)).foldl fnvF z = fnvF ((l.take k).foldl fnvF z) l[k] := by
  rw [List.take_succ_eq_append_getElem h, List.foldl_append, List.foldl_cons, List.foldl_nil]

/-! ### Digits -/
def hexD (n : Nat) : UInt8 := UInt8.ofNat (if n < 10 then 48 + n else 87 + n)
def hexN : Nat → Nat → Str
  | 0, _ => []
  | k + 1, n => hexN k (n / 16) ++ [hexD (n % 16)]
theorem hexD_num : ∀ n, n < 16 → (hexD n).toNat = if n < 10 then 48 + n else 87 + n := by decide
theorem hexN_length : ∀ k n, (hexN k n).length = k
  | 0, _ => rfl
  | k + 1, n => by rw [hexN, List.length_append, hexN_length k]; rfl
theorem hexN_add (a : Nat) : ∀ b n, hexN (a + b) n = hexN a (n / 16 ^ b) ++ hexN b n
  | 0, n => by simp [hexN]
  | b + 1, n => by
    rw [← Nat.add_assoc, hexN, hexN_add a b, hexN, List.append_assoc, Nat.div_div_eq_div_mul, Nat.pow_succ, Nat.mul_comm]
theorem hexN_zero : ∀ k, hexN k 0 = List.replicate k 48
  | 0 => rfl
  | k + 1 => by
    rw [hexN, Nat.zero_div, hexN_zero k, List.replicate_succ']; rfl
theorem hexN_cons (k n : Nat) : hexN (k + 1) n = hexD (n / 16 ^ k % 16) :: hexN k n := by
  rw [Nat.add_comm, hexN_add 1 k n]; rfl
theorem hexN_get : ∀ k n j (h : j < (hexN k n).length), (hexN k n)[j] = hexD (n / 16 ^ (k - 1 - j) % 16)
  | 0, _, j, h => by simp [hexN] at h
  | k + 1, n, j, h => by
    have hj : j < k + 1 := by rw [hexN_length] at h; exact h
    rcases Nat.lt_or_ge j k with hlt | hge
    · have h2 : j < (hexN k (n / 16)).length := by rw [hexN_length]; exact hlt
      have e : (hexN (k + 1) n)[j] = (hexN k (n / 16))[j] := by
        simp only [hexN]
        rw [List.getElem_append_left h2]
      rw [e, hexN_get k (n / 16) j h2, Nat.div_div_eq_div_mul, ← Nat.pow_succ', show (k - 1 - j).succ = k + 1 - 1 - j by omega]
    · obtain rfl : j = k := by omega
      have e : (hexN (j + 1) n)[j] = hexD (n % 16) := by
        simp only [hexN]
        rw [List.getElem_append_right (by rw [hexN_length]; exact Nat.le_refl _)]
        simp [hexN_length]
      rw [e, Nat.add_sub_cancel, Nat.sub_self, Nat.pow_zero, Nat.div_one]
/-- sixteen digits, of which those ahead are noughts -/
theorem hex_pad (k n : Nat) (hk : k ≤ 16) (h : n < 16 ^ k) : List.replicate (16 - k) 48 ++ hexN k n = hexN 16 n := by
  have := hexN_add (16 - k) k n
  rw [show 16 - k + k = 16 by omega, Nat.div_eq_of_lt h, hexN_zero] at this
  exact this.symm
theorem hex_first8 (n : Nat) : (hexN 16 n).take 8 = hexN 8 (n / 4294967296) := by
  have := hexN_add 8 8 n
  rw [this, List.take_append_of_le_length (by rw [hexN_length]; exact Nat.le_refl _), List.take_of_length_le (by rw [hexN_length]; exact Nat.le_refl _)]
/-- what sums are -/
def sumT (l : Str) : Str := hexN 16 (fnvL l)
/-- where a machine stands -/
def placeL (m n v : Str) : Nat := fnvL (m ++ [0] ++ n ++ [0] ++ v) / 4294967296 % 1000
theorem placeL_lt (m n v : Str) : placeL m n v < 1000 := Nat.mod_lt _ (by decide)
end Go.Proofs.YtmnafaaijglnfaaGreatDoor

namespace Go.Proofs.YtmnafaaijglnfaaGreatDoor
open Go.RowKit

/-- bytes in a row, as a text -/
theorem conv_cells {W : World} {g off n : Nat} {l : Str} (hl : l.length = n) (hc : ∀ i (h : i < l.length), W.cell? ⟨g, off + i, none⟩ = some (.int .u8 l[i].toNat)) (c : Nat) :
    (convert 202 9 (.slice (some ⟨g, off, none⟩) n c)).run Tryz.prog W = .ok (S l) W := by
  subst hl
  have := run_convert_bytes_arg (P := Tryz.prog) W 202 5 Tryz.underlying202 Tryz.underlying5 g off l.length c (l.map fun x => (x.toNat : Int)) (by simp) (fun i hi => by
    rw [hc i hi]
    simp [List.getD, hi]) 9 Tryz.underlying9
  rw [this]
  have e : (l.map fun x => (x.toNat : Int)).map (fun n => UInt8.ofNat n.toNat) = l := by
    rw [List.map_map]
    exact List.map_id'' (fun x => by simp) l
  unfold strOfNums
  rw [e]
theorem make_u8s (n : Nat) (z : Int) (hz : z = n) (hn : n ≤ 2097152) (w : World) : ∃ cs : Array Value, cs.size = n ∧ (Instr.makeSlice 202 (.int .i64 z) (.int .i64 z)).run Tryz.prog w = .ok (.slice (some ⟨w.heap.size, 0, none⟩) n n) (w.alloc (.cells cs 5)) := by
  subst hz
  obtain ⟨i, hi, hz0, hz1, hz2⟩ := info_parts info_u8
  have h := run_make (P := Tryz.prog) w 202 5 i (.int .u8 0) Tryz.underlying202 hi hz0 .i64 .i64 (n : Int) (n : Int) (by omega) (Int.le_refl _) (by rw [hz2]; omega) (by omega)
  refine ⟨_, ?_, h⟩
  rw [size_madeCells, hz1, Int.toNat_natCast]
  simp
theorem hex_at16 (d : Nat) (hd : d < 16) (h : d < (⟨#[48, 49, 50, 51, 52, 53, 54, 55, 56, 57, 97, 98, 99, 100, 101, 102]⟩ : ByteArray).size) : (⟨#[48, 49, 50, 51, 52, 53, 54, 55, 56, 57, 97, 98, 99, 100, 101, 102]⟩ : ByteArray)[d] = hexD d := by
  have := (by decide : ∀ d : Fin 16, (⟨#[48, 49, 50, 51, 52, 53, 54, 55, 56, 57, 97, 98, 99, 100, 101, 102]⟩ : ByteArray)[d.1]'(d.2) = hexD d.1) ⟨d, hd⟩
  exact this
theorem and15 (x : Nat) (hx : x < 18446744073709551616) : bits .and .u64 (x : Int) 15 = ((x % 16 : Nat) : Int) := by
  have := bits_and_u64_nat x 15 hx (by omega)
  rw [show ((15 : Nat) : Int) = 15 from rfl] at this
  rw [this, show (15 : Nat) = 2 ^ 4 - 1 from rfl, Nat.and_two_pow_sub_one_eq_mod]
theorem and15_shift (N k : Nat) (hN : N < 18446744073709551616) (hk : k < 16) : bits .and .u64 ((N : Int) / 2 ^ (60 - 4 * k)) 15 = ((N / 16 ^ (15 - k) % 16 : Nat) : Int) := by
  have e : ((N : Int) / 2 ^ (60 - 4 * k)) = ((N / 16 ^ (15 - k) : Nat) : Int) := by
    rw [show (16 : Nat) = 2 ^ 4 from rfl, ← Nat.pow_mul, show 4 * (15 - k) = 60 - 4 * k by omega, Int.natCast_ediv]
    simp
  rw [e, and15 _ (Nat.lt_of_le_of_lt (Nat.div_le_self _ _) hN)]
theorem wrap_u8_64 (c : UInt8) : IntKind.u64.wrap (c.toNat : Int) = c.toNat := by
  have := c.toNat_lt
  rw [IntKind.wrap_u64]
  omega
abbrev seedI : Int := 14695981039346656037
set_option maxRecDepth 100000 in
set_option maxHeartbeats 4000000 in
theorem SumOf_any (s : ByteArray) (w : World) (hs : s.size ≤ 9000000) :
    Calls Tryz.prog 188 #[.string s] w fun e w' => e = .returned (S (sumT (bs s))) ∧ Ext w w' := by
  obtain ⟨SD, hSD⟩ : ∃ SD : Nat, SD = 14695981039346656037 := ⟨_, rfl⟩
  have HR := Lib.hid (show sumT (bs s) = hexN 16 ((bs s).foldl fnvF SD) from by rw [hSD]; rfl)
  have HSD := Lib.hid (show (14695981039346656037 : Int) = (SD : Int) ∧ SD < 18446744073709551616 from by rw [hSD]; exact ⟨rfl, by omega⟩)
  generalize sumT (bs s) = R at *
  clear hSD
  go_enter Tryz.func188, Tryz.ntmps188
  go_wp2
  go_loop [3, 4] (fun vn vi => ∃ (k : Nat) (a : Int), k ≤ s.size ∧ vi = .int .i64 k ∧ vn = .int .u64 a ∧ Hid (a = (((bs s).take k).foldl fnvF SD : Nat))) (fun _ vi => s.size - (intOf vi).toNat)
  case atStart => exact ⟨0, _, Nat.zero_le _, rfl, rfl, Lib.hid (by simpa using HSD.out.1)⟩
  case round =>
    obtain ⟨k, a, hk, rfl, rfl, ha⟩ := hrel
    have hlt64 : ((bs s).take k).foldl fnvF SD < 18446744073709551616 := fnv_fold_lt _ _ HSD.out.2
    by_cases hlt : k < s.size
    · have hst := fnv_step (((bs s).take k).foldl fnvF SD) s[k] hlt64
      rw [← ha.out] at hst
      have hnx := fnv_take (bs s) SD k (by rw [bs_length]; exact hlt)
      have hg : (bs s)[k]'(by rw [bs_length]; exact hlt) = s[k] := rfl
      rw [hg] at hnx
      rw [← hnx] at hst
      obtain ⟨b, hb⟩ : ∃ b : Int, b = (((bs s).take (k + 1)).foldl fnvF SD : Nat) := ⟨_, rfl⟩
      rw [← hb] at hst
      have HB := Lib.hid hb
      have hw : IntKind.u64.wrap (s[k].toNat : Int) = s[k].toNat := wrap_u8_64 _
      clear hb hnx hg ha hlt64
      go_wp2
      go_round
      case rel => exact ⟨k + 1, b, by omega, by go_num, rfl, HB⟩
      case measure => simp [intOf]; omega
    · have hkk : k = s.size := by omega
      subst hkk
      rw [List.take_of_length_le (by rw [bs_length]; exact Nat.le_refl _)] at ha hlt64
      have HA := Lib.hid ha
      have HL := Lib.hid hlt64
      generalize (bs s).foldl fnvF SD = N at *
      clear ha hlt64 hk
      obtain ⟨cs, hcs, hmk⟩ := make_u8s 16 16 rfl (by omega) w
      have hx0 : Ext w (w.alloc (.cells cs 5)) := (Ext.refl w).alloc _
      have hb0 := Blk.new w 5 cs
      generalize hg : w.heap.size = g at *
      have HG := Lib.hid hg
      generalize hW : w.alloc (.cells cs 5) = W0 at *
      clear hW hg
      go_wp2
      go_loopw [6, 23] (fun _ vi wr => ∃ (k : Nat) (cr : Array Value), k ≤ 16 ∧ vi = .int .i64 k ∧ Blk wr g 5 cr ∧ cr.size = 16 ∧ (∀ j, j < k → cr[j]? = some (.int .u8 (hexD (N / 16 ^ (15 - j) % 16)).toNat)) ∧ Ext w wr) (fun _ vi _ => 16 - (intOf vi).toNat)
      case atStart => exact ⟨0, cs, by omega, rfl, hb0, hcs, fun j hj => absurd hj (Nat.not_lt_zero _), hx0⟩
      case round =>
        obtain ⟨k, cr, hk, rfl, hb, hsz, hall, hxr⟩ := hrel
        by_cases hlt : k < 16
        · have hfr := hb.free k
          have hcl := hb.cell k
          have hw1 : IntKind.i64.wrap (60 - IntKind.i64.wrap (4 * (k : Int))) = 60 - 4 * (k : Int) := by rw [IntKind.wrap_i64, IntKind.wrap_i64]; omega
          obtain ⟨d, hd⟩ : ∃ d, d = N / 16 ^ (15 - k) % 16 := ⟨_, rfl⟩
          have hd16 : d < 16 := by rw [hd]; exact Nat.mod_lt _ (by decide)
          have hbt : bits .and .u64 (a / 2 ^ (60 - 4 * k)) 15 = (d : Int) := by rw [hd, HA.out.out]; exact and15_shift N k HL.out hlt
          have HD := Lib.hid (fun h => hex_at16 d hd16 h)
          have HXT := Lib.hid hd
          have HALL := Lib.hid hall
          clear hd hall
          go_wp2
          rw [hex_at16 d hd16]
          refine ⟨⟨k + 1, _, by omega, by go_num, hb.set k _, by rw [Array.size_setIfInBounds, hsz], fun j hj => ?_, hxr.setCell (by rw [← HG.out]; exact Nat.le_refl _) _⟩, by simp [intOf]; omega⟩
          rcases Nat.lt_or_ge j k with h1 | h1
          · rw [Array.getElem?_setIfInBounds_ne (by omega)]
            exact HALL.out j h1
          · obtain rfl : j = k := by omega
            rw [Array.getElem?_setIfInBounds_self_of_lt (by omega), HXT.out]
        · obtain rfl : k = 16 := by omega
          have hcv := conv_cells (W := wr) (g := g) (off := 0) (n := 16) (l := hexN 16 N) (hexN_length _ _) (fun i hi => by
            have hi2 : i < 16 := by rw [hexN_length] at hi; exact hi
            rw [Nat.zero_add, hb.cell, hall i hi2, hexN_get]) 16
          clear hall
          go_wp2
          go_ret
          exact ⟨ret_str HR.out.symm, hxr⟩
end Go.Proofs.YtmnafaaijglnfaaGreatDoor

namespace Go.Proofs.YtmnafaaijglnfaaGreatDoor
open Go.RowKit

/-- what the reference's sums ask of the library's variables -/
structure GoodS (w : World) : Prop extends GoodN w where
  tz : w.cell? ⟨7, 15, none⟩ = some (.int .u8 4)
theorem GoodS.ext {w w' : World} (g : GoodS w) (h : Ext w w') : GoodS w' := ⟨g.toGoodN.ext h, h.cell g.tz⟩

theorem isPow2_16 (w : World) : Calls Tryz.prog 286 #[.int .i64 16] w fun e w' => e = .returned (.bool true) ∧ w = w' := by
  have e1 : bits .and .i64 16 15 = 0 := by decide
  go_enter Tryz.func286, Tryz.ntmps286
  go_wp2
  go_ret
  exact ⟨rfl, rfl⟩
theorem tz64_16 (w : World) (hc : w.cell? ⟨7, 15, none⟩ = some (.int .u8 4)) : Calls Tryz.prog 290 #[.int .u64 16] w fun e w' => e = .returned (.int .i64 4) ∧ w = w' := by
  have e1 : IntKind.u64.wrap (bits .and .u64 16 (IntKind.u64.wrap (-16)) * 285870213051353865) / 288230376151711744 = 15 := by decide +kernel
  go_enter Tryz.func290, Tryz.ntmps290
  go_wp2_with (simp only [e1])
  go_ret
  exact ⟨rfl, rfl⟩
theorem tz_16 (w : World) (hc : w.cell? ⟨7, 15, none⟩ = some (.int .u8 4)) : Calls Tryz.prog 287 #[.int .u64 16] w fun e w' => e = .returned (.int .i64 4) ∧ w = w' := by
  go_enter Tryz.func287, Tryz.ntmps287
  go_wp2_with (go_at_call 290; refine (tz64_16 _ hc).mono ?_; rintro e w' ⟨rfl, rfl⟩)
  go_ret
  exact ⟨rfl, rfl⟩
theorem hex_at36 (d : Nat) (hd : d < 16) (h : d < (⟨#[48, 49, 50, 51, 52, 53, 54, 55, 56, 57, 97, 98, 99, 100, 101, 102, 103, 104, 105, 106, 107, 108, 109, 110, 111, 112, 113, 114, 115, 116, 117, 118, 119, 120, 121, 122]⟩ : ByteArray).size) : (⟨#[48, 49, 50, 51, 52, 53, 54, 55, 56, 57, 97, 98, 99, 100, 101, 102, 103, 104, 105, 106, 107, 108, 109, 110, 111, 112, 113, 114, 115, 116, 117, 118, 119, 120, 121, 122]⟩ : ByteArray)[d] = hexD d := by
  have := (by decide : ∀ d : Fin 16, (⟨#[48, 49, 50, 51, 52, 53, 54, 55, 56, 57, 97, 98, 99, 100, 101, 102, 103, 104, 105, 106, 107, 108, 109, 110, 111, 112, 113, 114, 115, 116, 117, 118, 119, 120, 121, 122]⟩ : ByteArray)[d.1]'(Nat.lt_trans d.2 (by decide)) = hexD d.1) ⟨d, hd⟩
  exact this
theorem slice65 (l : Nat) (z : Int) (hz : z = l) (hl : l ≤ 64) (g : Nat) (W : World) :
    (Instr.sliceAt 299 (.pointer (some ⟨g, 0, none⟩)) (some (.int .i64 z)) none none).run Tryz.prog W = .ok (.slice (some ⟨g, l, none⟩) (65 - l) (65 - l)) W := by
  have hlen : Tryz.prog.arrayLen 299 = 65 := by kernel_rfl
  have hel : Tryz.prog.elem 299 = 5 := by kernel_rfl
  have hsz : (sizeOf 5).run Tryz.prog W = .ok 1 W := by kernel_rfl
  have h := run_sliceAt_array_l (P := Tryz.prog) W 299 ⟨g, 0, none⟩ (by kernel_rfl) .i64 z (by omega) (by rw [hlen]; omega)
  rw [h, hel, hsz, hlen]
  subst hz
  simp only [Result.andThen, slicedAt, Int.toNat_natCast, Addr.add]
  rw [if_neg (by omega)]
  have : l * 1 = l := Nat.mul_one l
  simp [this]
  omega
/-- the number of digits, the last of them first -/
theorem hex_div (n j : Nat) : n / 16 ^ j / 16 = n / 16 ^ (j + 1) := by rw [Nat.div_div_eq_div_mul, Nat.pow_succ]
set_option maxRecDepth 100000 in
set_option maxHeartbeats 4000000 in
theorem formatBits_any (n : Nat) (w : World) (hn : n < 18446744073709551616) (hc : w.cell? ⟨7, 15, none⟩ = some (.int .u8 4)) :
    Calls Tryz.prog 264 #[.slice none 0 0, .int .u64 (n : Int), .int .i64 16, .bool false, .bool false] w fun e w' => ∃ k, 1 ≤ k ∧ k ≤ 16 ∧ n < 16 ^ k ∧ e = .returned (.tuple #[.slice none 0 0, S (hexN k n)]) ∧ Ext w w' := by
  obtain ⟨a, ha⟩ : ∃ a : Int, a = (n : Int) := ⟨_, rfl⟩
  have HA := Lib.hid ha
  rw [← ha]
  clear ha
  go_enter Tryz.func264, Tryz.ntmps264
  have hb0 := Blk.new w 299 Tryz.zeroCells299
  have hx0 : Ext w (w.alloc (.cells Tryz.zeroCells299 299)) := (Ext.refl w).alloc _
  have hz0 : Tryz.zeroCells299.size = 65 := by kernel_rfl
  have hc0 := hx0.cell hc
  go_wp2_with fail
  refine (isPow2_16 _).mono ?_
  rintro e w' ⟨rfl, rfl⟩
  go_wp2_with fail
  refine (tz_16 _ hc0).mono ?_
  rintro e w' ⟨rfl, rfl⟩
  generalize hg : w.heap.size = g at *
  have HG := Lib.hid hg
  generalize hW : w.alloc (.cells Tryz.zeroCells299 299) = W0 at *
  generalize Tryz.zeroCells299 = Z at *
  clear hW hg hc hc0
  have hn15 := Lib.hid (show n / 16 ^ 15 < 16 from by rw [Nat.div_lt_iff_lt_mul (Nat.pow_pos (by decide))]; omega)
  go_wp2
  go_loopw [1, 13] (fun vu vi wr => ∃ (j : Nat) (u : Int) (cr : Array Value), j ≤ 15 ∧ vi = .int .i64 (65 - (j : Int)) ∧ vu = .int .u64 u ∧ Hid (u = (n / 16 ^ j : Nat)) ∧ Blk wr g 299 cr ∧ cr.size = 65 ∧ Hid (∀ t, t < j → cr[64 - t]? = some (.int .u8 (hexD (n / 16 ^ t % 16)).toNat)) ∧ Ext w wr) (fun _ vi _ => (intOf vi).toNat)
  case atStart => exact ⟨0, a, Z, by omega, rfl, rfl, Lib.hid (by rw [Nat.pow_zero, Nat.div_one]; exact HA.out), hb0, hz0, Lib.hid (fun t ht => absurd ht (Nat.not_lt_zero _)), hx0⟩
  case round =>
    obtain ⟨j, u, cr, hj, rfl, rfl, hu, hb, hsz, hall, hxr⟩ := hrel
    obtain ⟨q, hq⟩ : ∃ q, q = n / 16 ^ j := ⟨_, rfl⟩
    have HQ := Lib.hid hq
    have hqn : q ≤ n := by rw [hq]; exact Nat.div_le_self _ _
    have huq : u = (q : Int) := by rw [hq]; exact hu.out
    clear hu hq
    have hfr := hb.free (65 - j - 1)
    obtain ⟨cv, hcl⟩ : ∃ cv, wr.cell? ⟨g, 65 - j - 1, none⟩ = some cv := ⟨_, (hb.cell (65 - j - 1)).trans (Array.getElem?_eq_getElem (by omega))⟩
    by_cases h16 : 16 ≤ q
    · have hj15 : j < 15 := by
        rcases Nat.lt_or_ge j 15 with h | h
        · exact h
        · obtain rfl : j = 15 := by omega
          have := hn15.out; rw [← HQ.out] at this; omega
      obtain ⟨d, hd⟩ : ∃ d, d = q % 16 := ⟨_, rfl⟩
      have hd16 : d < 16 := by rw [hd]; exact Nat.mod_lt _ (by decide)
      have hbt : bits .and .u64 u 15 = (d : Int) := by rw [hd, huq]; exact and15 q (by omega)
      have hul : 16 ≤ u := by omega
      obtain ⟨u', hu'⟩ : ∃ u' : Int, u' = u / 16 := ⟨_, rfl⟩
      have HU := Lib.hid (show u' = (n / 16 ^ (j + 1) : Nat) from by rw [hu', huq, ← hex_div, ← HQ.out]; omega)
      have hud : u / 16 = u' := hu'.symm
      have HXT := Lib.hid hd
      clear hd huq hqn h16 hu'
      go_wp2
      rw [hex_at36 d hd16]
      refine ⟨⟨j + 1, u', _, by omega, by go_num, rfl, HU, hb.set (65 - j - 1) _, by rw [Array.size_setIfInBounds, hsz], Lib.hid fun t ht => ?_, hxr.setCell (by rw [← HG.out]; exact Nat.le_refl _) _⟩, by simp [intOf]; omega⟩
      rcases Nat.lt_or_ge t j with h1 | h1
      · rw [Array.getElem?_setIfInBounds_ne (by omega)]
        exact hall.out t h1
      · obtain rfl : t = j := by omega
        rw [show 64 - t = 65 - t - 1 by omega, Array.getElem?_setIfInBounds_self_of_lt (by omega), HXT.out, HQ.out]
    · have hq16 : q < 16 := by omega
      have hul : u < 16 := by omega
      have hu0 : 0 ≤ u := by omega
      have hks := Lib.hid (show n < 16 ^ (j + 1) from by
        have h1 : n / 16 ^ j < 16 := by rw [← HQ.out]; exact hq16
        rw [Nat.div_lt_iff_lt_mul (Nat.pow_pos (by decide))] at h1
        rw [Nat.pow_succ, Nat.mul_comm]; exact h1)
      have HXT := Lib.hid (show q = q % 16 from (Nat.mod_eq_of_lt hq16).symm)
      have hut : u.toNat = q := by omega
      have hbS := hb.set (65 - j - 1) (.int .u8 (hexD q).toNat)
      have HX := Lib.hid (show Ext w (wr.setCell ⟨g, 65 - j - 1, none⟩ (.int .u8 (hexD q).toNat)) from hxr.setCell (by rw [← HG.out]; exact Nat.le_refl _) _)
      have hcv := conv_cells (W := wr.setCell ⟨g, 65 - j - 1, none⟩ (.int .u8 (hexD q).toNat)) (g := g) (off := 65 - j - 1) (n := 65 - (65 - j - 1)) (l := hexN (j + 1) n) (by rw [hexN_length]; omega) (fun i hi => by
        have hi2 : i < j + 1 := by rw [hexN_length] at hi; exact hi
        rw [hbS.cell, hexN_get]
        rcases Nat.eq_zero_or_pos i with h0 | h0
        · subst h0
          rw [Nat.add_zero, Array.getElem?_setIfInBounds_self_of_lt (by omega), show j + 1 - 1 - 0 = j by omega, ← HQ.out, ← HXT.out]
        · rw [Array.getElem?_setIfInBounds_ne (by omega), show 65 - j - 1 + i = 64 - (j - i) by omega, hall.out (j - i) (by omega), show j + 1 - 1 - i = j - i by omega]) (65 - (65 - j - 1))
      have hat := hex_at36 q hq16
      have hsl := slice65 (65 - j - 1) (65 - (j : Int) - 1) (by omega) (by omega) g
      clear huq
      go_wp2
      go_ret2
      exact ⟨j + 1, by omega, by omega, hks.out, rfl, HX.out⟩
theorem formatUintI_any (n : Nat) (w : World) (hn : n < 18446744073709551616) (hc : w.cell? ⟨7, 15, none⟩ = some (.int .u8 4)) :
    Calls Tryz.prog 240 #[.int .u64 (n : Int), .int .i64 16] w fun e w' => ∃ k, 1 ≤ k ∧ k ≤ 16 ∧ n < 16 ^ k ∧ e = .returned (S (hexN k n)) ∧ Ext w w' := by
  have C := Lib.hid (formatBits_any n w hn hc)
  go_enter Tryz.func240, Tryz.ntmps240
  go_wp2_with fail
  refine C.out.mono ?_
  rintro e w1 ⟨k, h1, h2, h3, rfl, hx⟩
  go_wp2
  go_ret
  exact ⟨k, h1, h2, h3, rfl, hx⟩
theorem formatUint_any (n : Nat) (w : World) (hn : n < 18446744073709551616) (hc : w.cell? ⟨7, 15, none⟩ = some (.int .u8 4)) :
    Calls Tryz.prog 190 #[.int .u64 (n : Int), .int .i64 16] w fun e w' => ∃ k, 1 ≤ k ∧ k ≤ 16 ∧ n < 16 ^ k ∧ e = .returned (S (hexN k n)) ∧ Ext w w' := by
  have C := Lib.hid (formatUintI_any n w hn hc)
  go_enter Tryz.func190, Tryz.ntmps190
  go_wp2_with fail
  refine C.out.mono ?_
  rintro e w1 ⟨k, h1, h2, h3, rfl, hx⟩
  go_wp2
  go_ret
  exact ⟨k, h1, h2, h3, rfl, hx⟩
end Go.Proofs.YtmnafaaijglnfaaGreatDoor

namespace Go.Proofs.YtmnafaaijglnfaaGreatDoor
open Go.RowKit

theorem repeat_nought (c : Nat) (w : World) (h : c ≤ 16) :
    Calls Tryz.prog 191 #[.string ⟨#[48]⟩, .int .i64 (c : Int)] w fun e w' => e = .returned (S (List.replicate c 48)) ∧ Ext w w' :=
  (Tryz.strings_Repeat ⟨#[48]⟩ c w (by omega) (by rw [show (⟨#[48]⟩ : ByteArray).size = 1 from rfl]; omega)).mono fun _ _ ⟨a, b⟩ => ⟨by
    rw [a, show (⟨#[48]⟩ : ByteArray).data.toList = List.replicate 1 48 from rfl, Lib.repeatL_replicate, Nat.mul_one], b⟩
set_option maxRecDepth 100000 in
set_option maxHeartbeats 4000000 in
theorem SumOfR_any (s : ByteArray) (w : World) (hg : GoodS w) (hs : s.size ≤ 9000000) :
    Calls Tryz.prog 115 #[.string s] w fun e w' => e = .returned (S (sumT (bs s))) ∧ Ext w w' := by
  obtain ⟨SD, hSD⟩ : ∃ SD : Nat, SD = 14695981039346656037 := ⟨_, rfl⟩
  have HR := Lib.hid (show sumT (bs s) = hexN 16 ((bs s).foldl fnvF SD) from by rw [hSD]; rfl)
  have HSD := Lib.hid (show (14695981039346656037 : Int) = (SD : Int) ∧ SD < 18446744073709551616 from by rw [hSD]; exact ⟨rfl, by omega⟩)
  have HT := Lib.hid hg.tz
  generalize sumT (bs s) = R at *
  clear hSD hg
  go_enter Tryz.func115, Tryz.ntmps115
  go_wp2
  go_loop [3, 8] (fun vn vi => ∃ (k : Nat) (a : Int), k ≤ s.size ∧ vi = .int .i64 k ∧ vn = .int .u64 a ∧ Hid (a = (((bs s).take k).foldl fnvF SD : Nat))) (fun _ vi => s.size - (intOf vi).toNat)
  case atStart => exact ⟨0, _, Nat.zero_le _, rfl, rfl, Lib.hid (by simpa using HSD.out.1)⟩
  case round =>
    obtain ⟨k, a, hk, rfl, rfl, ha⟩ := hrel
    have hlt64 : ((bs s).take k).foldl fnvF SD < 18446744073709551616 := fnv_fold_lt _ _ HSD.out.2
    by_cases hlt : k < s.size
    · have hst := fnv_step (((bs s).take k).foldl fnvF SD) s[k] hlt64
      rw [← ha.out] at hst
      have hnx := fnv_take (bs s) SD k (by rw [bs_length]; exact hlt)
      have hg : (bs s)[k]'(by rw [bs_length]; exact hlt) = s[k] := rfl
      rw [hg] at hnx
      rw [← hnx] at hst
      obtain ⟨b, hb⟩ : ∃ b : Int, b = (((bs s).take (k + 1)).foldl fnvF SD : Nat) := ⟨_, rfl⟩
      rw [← hb] at hst
      have HB := Lib.hid hb
      have hw : IntKind.u64.wrap (s[k].toNat : Int) = s[k].toNat := wrap_u8_64 _
      clear hb hnx hg ha hlt64
      go_wp2
      go_round
      case rel => exact ⟨k + 1, b, by omega, by go_num, rfl, HB⟩
      case measure => simp [intOf]; omega
    · have hkk : k = s.size := by omega
      subst hkk
      rw [List.take_of_length_le (by rw [bs_length]; exact Nat.le_refl _)] at ha hlt64
      obtain rfl := ha.out
      have HL := Lib.hid hlt64
      generalize (bs s).foldl fnvF SD = N at *
      have CF := Lib.hid (fun W (h : Ext w W) => formatUint_any N W HL.out (h.cell HT.out))
      clear ha hlt64 hk
      go_wp2_with fail
      refine (CF.out _ (Ext.refl _)).mono ?_
      rintro e w1 ⟨m, hm1, hm2, hm3, rfl, hx1⟩
      obtain ⟨X, hXS, hXb, hXz⟩ : ∃ X : ByteArray, S (hexN m N) = .string X ∧ bs X = hexN m N ∧ X.size = m := ⟨⟨(hexN m N).toArray⟩, rfl, bs_mk _, by rw [← bs_length, bs_mk, hexN_length]⟩
      have HP := Lib.hid (show R = List.replicate (16 - m) 48 ++ bs X from by rw [HR.out, hXb, hex_pad m N hm2 hm3])
      have CR := Lib.hid (fun W => repeat_nought (16 - m) W (by omega))
      rw [show ((16 - m : Nat) : Int) = 16 - (X.size : Int) by omega] at CR
      have hz1 : X.size ≤ 16 := by omega
      rw [hXS]
      clear hXS hXb hXz
      obtain ⟨Y, hY⟩ : ∃ Y : ByteArray, Y = ⟨(List.replicate (16 - m) 48).toArray⟩ := ⟨_, rfl⟩
      rw [show S (List.replicate (16 - m) 48) = .string Y from by rw [hY]] at CR
      have HY := Lib.hid (show bs Y = List.replicate (16 - m) 48 from by rw [hY, bs_mk])
      have hYz : Y.size ≤ 16 := by rw [← bs_length, HY.out, List.length_replicate]; omega
      clear hY
      go_wp2_with fail
      refine (CR.out _).mono ?_
      rintro e w2 ⟨rfl, hx2⟩
      go_wp2
      go_ret
      exact ⟨ret_strS (by rw [bs_append, HY.out, HP.out]), hx1.trans hx2⟩
end Go.Proofs.YtmnafaaijglnfaaGreatDoor

namespace Go.Proofs.YtmnafaaijglnfaaGreatDoor
open Go.RowKit

theorem lower_hex (d : Nat) (h0 : 10 ≤ d) (h1 : d < 16) (w : World) : Calls Tryz.prog 238 #[.int .u8 (87 + (d : Int))] w fun e w' => e = .returned (.int .u8 (87 + (d : Int))) ∧ w = w' := by
  have e1 : bits .or .u8 (87 + (d : Int)) 32 = 87 + (d : Int) := by
    have : ∀ d : Fin 16, 10 ≤ d.1 → bits .or .u8 (87 + (d.1 : Int)) 32 = 87 + (d.1 : Int) := by decide +kernel
    exact this ⟨d, h1⟩ h0
  go_enter Tryz.func238, Tryz.ntmps238
  go_wp2
  go_ret
  exact ⟨rfl, rfl⟩
theorem hex_acc (m k : Nat) (hk : k < 8) : m / 16 ^ (8 - (k + 1)) = m / 16 ^ (8 - k) * 16 + m / 16 ^ (7 - k) % 16 := by
  rw [show 8 - (k + 1) = 7 - k by omega, show 8 - k = (7 - k) + 1 by omega, Nat.pow_succ, ← Nat.div_div_eq_div_mul]
  omega
set_option maxRecDepth 100000 in
set_option maxHeartbeats 8000000 in
theorem parseUintI_any (t : ByteArray) (m : Nat) (hm : m < 4294967296) (ht : bs t = hexN 8 m) (w : World) :
    Calls Tryz.prog 189 #[.string t, .int .i64 16, .int .i64 64] w fun e w' => e = .returned (.tuple #[.int .u64 (m : Int), .nilIface]) ∧ Ext w w' := by
  have hsz : t.size = 8 := by rw [← bs_length, ht, hexN_length]
  have hemp := nemp_bool (show 0 < t.size by omega)
  have hcv := Lib.run_convert_string_bytes (P := Tryz.prog) w 9 202 5 t Tryz.underlying9 Tryz.underlying202 Tryz.underlying5
  have hB := Lib.hid (fun j (hj : j < 8) => show (Lib.bytesWorld w 5 t).cell? ⟨w.heap.size, j, none⟩ = some (.int .u8 (hexD (m / 16 ^ (7 - j) % 16)).toNat) from by
    have h1 := Lib.bytesWorld_cell w 5 t j (by omega)
    rw [h1]
    have h2 : t.data.toList.getD j 0 = (hexN 8 m)[j]'(by rw [hexN_length]; exact hj) := by
      rw [show t.data.toList = hexN 8 m from ht]
      simp [List.getD, List.getElem?_eq_getElem (show j < (hexN 8 m).length by rw [hexN_length]; exact hj)]
    rw [h2, hexN_get])
  have hx0 : Ext w (Lib.bytesWorld w 5 t) := (Ext.refl w).bytesWorld _ _
  rw [hsz] at hcv
  generalize grownCap w 8 0 5 = gc at *
  generalize Lib.bytesWorld w 5 t = W0 at *
  generalize w.heap.size = g at *
  have hmv : IntKind.u64.wrap (IntKind.u64.wrap 18446744073709551616 - 1) = 18446744073709551615 := by
    rw [IntKind.wrap_u64, IntKind.wrap_u64]
    decide
  have HM := Lib.hid hm
  clear ht hm
  go_enter Tryz.func189, Tryz.ntmps189
  go_wp2
  go_loop [12, 13, 101] (fun vu vn vi => ∃ (k : Nat) (a : Int), vu = .bool false ∧ vn = .int .u64 a ∧ vi = .int .i64 k ∧ k ≤ 8 ∧ Hid (a = (m / 16 ^ (8 - k) : Nat)))
    (fun _ _ vi => 8 - (intOf vi).toNat)
  case atStart => exact ⟨0, 0, rfl, rfl, rfl, by omega, Lib.hid (by have := HM.out; simp; omega)⟩
  case round =>
    obtain ⟨k, a, rfl, rfl, rfl, hk, hh⟩ := hrel
    by_cases hlt : k < 8
    · have hc := hB.out k hlt
      have hnx := hex_acc m k hlt
      obtain ⟨d, hd⟩ : ∃ d, d = m / 16 ^ (7 - k) % 16 := ⟨_, rfl⟩
      have hd16 : d < 16 := by rw [hd]; exact Nat.mod_lt _ (by decide)
      rw [← hd] at hc hnx
      rw [hexD_num d hd16] at hc
      have HN := Lib.hid (show a * 16 + (d : Int) = (m / 16 ^ (8 - (k + 1)) : Nat) from by rw [hnx, hh.out]; omega)
      have hab : a * 16 + (d : Int) ≤ 4294967295 := by
        have h1 : m / 16 ^ (8 - (k + 1)) ≤ m := Nat.div_le_self _ _
        have h2 := HM.out
        have h3 := HN.out
        omega
      have ha0 : 0 ≤ a := by rw [hh.out]; omega
      clear hd hnx hh
      by_cases h10 : d < 10
      · rw [if_pos h10] at hc
        obtain ⟨c, hcc⟩ : ∃ c : Int, c = 48 + (d : Int) := ⟨_, rfl⟩
        have hc2 : W0.cell? ⟨g, k, none⟩ = some (.int .u8 c) := by rw [hc, hcc]; rfl
        have i1 : 48 ≤ c := by omega
        have i2 : c ≤ 57 := by omega
        have i3 : c - 48 = (d : Int) := by omega
        clear hc hcc hB
        go_wp2
        go_round
        case rel => exact ⟨k + 1, _, rfl, rfl, by go_num, by omega, HN⟩
        case measure => simp [intOf]; omega
      · rw [if_neg h10] at hc
        have hc2 : W0.cell? ⟨g, k, none⟩ = some (.int .u8 (87 + (d : Int))) := by rw [hc]; simp
        have i1 : 10 ≤ d := by omega
        clear hc hB h10
        go_wp2_with (go_at_call 238; refine (lower_hex d i1 hd16 _).mono ?_; rintro e w' ⟨rfl, rfl⟩)
        go_round
        case rel => exact ⟨k + 1, _, rfl, rfl, by go_num, by omega, Lib.hid (by have := HN.out; omega)⟩
        case measure => simp [intOf]; omega
    · obtain rfl : k = 8 := by omega
      obtain rfl : a = (m : Int) := by rw [hh.out, Nat.sub_self, Nat.pow_zero, Nat.div_one]
      clear hh
      go_wp2
      go_ret2
      exact ⟨rfl, hx0⟩
theorem parseUint_any (t : ByteArray) (m : Nat) (hm : m < 4294967296) (ht : bs t = hexN 8 m) (w : World) :
    Calls Tryz.prog 114 #[.string t, .int .i64 16, .int .i64 64] w fun e w' => e = .returned (.tuple #[.int .u64 (m : Int), .nilIface]) ∧ Ext w w' := by
  have C := Lib.hid (parseUintI_any t m hm ht w)
  go_enter Tryz.func114, Tryz.ntmps114
  go_wp2_with fail
  refine C.out.mono ?_
  rintro e w1 ⟨rfl, hx⟩
  go_wp2
  go_ret2
  exact ⟨rfl, hx⟩
end Go.Proofs.YtmnafaaijglnfaaGreatDoor

namespace Go.Proofs.YtmnafaaijglnfaaGreatDoor
open Go.RowKit

/-- a slice of texts -/
def RdT (w : World) (A : Option Addr) (l : List Str) : Prop := l ≠ [] → ∃ g, A = some ⟨g, 0, none⟩ ∧ ∀ k (h : k < l.length), w.cell? ⟨g, k, none⟩ = some (S l[k])
theorem RdT.ext {w w' : World} {A : Option Addr} {l : List Str} (h : RdT w A l) (hx : Ext w w') : RdT w' A l := fun hn => by
  obtain ⟨g, e, k⟩ := h hn
  exact ⟨g, e, fun i hi => hx.cell (k i hi)⟩
theorem RdT.nil (w : World) (A : Option Addr) : RdT w A [] := fun h => absurd rfl h
theorem RdT.own {w : World} {B n : Nat} {v : Value} {l : List Str} (h : w.ownsRow B 9 1 v n (l.map S)) (hn : l.length = n) : ∃ A c, v = .slice A n c ∧ RdT w A l := by
  rcases Nat.eq_zero_or_pos n with h0 | h0
  · subst h0
    obtain rfl : l = [] := List.eq_nil_of_length_eq_zero hn
    rcases h.2 with ⟨rfl, _⟩ | ⟨g, cap, cur, rfl, _⟩
    · exact ⟨none, 0, rfl, RdT.nil _ _⟩
    · exact ⟨_, _, rfl, RdT.nil _ _⟩
  · obtain ⟨g, c, rfl, _, _, _, hc⟩ := own_form h h0
    exact ⟨_, _, rfl, fun _ => ⟨g, rfl, fun k hk => hc k _ (by rw [List.getElem?_map, List.getElem?_eq_getElem hk]; rfl)⟩⟩
set_option maxHeartbeats 4000000 in
theorem EqualT_same (A1 A2 : Option Addr) (c1 c2 n : Nat) (l : List Str) (w : World) (hn : l.length = n) (h1 : RdT w A1 l) (h2 : RdT w A2 l) (hl : n ≤ 100000000) :
    Calls Tryz.prog 54 #[.slice A1 n c1, .slice A2 n c2] w fun e w' => e = .returned (.bool true) ∧ Ext w w' := by
  have hne : ((n : Int) != (n : Int)) = false := by rw [bne, beq_iff_eq.2 rfl]; rfl
  have HN := Lib.hid hn; have H1 := Lib.hid h1; have H2 := Lib.hid h2
  clear hn h1 h2
  go_enter Tryz.func54, Tryz.ntmps54
  go_wp2
  go_loopw [13] (fun t wr => ∃ j : Nat, t = .int .i64 j ∧ j ≤ n ∧ Ext w wr) (fun t _ => n - (intOf t).toNat)
  case atStart => exact ⟨0, by go_num, Nat.zero_le _, Ext.refl w⟩
  case round =>
    obtain ⟨j, rfl, hj, hxr⟩ := hrel
    by_cases hlt : j < n
    · have hk : j < l.length := by rw [HN.out]; exact hlt
      have hne0 : l ≠ [] := fun e => by rw [e] at hk; exact absurd hk (Nat.not_lt_zero _)
      obtain ⟨g1, rfl, k1⟩ := H1.out hne0
      obtain ⟨g2, rfl, k2⟩ := H2.out hne0
      have x1 := hxr.cell (k1 j hk)
      have x2 := hxr.cell (k2 j hk)
      obtain ⟨t, ht⟩ : ∃ t : ByteArray, S l[j] = .string t := ⟨_, rfl⟩
      rw [ht] at x1 x2
      have hq0 : (0 : Int) ≤ (j : Int) := by omega
      have hlb1 := lt_of_cell x1; have hlb2 := lt_of_cell x2
      clear k1 k2 ht
      go_wp2_with fail
      refine wp_region_ext (by kernel_rfl) (by kernel_rfl) ?_
      repeat (first | go_big_quiet_skip | (refine wpQuiet_step (fun K hK => ?_); go_simp; first | (refine hK _ ?_; clear hK K) | (apply Exists.intro; refine ⟨fun wq hwq => ?_, hK _ ?_⟩; (obtain ⟨hqc, hqf⟩ := hwq.cells; have hqs := hwq.size; (try go_simp); first | rfl | ((first | rw [if_neg (by omega)] | rw [if_pos (by omega)]); (try go_simp); rfl) | ((fail))); clear hK K)))
      refine wpQuiet_nil ?_
      intro wN hxN
      obtain ⟨hcN, hfN⟩ := hxN.cells
      have hsN := hxN.size
      go_wp2
      go_roundw
      case rel => exact ⟨j + 1, by go_num, hlt, hxr.trans hxN⟩
      case measure => simp [intOf]; omega
    · go_wp2
      go_ret
      exact ⟨rfl, hxr⟩
end Go.Proofs.YtmnafaaijglnfaaGreatDoor

namespace Go.Proofs.YtmnafaaijglnfaaGreatDoor
open Go.RowKit

/-- the first number below n that p takes, or -1 -/
def findF (n : Nat) (p : Nat → Bool) : Int := match (List.range n).find? p with | some k => (k : Int) | none => -1
def anyF (n : Nat) (p : Nat → Bool) : Bool := (List.range n).any p
theorem findF_at {n k : Nat} {p : Nat → Bool} (hk : k < n) (h0 : ∀ j, j < k → p j = false) (h : p k = true) : findF n p = k := by
  have e : (List.range n).find? p = some k := by
    rw [List.find?_eq_some_iff_append]
    refine ⟨h, List.range k, (List.range (n - k - 1)).map fun i => k + (i + 1), ?_, fun a ha => by rw [h0 a (List.mem_range.1 ha)]; rfl⟩
    have e1 : n = k + ((n - k - 1) + 1) := by omega
    rw [e1, List.range_add, List.range_succ_eq_map]
    simp [Function.comp_def]
  unfold findF; rw [e]
theorem findF_none {n : Nat} {p : Nat → Bool} (h0 : ∀ j, j < n → p j = false) : findF n p = -1 := by
  have e : (List.range n).find? p = none := by
    rw [List.find?_eq_none]
    exact fun a ha => by rw [h0 a (List.mem_range.1 ha)]; decide
  unfold findF; rw [e]
theorem findF_any (n : Nat) (p : Nat → Bool) : decide ((0 : Int) ≤ findF n p) = anyF n p := by
  unfold findF anyF
  cases h : (List.range n).find? p with
  | none =>
    rw [List.find?_eq_none] at h
    rw [decide_eq_false (by decide), Eq.comm, List.any_eq_false]
    exact h
  | some k =>
    have h1 := List.find?_some h
    have h2 := List.mem_of_find?_eq_some h
    rw [decide_eq_true (show (0 : Int) ≤ (k : Int) by omega), Eq.comm, List.any_eq_true]
    exact ⟨k, h2, h1⟩
theorem allF_next {p : Nat → Bool} {k : Nat} (h0 : ∀ j, j < k → p j = false) (h : p k = false) : ∀ j, j < k + 1 → p j = false := fun j hj => by
  rcases Nat.lt_or_ge j k with h1 | h1
  · exact h0 j h1
  · obtain rfl : j = k := by omega
    exact h
theorem any_allF {α : Type} (l : List α) (p : α → Bool) (z : α) : anyF l.length (fun j => p (l.getD j z)) = l.any p := by
  unfold anyF
  rw [Bool.eq_iff_iff, List.any_eq_true, List.any_eq_true]
  constructor
  · rintro ⟨j, hj, h⟩
    have hj := List.mem_range.1 hj
    exact ⟨l[j], List.getElem_mem hj, by simpa [List.getD, List.getElem?_eq_getElem hj] using h⟩
  · rintro ⟨m, hm, h⟩
    obtain ⟨j, hj, rfl⟩ := List.mem_iff_getElem.1 hm
    exact ⟨j, List.mem_range.2 hj, by simpa [List.getD, List.getElem?_eq_getElem hj] using h⟩
def RdF (w : World) (A : Option Addr) (v : List ByteArray) : Prop := v ≠ [] → ∃ b o, A = some ⟨b, o, none⟩ ∧ ∀ k (h : k < v.length), w.cell? ⟨b, o + k, none⟩ = some (.string v[k])
theorem RdF.ext {w w' : World} {A : Option Addr} {v : List ByteArray} (h : RdF w A v) (hx : Ext w w') : RdF w' A v := fun hn => by
  obtain ⟨b, o, e, k⟩ := h hn
  exact ⟨b, o, e, fun i hi => hx.cell (k i hi)⟩
set_option maxHeartbeats 4000000 in
set_option maxRecDepth 100000 in
theorem IndexFuncF_any (A : Option Addr) (n c b o : Nat) (V : Nat → ByteArray) (f : FuncId) (cp : Array Value) (p : Nat → Bool) (w : World) (hA : 0 < n → A = some ⟨b, o, none⟩) (hl : n ≤ 2097152)
    (hen : ∀ xs w, Sem.run Tryz.prog (callFunc f xs) w = .ok (.enter f xs) w)
    (hrow : ∀ k, k < n → ∀ W, Ext w W → W.cell? ⟨b, o + k, none⟩ = some (.string (V k)))
    (hp : ∀ k, k < n → ∀ W, Ext w W → Calls Tryz.prog f (#[.string (V k)] ++ cp) W fun e w' => e = .returned (.bool (p k)) ∧ Ext W w') :
    Calls Tryz.prog 192 #[.slice A n c, .func (.func f) #[] cp] w fun e w' => e = .returned (.int .i64 (findF n p)) ∧ Ext w w' := by
  have HP := Lib.hid hp
  have HR := Lib.hid hrow
  have HF := Lib.hid (fun k (hk : k < n) h0 h => findF_at (p := p) hk h0 h)
  have HN := Lib.hid (fun h0 => findF_none (n := n) (p := p) h0)
  generalize findF n p = Z at *
  clear hp hrow
  go_enter Tryz.func192, Tryz.ntmps192
  go_wp2
  go_loopw [8] (fun i wr => ∃ k : Nat, k ≤ n ∧ i = .int .i64 k ∧ Hid (∀ j, j < k → p j = false) ∧ Ext w wr) (fun i _ => n - (intOf i).toNat)
  case atStart => exact ⟨0, Nat.zero_le _, rfl, fun j h => absurd h (Nat.not_lt_zero _), Ext.refl _⟩
  case round =>
    obtain ⟨k, hk, rfl, HALL, hxr⟩ := hrel
    by_cases hlt : k < n
    · obtain rfl := hA (by omega)
      have HL := HR.out k hlt _ hxr
      have HC := Lib.hid (HP.out k hlt)
      have HB := Lib.hid (show p k = true → Z = k from HF.out k hlt HALL.out)
      have HX := Lib.hid (show p k = false → ∀ j, j < k + 1 → p j = false from allF_next HALL.out)
      generalize p k = r at *
      generalize V k = v at *
      go_wp2_with fail
      refine (HC.out _ hxr).mono ?_
      rintro e w1 ⟨rfl, hx1⟩
      clear HL
      cases r
      · have H1 := Lib.hid (HX.out rfl)
        go_wp2
        go_roundw
        case rel => exact ⟨k + 1, by omega, by go_num, H1.out, hxr.trans hx1⟩
        case measure => simp [intOf]; omega
      · have H1 := Lib.hid (HB.out rfl)
        go_wp2
        go_ret
        exact ⟨ret_int H1.out.symm, hxr.trans hx1⟩
    · obtain rfl : k = n := by omega
      have H1 := Lib.hid (HN.out HALL.out)
      go_wp2
      go_ret
      exact ⟨ret_int H1.out.symm, hxr⟩
set_option maxHeartbeats 1000000 in
theorem ContainsFuncF_any (v : List ByteArray) (A : Option Addr) (n c : Nat) (f : FuncId) (cp : Array Value) (p : ByteArray → Bool) (w : World) (hn : v.length = n) (hr : RdF w A v) (hl : n ≤ 2097152)
    (hen : ∀ xs w, Sem.run Tryz.prog (callFunc f xs) w = .ok (.enter f xs) w)
    (hp : ∀ x ∈ v, ∀ W, Ext w W → Calls Tryz.prog f (#[.string x] ++ cp) W fun e w' => e = .returned (.bool (p x)) ∧ Ext W w') :
    Calls Tryz.prog 119 #[.slice A n c, .func (.func f) #[] cp] w fun e w' => e = .returned (.bool (v.any p)) ∧ Ext w w' := by
  have HI : Calls Tryz.prog 192 #[.slice A n c, .func (.func f) #[] cp] w fun e w' => e = .returned (.int .i64 (findF n fun j => p (v.getD j ⟨#[]⟩))) ∧ Ext w w' := by
    subst hn
    rcases Nat.eq_zero_or_pos v.length with h0 | h0
    · exact IndexFuncF_any A v.length c 0 0 (fun _ => ⟨#[]⟩) _ _ _ w (fun h => by omega) hl hen (fun q hq => by omega) (fun q hq => by omega)
    · obtain ⟨b, o, rfl, hX⟩ := hr (fun e => by rw [e] at h0; exact absurd h0 (Nat.lt_irrefl _))
      refine IndexFuncF_any _ v.length c b o (fun j => v.getD j ⟨#[]⟩) _ _ _ w (fun _ => rfl) hl hen (fun q hq W hW => ?_) (fun q hq W hW => ?_)
      · have := hW.cell (hX q hq)
        simpa [List.getD, List.getElem?_eq_getElem hq] using this
      · exact hp _ (by simp [List.getD, List.getElem?_eq_getElem hq]) W hW
  have CI := Lib.hid HI
  have HZ := Lib.hid (findF_any n fun j => p (v.getD j ⟨#[]⟩))
  have HY := Lib.hid (any_allF v p ⟨#[]⟩)
  rw [hn] at HY
  rw [HY.out] at HZ
  generalize (findF n fun j => p (v.getD j ⟨#[]⟩)) = z at *
  generalize v.any p = r at *
  clear hen hp HI hr HY
  go_enter Tryz.func119, Tryz.ntmps119
  go_wp2_with fail
  refine CI.out.mono ?_
  rintro e w1 ⟨rfl, hx1⟩
  go_wp2
  go_ret
  exact ⟨ret_bool (by rw [← HZ.out]), hx1⟩
end Go.Proofs.YtmnafaaijglnfaaGreatDoor

namespace Go.Proofs.YtmnafaaijglnfaaGreatDoor
open Go.ChangeShapes Go.WideShapes Go.ChangeAt Go.RowKit Go.WideElems Go.Joins

/-- what cells of a type say: a value with memory around it, and the bulk it has at least -/
def Opens (T : TypeId) {α : Type} (R : World → α → List Value → Prop) (bk : α → Nat) : Prop :=
  ∀ (H : Type) (enc : TypeId × Value → H) (W : World) (fuel : Nat) (cs : List Value) (x : DataW H × List MemPlace), DataW.trod enc Tryz.prog W 0 (fun _ => true) true fuel T cs = some x → ∃ v, R W v cs ∧ bk v ≤ Rows.uptoBulk x.1

theorem opens_string {T : TypeId} (hT : Tryz.prog.underlying T = some .string) : Opens T (fun _ (s : ByteArray) cs => cs = [.string s]) (fun s => s.size + 1) := fun H enc W fuel cs x h => by
  obtain ⟨s, rfl, rfl, _⟩ := DataW.trod_string hT h
  exact ⟨s, rfl, by simp only [Rows.uptoBulk, Array.length_toList]; exact Nat.le_refl _⟩
theorem opens_int {T : TypeId} (hT : Tryz.prog.underlying T = some (.int .i64)) : Opens T (fun _ (n : Int) cs => cs = [.int .i64 n]) (fun _ => 1) := fun H enc W fuel cs x h => by
  obtain ⟨n, rfl, rfl, _⟩ := DataW.trod_int hT h
  exact ⟨n, rfl, by simp [Rows.uptoBulk]⟩
theorem opens_bool {T : TypeId} (hT : Tryz.prog.underlying T = some .bool) : Opens T (fun _ (b : Bool) cs => cs = [.bool b]) (fun _ => 1) := fun H enc W fuel cs x h => by
  obtain ⟨n, rfl, rfl⟩ := DataW.trod_bool hT h
  exact ⟨n, rfl, by simp [Rows.uptoBulk]⟩
theorem bulkAll_le {H : Type} {n : Nat} {D : Nat → DataW H} {bk : Nat → Nat} (h : ∀ i, i < n → bk i ≤ Rows.uptoBulk (D i)) : ((List.range n).map bk).sum ≤ Rows.uptoBulkAll ((List.range n).map D) := by
  suffices ∀ l : List Nat, (∀ i ∈ l, i < n) → (l.map bk).sum ≤ Rows.uptoBulkAll (l.map D) from this _ fun i hi => List.mem_range.1 hi
  intro l
  induction l with
  | nil => intro _; exact Nat.zero_le _
  | cons a l ih =>
    intro hl
    have h1 := h a (hl a (by simp))
    have h2 := ih fun i hi => hl i (by simp [hi])
    simp only [List.map_cons, List.sum_cons, Rows.uptoBulkAll]
    omega
/-- elements of a slice in memory, by whatever an element's cells say -/
def RowOf {α : Type} (R : World → α → List Value → Prop) (sz : Nat) (W : World) (A : Option Addr) (l : List α) : Prop :=
  l ≠ [] → ∃ b o, A = some ⟨b, o, none⟩ ∧ ∀ k (h : k < l.length), ∃ ecs, R W l[k] ecs ∧ ecs.length = sz ∧ ∀ j, j < sz → W.cell? ⟨b, o + k * sz + j, none⟩ = ecs[j]?
theorem opens_slice {T E : TypeId} {α : Type} [Inhabited α] {R : World → α → List Value → Prop} {bk : α → Nat} {sz : Nat} (hT : Tryz.prog.underlying T = some (.slice E)) (hsz : Tryz.prog.cellsOf E = sz) (h0 : 0 < sz) (hE : Opens E R bk) :
    Opens T (fun W (l : List α) cs => ∃ A c, cs = [.slice A l.length c] ∧ RowOf R sz W A l) (fun l => (l.map bk).sum + 1) := fun H enc W fuel cs x h => by
  rcases Deep.open_slice hT h with ⟨rfl, rfl⟩ | ⟨a, len, cap, m, n, D, Pl, rfl, _, hl, _, hm, rfl, hx⟩
  · exact ⟨[], ⟨none, 0, rfl, fun h => absurd rfl h⟩, by simp [Rows.uptoBulk]⟩
  · have hlm : len ≤ m := by rw [hm]; split <;> omega
    have each : ∀ i, i < len → ∃ v : α, bk v ≤ Rows.uptoBulk (D i) ∧ ∃ ecs, R W v ecs ∧ W.cells? 0 (a.add (i * sz)) sz = some ecs := fun i hi => by
      obtain ⟨cs', h1, h2⟩ := hx i (by omega)
      obtain ⟨v, h3, h4⟩ := hE H enc W n cs' _ h2
      rw [hsz] at h1
      exact ⟨v, h4, cs', h3, h1⟩
    obtain ⟨F, hF⟩ := Deep.choose_lt each
    refine ⟨(List.range len).map F, ⟨some a, cap, by simp, ?_⟩, ?_⟩
    · intro hne
      have hpos : 0 < len := by
        rcases Nat.eq_zero_or_pos len with h | h
        · subst h; exact absurd rfl hne
        · exact h
      obtain ⟨_, ecs0, _, hc0⟩ := hF 0 hpos
      obtain ⟨_, hl0, hcell0⟩ := World.cells?_some hc0
      obtain ⟨b, off, spot⟩ := a
      have g0 := hcell0 0 h0
      have hsome : ∃ v, ecs0[0]? = some v := ⟨ecs0[0], List.getElem?_eq_getElem (by omega)⟩
      obtain ⟨v0, hv0⟩ := hsome
      rw [hv0] at g0
      have hspot : spot = none := by
        have := World.cell?_spot g0
        simpa [Addr.add] using this
      subst hspot
      refine ⟨b, off, rfl, fun k hk => ?_⟩
      have hk' : k < len := by simpa using hk
      obtain ⟨_, ecs, hR, hc⟩ := hF k hk'
      obtain ⟨_, hl1, hcell⟩ := World.cells?_some hc
      refine ⟨ecs, by simpa using hR, hl1, fun j hj => ?_⟩
      have := hcell j hj
      rwa [Deep.add_add, add_plain, ← Nat.add_assoc] at this
    · have := bulkAll_le (H := H) (n := len) (D := D) (bk := fun i => bk (F i)) fun i hi => (hF i hi).1
      simp only [List.map_map, Rows.uptoBulk]
      have e : (bk ∘ F) = fun i => bk (F i) := rfl
      rw [e]
      omega
theorem opens_struct1 {T : TypeId} {f0 : Field} {α : Type} {R : World → α → List Value → Prop} {bk : α → Nat} (hT : Tryz.prog.underlying T = some (.struct #[f0])) (ho : f0.offset = 0) (hs : Tryz.prog.cellsOf T = Tryz.prog.cellsOf f0.type) (hE : Opens f0.type R bk) :
    Opens T R bk := fun H enc W fuel cs x h => by
  obtain ⟨y0, n, rfl, hl, h0⟩ := trod_struct1 hT h
  obtain ⟨v, h1, h2⟩ := hE H enc W n _ _ h0
  rw [ho, List.drop_zero, List.take_of_length_le (by omega)] at h1
  exact ⟨v, h1, by simp only [Rows.uptoBulk, Rows.uptoBulkAll]; omega⟩

theorem sum_mem {α : Type} {bk : α → Nat} : ∀ {l : List α} {a : α}, a ∈ l → bk a ≤ (l.map bk).sum
  | b :: l, a, h => by
    rcases List.mem_cons.1 h with rfl | h
    · simp only [List.map_cons, List.sum_cons]; omega
    · have := sum_mem (bk := bk) h
      simp only [List.map_cons, List.sum_cons]; omega
theorem sum_len {α : Type} {bk : α → Nat} {c : Nat} (h : ∀ a, c ≤ bk a) : ∀ l : List α, l.length * c ≤ (l.map bk).sum
  | [] => by simp
  | a :: l => by
    have := sum_len h l
    have := h a
    simp only [List.map_cons, List.sum_cons, List.length_cons, Nat.succ_mul]; omega
end Go.Proofs.YtmnafaaijglnfaaGreatDoor

namespace Go.Proofs.YtmnafaaijglnfaaGreatDoor
open Go.ChangeShapes Go.WideShapes Go.ChangeAt Go.RowKit Go.WideElems Go.Joins

set_option maxRecDepth 100000 in
theorem opens_ver : Opens 23 (fun _ (v : V4) cs => cs = [.int .i64 v.a1, .int .i64 v.a2, .int .i64 v.a3, .string v.a]) (fun v => v.a.size + 4) := fun H enc W fuel cs x h => by
  obtain ⟨y0, y1, y2, y3, n, rfl, hl, h0, h1, h2, h3⟩ := trod_struct4 Tryz.underlying23 h
  have hc : Tryz.prog.cellsOf 23 = 4 := by kernel_rfl
  have ci : Tryz.prog.cellsOf 3 = 1 := by kernel_rfl
  have cst : Tryz.prog.cellsOf 9 = 1 := by kernel_rfl
  rw [hc] at hl
  match cs, hl with
  | [c0, c1, c2, c3], _ =>
    dsimp only at h0 h1 h2 h3
    rw [ci] at h0 h1 h2
    rw [cst] at h3
    obtain ⟨a1, e1, b1⟩ := opens_int Tryz.underlying3 H enc W n _ _ h0
    obtain ⟨a2, e2, b2⟩ := opens_int Tryz.underlying3 H enc W n _ _ h1
    obtain ⟨a3, e3, b3⟩ := opens_int Tryz.underlying3 H enc W n _ _ h2
    obtain ⟨a, e4, b4⟩ := opens_string Tryz.underlying9 H enc W n _ _ h3
    simp at e1 e2 e3 e4
    subst e1 e2 e3 e4
    exact ⟨⟨a1, a2, a3, a⟩, rfl, by dsimp only at b1 b2 b3 b4 ⊢; simp only [Rows.uptoBulk, Rows.uptoBulkAll]; omega⟩
set_option maxRecDepth 100000 in
theorem opens_span : Opens 130 (fun _ (s : Sp) cs => cs = [.bool s.hf, .bool s.ht, .int .i64 s.f.a1, .int .i64 s.f.a2, .int .i64 s.f.a3, .string s.f.a, .int .i64 s.t.a1, .int .i64 s.t.a2, .int .i64 s.t.a3, .string s.t.a]) (fun s => s.f.a.size + s.t.a.size + 10) := fun H enc W fuel cs x h => by
  obtain ⟨y0, y1, y2, y3, n, rfl, hl, h0, h1, h2, h3⟩ := trod_struct4 Tryz.underlying130 h
  have hc : Tryz.prog.cellsOf 130 = 10 := by kernel_rfl
  have cb : Tryz.prog.cellsOf 4 = 1 := by kernel_rfl
  have cv : Tryz.prog.cellsOf 23 = 4 := by kernel_rfl
  rw [hc] at hl
  match cs, hl with
  | [c0, c1, c2, c3, c4, c5, c6, c7, c8, c9], _ =>
    dsimp only at h0 h1 h2 h3
    rw [cb] at h0 h1
    rw [cv] at h2 h3
    obtain ⟨hf, e1, b1⟩ := opens_bool Tryz.underlying4 H enc W n _ _ h0
    obtain ⟨ht, e2, b2⟩ := opens_bool Tryz.underlying4 H enc W n _ _ h1
    obtain ⟨f, e3, b3⟩ := opens_ver H enc W n _ _ h2
    obtain ⟨t, e4, b4⟩ := opens_ver H enc W n _ _ h3
    simp at e1 e2 e3 e4
    obtain ⟨rfl, rfl, rfl, rfl⟩ := e3
    obtain ⟨rfl, rfl, rfl, rfl⟩ := e4
    subst e1 e2
    exact ⟨⟨hf, ht, f, t⟩, rfl, by dsimp only at b1 b2 b3 b4 ⊢; simp only [Rows.uptoBulk, Rows.uptoBulkAll]; omega⟩
instance : Inhabited V4 := ⟨⟨0, 0, 0, ⟨#[]⟩⟩⟩
instance : Inhabited Sp := ⟨⟨false, false, default, default⟩⟩
theorem rowOf_spans {W : World} {A : Option Addr} {l : List Sp} (h : RowOf (fun _ (s : Sp) cs => cs = [.bool s.hf, .bool s.ht, .int .i64 s.f.a1, .int .i64 s.f.a2, .int .i64 s.f.a3, .string s.f.a, .int .i64 s.t.a1, .int .i64 s.t.a2, .int .i64 s.t.a3, .string s.t.a]) 10 W A l) : RdS W A l := fun hne => by
  obtain ⟨b, o, rfl, hc⟩ := h hne
  refine ⟨b, o, rfl, ?_, ?_, ?_, ?_, ?_, ?_, ?_, ?_, ?_, ?_⟩ <;> intro k hk <;> obtain ⟨ecs, rfl, _, hj⟩ := hc k hk
  · exact hj 0 (by omega)
  · exact hj 1 (by omega)
  · exact hj 2 (by omega)
  · exact hj 3 (by omega)
  · exact hj 4 (by omega)
  · exact hj 5 (by omega)
  · exact hj 6 (by omega)
  · exact hj 7 (by omega)
  · exact hj 8 (by omega)
  · exact hj 9 (by omega)
set_option maxRecDepth 100000 in
/-- a range -/
theorem opens_range : Opens 42 (fun W (l : List Sp) cs => ∃ A c, cs = [.slice A l.length c] ∧ RdS W A l) (fun l => (l.map fun s => s.f.a.size + s.t.a.size + 10).sum + 1) := fun H enc W fuel cs x h => by
  obtain ⟨l, ⟨A, c, e, hr⟩, hb⟩ := opens_struct1 Tryz.underlying42 rfl (by kernel_rfl) (opens_slice (sz := 10) Tryz.underlying40 (by kernel_rfl) (by decide) opens_span) H enc W fuel cs x h
  exact ⟨l, ⟨A, c, e, rowOf_spans hr⟩, hb⟩
set_option maxRecDepth 100000 in
/-- a range by value, of a bulk -/
theorem open_range {H : Type} {enc : TypeId × Value → H} {W : World} {base : Nat} {v : Value} {d : DataW H} {p : List MemPlace} (hv : Value.okWide Tryz.prog W .any base 42 v) (h : DataW.Trod enc Tryz.prog W 0 (fun _ => true) true 42 v d p) :
    ∃ A c l, v = .agg #[.slice A l.length c] ∧ RdS W A l ∧ (∀ s ∈ l, s.f.a.size + s.t.a.size ≤ Rows.uptoBulk d) ∧ l.length * 10 ≤ Rows.uptoBulk d := by
  obtain ⟨cs, rfl, _⟩ := okWide_struct Tryz.underlying42 hv
  obtain ⟨fuel, hf⟩ := h
  obtain ⟨l, ⟨A, c, e, hr⟩, hb⟩ := opens_range H enc W fuel _ _ hf
  refine ⟨A, c, l, ?_, hr, fun s hs => ?_, ?_⟩
  · obtain ⟨cs⟩ := cs
    simp only [Value.cells] at e
    rw [show cs = _ from e]
  · have := sum_mem (bk := fun s : Sp => s.f.a.size + s.t.a.size + 10) hs
    dsimp only at this hb
    omega
  · have := sum_len (bk := fun s : Sp => s.f.a.size + s.t.a.size + 10) (c := 10) (fun a => by omega) l
    dsimp only at this hb
    omega
end Go.Proofs.YtmnafaaijglnfaaGreatDoor

namespace Go.Proofs.YtmnafaaijglnfaaGreatDoor
open Go.ChangeShapes Go.WideShapes Go.ChangeAt Go.RowKit Go.WideElems Go.Joins

theorem StrC.le {m m' : Nat} (hm : m ≤ m') {c : Cd} (h : StrC m c) : StrC m' c := by
  induction h with
  | mk k n x l hn hx _ ih => exact .mk k n x l (by omega) (by omega) ih
instance : Inhabited Cd := ⟨zeroC⟩
theorem bulk_mem {H : Type} {n : Nat} {D : Nat → DataW H} {i : Nat} (h : i < n) : Rows.uptoBulk (D i) ≤ Rows.uptoBulkAll ((List.range n).map D) := by
  suffices ∀ l : List Nat, i ∈ l → Rows.uptoBulk (D i) ≤ Rows.uptoBulkAll (l.map D) from this _ (List.mem_range.2 h)
  intro l
  induction l with
  | nil => intro h; cases h
  | cons a l ih =>
    intro h
    simp only [List.map_cons, Rows.uptoBulkAll]
    rcases List.mem_cons.1 h with rfl | h
    · omega
    · have := ih h; omega
set_option maxRecDepth 100000 in
theorem opens_cond (H : Type) (enc : TypeId × Value → H) (W : World) : ∀ (N fuel : Nat) (cs : List Value) (x : DataW H × List MemPlace), DataW.trod enc Tryz.prog W 0 (fun _ => true) true fuel 52 cs = some x → Rows.uptoBulk x.1 ≤ N →
    ∃ c : Cd, CdIn (fun _ => True) W c (.agg cs.toArray) ∧ cnt c ≤ Rows.uptoBulk x.1 ∧ StrC (Rows.uptoBulk x.1) c := by
  intro N
  induction N with
  | zero =>
    intro fuel cs x h hb
    obtain ⟨y0, y1, y2, y3, n, rfl, hl, h0, h1, h2, h3⟩ := trod_struct4 Tryz.underlying52 h
    simp only [Rows.uptoBulk, Rows.uptoBulkAll] at hb
    omega
  | succ N ih =>
    intro fuel cs x h hb
    obtain ⟨y0, y1, y2, y3, n, rfl, hl, h0, h1, h2, h3⟩ := trod_struct4 Tryz.underlying52 h
    have hc : Tryz.prog.cellsOf 52 = 4 := by kernel_rfl
    have ci : Tryz.prog.cellsOf 3 = 1 := by kernel_rfl
    have cst : Tryz.prog.cellsOf 9 = 1 := by kernel_rfl
    have csl : Tryz.prog.cellsOf 50 = 1 := by kernel_rfl
    rw [hc] at hl
    match cs, hl with
    | [c0, c1, c2, c3], _ =>
      dsimp only at h0 h1 h2 h3
      rw [ci] at h0
      rw [cst] at h1 h2
      rw [csl] at h3
      obtain ⟨k, e0, b0⟩ := opens_int Tryz.underlying3 H enc W n _ _ h0
      obtain ⟨nm, e1, b1⟩ := opens_string Tryz.underlying9 H enc W n _ _ h1
      obtain ⟨vl, e2, b2⟩ := opens_string Tryz.underlying9 H enc W n _ _ h2
      simp at e0 e1 e2
      subst e0 e1 e2
      rcases Deep.open_slice Tryz.underlying50 h3 with ⟨e3, rfl⟩ | ⟨a, len, cap, m, n', D, Pl, e3, _, hlc, _, hm, rfl, hx⟩
      · simp at e3
        subst e3
        refine ⟨.mk k nm vl [], CdIn.leaf _ W k nm vl, ?_, ?_⟩
        · simp only [cnt_leaf, Rows.uptoBulk, Rows.uptoBulkAll]; omega
        · refine .mk _ _ _ _ ?_ ?_ (fun _ h => by cases h)
          all_goals (simp only [Rows.uptoBulk, Rows.uptoBulkAll] at b0 b1 b2 ⊢; omega)
      · have e3 : c3 = .slice (some a) len cap := by simpa using e3
        subst e3
        have hlm : len ≤ m := by rw [hm]; split <;> omega
        simp only [Rows.uptoBulk, Rows.uptoBulkAll] at hb
        have each : ∀ i, i < len → ∃ c : Cd, (cnt c ≤ Rows.uptoBulk (D i) ∧ StrC (Rows.uptoBulk (D i)) c) ∧ ∃ ecs : List Value, CdIn (fun _ => True) W c (.agg ecs.toArray) ∧ W.cells? 0 (a.add (i * 4)) 4 = some ecs := fun i hi => by
          obtain ⟨cs', g1, g2⟩ := hx i (by omega)
          have hbi := bulk_mem (D := D) hi
          obtain ⟨c, g3, g4, g5⟩ := ih n' cs' _ g2 (by dsimp only; omega)
          rw [hc] at g1
          exact ⟨c, ⟨g4, g5⟩, cs', g3, g1⟩
        obtain ⟨F, hF⟩ := Deep.choose_lt each
        have hrow : 0 < len → ∃ b off, a = ⟨b, off, none⟩ := fun hp => by
          obtain ⟨_, ecs0, _, hc0⟩ := hF 0 hp
          obtain ⟨_, hl0, hcell0⟩ := World.cells?_some hc0
          obtain ⟨b, off, spot⟩ := a
          have g0 := hcell0 0 (by decide)
          have hv : ecs0[0]? = some ecs0[0] := List.getElem?_eq_getElem (by omega)
          rw [hv] at g0
          have hspot : spot = none := by
            have := World.cell?_spot g0
            simpa [Addr.add] using this
          exact ⟨b, off, by rw [hspot]⟩
        obtain ⟨b, off, hab⟩ : ∃ b off, 0 < len → a = ⟨b, off, none⟩ := by
          rcases Nat.eq_zero_or_pos len with e | e
          · exact ⟨0, 0, fun h => by omega⟩
          · obtain ⟨b, off, h⟩ := hrow e; exact ⟨b, off, fun _ => h⟩
        have hcell : ∀ i, i < len → ∃ e0 e1 e2 e3 : Value, CdIn (fun _ => True) W (F i) (.agg #[e0, e1, e2, e3]) ∧ W.cell? ⟨b, off + i * 4, none⟩ = some e0 ∧ W.cell? ⟨b, off + i * 4 + 1, none⟩ = some e1 ∧ W.cell? ⟨b, off + i * 4 + 2, none⟩ = some e2 ∧ W.cell? ⟨b, off + i * 4 + 3, none⟩ = some e3 := fun i hi => by
          obtain ⟨_, ecs, hR, hcs⟩ := hF i hi
          rw [hab (by omega)] at hcs
          obtain ⟨_, hl1, hcl⟩ := World.cells?_some hcs
          have g : ∀ j, j < 4 → W.cell? ⟨b, off + i * 4 + j, none⟩ = ecs[j]? := fun j hj => by
            have := hcl j hj
            rwa [Deep.add_add, add_plain, ← Nat.add_assoc] at this
          match ecs, hl1, hR, g with
          | [e0, e1, e2, e3], _, hR, g => exact ⟨e0, e1, e2, e3, hR, g 0 (by decide), g 1 (by decide), g 2 (by decide), g 3 (by decide)⟩
        have hlen : ((List.range len).map F).length = len := by simp
        have u : ∀ i, i < len → ∀ j, j < 4 → W.cell? ⟨b, off + i * 4 + j, none⟩ = some ((W.cell? ⟨b, off + i * 4 + j, none⟩).getD z0) := fun i hi j hj => by
          obtain ⟨e0, e1, e2, e3, _, k0, k1, k2, k3⟩ := hcell i hi
          rcases (show j = 0 ∨ j = 1 ∨ j = 2 ∨ j = 3 by omega) with rfl | rfl | rfl | rfl
          · rw [show off + i * 4 + 0 = off + i * 4 from rfl, k0]; rfl
          · rw [k1]; rfl
          · rw [k2]; rfl
          · rw [k3]; rfl
        refine ⟨.mk k nm vl ((List.range len).map F), ?_, ?_, ?_⟩
        · have := CdIn.mk (P := fun _ => True) (w := W) k nm vl ((List.range len).map F) (some a) cap b off (fun i => (W.cell? ⟨b, off + i * 4 + 0, none⟩).getD z0) (fun i => (W.cell? ⟨b, off + i * 4 + 1, none⟩).getD z0) (fun i => (W.cell? ⟨b, off + i * 4 + 2, none⟩).getD z0) (fun i => (W.cell? ⟨b, off + i * 4 + 3, none⟩).getD z0)
            (fun h => by rw [hab (by simpa using h)]) (fun _ => trivial) (fun j hj => u j (by simpa using hj) 0 (by decide)) (fun j hj => u j (by simpa using hj) 1 (by decide)) (fun j hj => u j (by simpa using hj) 2 (by decide)) (fun j hj => u j (by simpa using hj) 3 (by decide))
            (fun j hj => by
              obtain ⟨e0, e1, e2, e3, hR, k0, k1, k2, k3⟩ := hcell j (by simpa using hj)
              rw [show off + j * 4 + 0 = off + j * 4 from rfl, k0, k1, k2, k3]
              simpa using hR)
          rwa [hlen] at this
        · have := bulkAll_le (H := H) (n := len) (D := D) (bk := fun i => cnt (F i)) fun i hi => (hF i hi).1.1
          have hs : ∀ l : List Nat, cnts (l.map F) = (l.map fun i => cnt (F i)).sum := fun l => by
            induction l with
            | nil => rfl
            | cons a l ih => simp only [List.map_cons, cnts, List.sum_cons, ih]
          rw [cnt_mk, hs]
          simp only [Rows.uptoBulk, Rows.uptoBulkAll]
          omega
        · refine .mk _ _ _ _ ?_ ?_ (fun c hc => ?_)
          · simp only [Rows.uptoBulk, Rows.uptoBulkAll] at b0 b1 b2 ⊢; omega
          · simp only [Rows.uptoBulk, Rows.uptoBulkAll] at b0 b1 b2 ⊢; omega
          · obtain ⟨i, hi, rfl⟩ := List.mem_map.1 hc
            have hi := List.mem_range.1 hi
            refine StrC.le ?_ (hF i hi).1.2
            have := bulk_mem (D := D) hi
            simp only [Rows.uptoBulk, Rows.uptoBulkAll]
            omega
end Go.Proofs.YtmnafaaijglnfaaGreatDoor

namespace Go.Proofs.YtmnafaaijglnfaaGreatDoor
open Go.RowKit

/-- the share of all machines at a time -/
def shareL (o : Of) (t : Int) : Int := if t < o.bg ∨ o.hold = true then 0 else if o.urg = true then 1000 else min 1000 (o.st + o.gr * ((t - o.bg) / 3600))
def timeErr (t : Int) : Int := if inI t 0 1099511627776 = true then 0 else 3
def timedErr (o : Of) (t : Int) : Int := firstI [ofErr o, timeErr t]
theorem inI_iff {n lo hi : Int} : inI n lo hi = true ↔ lo ≤ n ∧ n ≤ hi := by simp [inI]
theorem of_bounds {o : Of} (h : ofErr o = 0) : (0 ≤ o.bg ∧ o.bg ≤ 1099511627776) ∧ (0 ≤ o.st ∧ o.st ≤ 1000) ∧ (0 ≤ o.gr ∧ o.gr ≤ 1000) := by
  obtain ⟨_, _, _, _, _, h6⟩ := ofErr_parts h
  simp only [Bool.and_eq_true, inI_iff] at h6
  exact ⟨h6.1.1, h6.1.2, h6.2⟩
theorem share_early {o : Of} {t : Int} (h : t < o.bg) : shareL o t = 0 := by rw [shareL, if_pos (.inl h)]
theorem share_hold {o : Of} {t : Int} (h : o.hold = true) : shareL o t = 0 := by rw [shareL, if_pos (.inr h)]
theorem share_urg {o : Of} {t : Int} (h : ¬ t < o.bg) (h1 : o.hold = false) (h2 : o.urg = true) : shareL o t = 1000 := by rw [shareL, if_neg (by simp [h, h1]), if_pos h2]
theorem share_num {o : Of} {t : Int} (h : ¬ t < o.bg) (h1 : o.hold = false) (h2 : o.urg = false) : shareL o t = min 1000 (o.st + o.gr * ((t - o.bg) / 3600)) := by rw [shareL, if_neg (by simp [h, h1]), if_neg (by simp [h2])]
theorem mul_in {g q : Int} (h0 : 0 ≤ g) (h1 : g ≤ 1000) (q0 : 0 ≤ q) (q1 : q ≤ 1099511627776) : 0 ≤ g * q ∧ g * q ≤ 1099511627776000 := by
  constructor
  · exact Int.mul_nonneg h0 q0
  · have := Int.mul_le_mul h1 q1 q0 (by omega : (0 : Int) ≤ 1000)
    omega
set_option maxRecDepth 100000 in
set_option maxHeartbeats 4000000 in
theorem shareAt_any (o : Of) (A : Option Addr) (c : Nat) (k : Int) (n x : ByteArray) (A2 : Option Addr) (m c2 : Nat) (t : Int) (w : World) (ho : ofErr o = 0) (ht : 0 ≤ t ∧ t ≤ 1099511627776) :
    Calls Tryz.prog 117 #[ofV o A c k n x A2 m c2, .int .i64 t] w fun e w' => e = .returned (.int .i64 (shareL o t)) ∧ Ext w w' := by
  obtain ⟨⟨u0, u1⟩, ⟨s0, s1⟩, ⟨g0, g1⟩⟩ := of_bounds ho
  have HE := Lib.hid (fun h => share_early (o := o) (t := t) h)
  have HH := Lib.hid (fun h => share_hold (o := o) (t := t) h)
  have HU := Lib.hid (fun h h1 h2 => share_urg (o := o) (t := t) h h1 h2)
  have HN := Lib.hid (fun h h1 h2 => share_num (o := o) (t := t) h h1 h2)
  obtain ⟨t0, t1⟩ := ht
  generalize shareL o t = R at *
  clear ho
  obtain ⟨on, ⟨o1, o2, o3, oa⟩, os, of_, ow, od, ob, ot, og, oh, ou, ok⟩ := o
  dsimp only [ofV] at *
  generalize of_.length = ol at *
  have hx0 : Ext w (w.alloc (.cells #[.string on, .int .i64 o1, .int .i64 o2, .int .i64 o3, .string oa, .string os, .slice A ol c, .bool ow, .int .i64 k, .string n, .string x, .slice A2 m c2, .int .i64 ob, .int .i64 ot, .int .i64 og, .bool oh, .bool ou, .bool ok] 66)) := (Ext.refl w).alloc _
  by_cases hb : t < ob
  · have HR := Lib.hid (HE.out hb)
    go_enter Tryz.func117, Tryz.ntmps117
    go_wp2
    go_ret
    exact ⟨ret_int HR.out.symm, hx0⟩
  have hb' : ob ≤ t := by omega
  cases oh
  rotate_left
  · have HR := Lib.hid (HH.out rfl)
    go_enter Tryz.func117, Tryz.ntmps117
    go_wp2
    go_ret
    exact ⟨ret_int HR.out.symm, hx0⟩
  cases ou
  rotate_left
  · have HR := Lib.hid (HU.out hb rfl rfl)
    clear hb
    go_enter Tryz.func117, Tryz.ntmps117
    go_wp2
    go_ret
    exact ⟨ret_int HR.out.symm, hx0⟩
  · have HR := Lib.hid (HN.out hb rfl rfl)
    obtain ⟨q, hq⟩ : ∃ q, q = (t - ob) / 3600 := ⟨_, rfl⟩
    have hqq : (t - ob) / 3600 = q := hq.symm
    rw [← hq] at HR
    have q0 : 0 ≤ q := by omega
    have q9 : q ≤ 1099511627776 := by omega
    obtain ⟨p0, p9⟩ := mul_in g0 g1 q0 q9
    obtain ⟨p, hp⟩ : ∃ p, p = og * q := ⟨_, rfl⟩
    have hpp : og * q = p := hp.symm
    rw [← hp] at HR p0 p9
    clear hb hq hp
    go_enter Tryz.func117, Tryz.ntmps117
    go_wp2
    go_ret
    exact ⟨ret_int (by have := HR.out; omega), hx0⟩
set_option maxRecDepth 100000 in
set_option maxHeartbeats 4000000 in
theorem ShareOf_any (o : Of) (A : Option Addr) (c : Nat) (k : Int) (n x : ByteArray) (A2 : Option Addr) (m c2 : Nat) (t : Int) (w : World) (ho : ofErr o = 0) (ht : 0 ≤ t ∧ t ≤ 1099511627776) :
    Calls Tryz.prog 52 #[ofV o A c k n x A2 m c2, .int .i64 t] w fun e w' => e = .returned (.int .i64 (shareL o t)) ∧ Ext w w' := by
  obtain ⟨⟨u0, u1⟩, ⟨s0, s1⟩, ⟨g0, g1⟩⟩ := of_bounds ho
  have HE := Lib.hid (fun h => share_early (o := o) (t := t) h)
  have HH := Lib.hid (fun h => share_hold (o := o) (t := t) h)
  have HU := Lib.hid (fun h h1 h2 => share_urg (o := o) (t := t) h h1 h2)
  have HN := Lib.hid (fun h h1 h2 => share_num (o := o) (t := t) h h1 h2)
  obtain ⟨t0, t1⟩ := ht
  generalize shareL o t = R at *
  clear ho
  obtain ⟨on, ⟨o1, o2, o3, oa⟩, os, of_, ow, od, ob, ot, og, oh, ou, ok⟩ := o
  dsimp only [ofV] at *
  generalize of_.length = ol at *
  have hx0 : Ext w (w.alloc (.cells #[.string on, .int .i64 o1, .int .i64 o2, .int .i64 o3, .string oa, .string os, .slice A ol c, .bool ow, .int .i64 k, .string n, .string x, .slice A2 m c2, .int .i64 ob, .int .i64 ot, .int .i64 og, .bool oh, .bool ou, .bool ok] 66)) := (Ext.refl w).alloc _
  by_cases hb : t < ob
  · have HR := Lib.hid (HE.out hb)
    go_enter Tryz.func52, Tryz.ntmps52
    go_wp2
    go_ret
    exact ⟨ret_int HR.out.symm, hx0⟩
  have hb' : ob ≤ t := by omega
  cases oh
  rotate_left
  · have HR := Lib.hid (HH.out rfl)
    go_enter Tryz.func52, Tryz.ntmps52
    go_wp2
    go_ret
    exact ⟨ret_int HR.out.symm, hx0⟩
  cases ou
  rotate_left
  · have HR := Lib.hid (HU.out hb rfl rfl)
    clear hb
    go_enter Tryz.func52, Tryz.ntmps52
    go_wp2
    go_ret
    exact ⟨ret_int HR.out.symm, hx0⟩
  · have HR := Lib.hid (HN.out hb rfl rfl)
    obtain ⟨q, hq⟩ : ∃ q, q = (t - ob) / 3600 := ⟨_, rfl⟩
    have hqq : (t - ob) / 3600 = q := hq.symm
    rw [← hq] at HR
    have q0 : 0 ≤ q := by omega
    have q9 : q ≤ 1099511627776 := by omega
    obtain ⟨p0, p9⟩ := mul_in g0 g1 q0 q9
    obtain ⟨p, hp⟩ : ∃ p, p = og * q := ⟨_, rfl⟩
    have hpp : og * q = p := hp.symm
    rw [← hp] at HR p0 p9
    clear hb hq hp
    go_enter Tryz.func52, Tryz.ntmps52
    go_wp2
    go_ret
    exact ⟨ret_int (by have := HR.out; omega), hx0⟩
end Go.Proofs.YtmnafaaijglnfaaGreatDoor

namespace Go.Proofs.YtmnafaaijglnfaaGreatDoor
open Go.RowKit

def whenT (o : Of) (P : Int) : Int := o.bg + 3600 * ((P + 1 - o.st + o.gr - 1) / o.gr)
def whenL (o : Of) (P : Int) : Int × Bool := if o.hold = true then (0, false) else if o.urg = true ∨ P + 1 - o.st ≤ 0 then (o.bg, true) else if o.gr = 0 then (0, false) else if 1099511627776 < whenT o P then (0, false) else (whenT o P, true)
/-- within the share at the j-th hour -/
def InJ (o : Of) (P : Int) (j : Nat) : Prop := P < shareL o (o.bg + 3600 * (j : Int))
theorem share_hour (o : Of) (j : Nat) : shareL o (o.bg + 3600 * (j : Int)) = if o.hold = true then 0 else if o.urg = true then 1000 else min 1000 (o.st + o.gr * j) := by
  unfold shareL
  have e : (o.bg + 3600 * (j : Int) - o.bg) / 3600 = j := by omega
  rw [e]
  by_cases h : o.hold = true
  · rw [if_pos (.inr h), if_pos h]
  · rw [if_neg (by rintro (h1 | h1); omega; exact h h1), if_neg h]
section
variable {o : Of} {P : Int} {h : Nat}
theorem inJ_num (hP : P < 1000) (h1 : ¬ o.hold = true) (h2 : ¬ o.urg = true) (j : Nat) : InJ o P j ↔ P + 1 - o.st ≤ o.gr * j := by
  unfold InJ
  rw [share_hour, if_neg h1, if_neg h2]
  omega
theorem inJ_urg (hP : P < 1000) (h1 : ¬ o.hold = true) (h2 : o.urg = true) (j : Nat) : InJ o P j := by
  unfold InJ
  rw [share_hour, if_neg h1, if_pos h2]
  exact hP
theorem quo_lo {a g : Int} (hg : 0 < g) : a ≤ g * ((a + g - 1) / g) := by
  have h1 := Int.lt_ediv_add_one_mul_self (a + g - 1) hg
  rw [Int.add_mul, Int.one_mul, Int.mul_comm] at h1
  omega
theorem quo_hi {a g : Int} (hg : 0 < g) (j : Int) (hj : a ≤ g * j) : (a + g - 1) / g ≤ j := by
  have h1 : (a + g - 1) / g < j + 1 := by
    apply Int.ediv_lt_of_lt_mul hg
    rw [Int.add_mul, Int.one_mul, Int.mul_comm]
    omega
  omega
theorem quo_pos {a g : Int} (hg : 0 < g) (ha : 0 < a) : 0 ≤ (a + g - 1) / g := Int.ediv_nonneg (by omega) (by omega)
theorem lt_or_leI (a b : Int) : a < b ∨ b ≤ a := by omega
/-- the first hour -/
theorem first_hour (hP : P < 1000) (h1 : ¬ o.hold = true) (h2 : ¬ (o.urg = true ∨ P + 1 - o.st ≤ 0)) (hg : 0 < o.gr) (hno : ∀ j, j < h → ¬ InJ o P j) : (h : Int) ≤ (P + 1 - o.st + o.gr - 1) / o.gr := by
  have hu : ¬ o.urg = true := fun e => h2 (.inl e)
  have hl : 0 < P + 1 - o.st := by
    rcases lt_or_leI 0 (P + 1 - o.st) with e | e
    · exact e
    · exact absurd (.inr e) h2
  rcases lt_or_leI ((P + 1 - o.st + o.gr - 1) / o.gr) h with e | e
  · exfalso
    have hp := quo_pos hg hl
    obtain ⟨J, hJ⟩ := Int.eq_ofNat_of_zero_le hp
    refine hno J (by omega) ((inJ_num hP h1 hu J).2 ?_)
    have := quo_lo (a := P + 1 - o.st) hg
    rw [hJ] at this
    exact this
  · exact e
theorem when_hold (h1 : o.hold = true) : whenL o P = (0, false) := by rw [whenL, if_pos h1]
theorem when_hit (hP : P < 1000) (hs : 0 ≤ o.gr) (hh : InJ o P h) (hno : ∀ j, j < h → ¬ InJ o P j) (h1 : ¬ o.hold = true) (ht : o.bg + 3600 * (h : Int) ≤ 1099511627776) : whenL o P = (o.bg + 3600 * (h : Int), true) := by
  rw [whenL, if_neg h1]
  by_cases hu : o.urg = true ∨ P + 1 - o.st ≤ 0
  · rw [if_pos hu]
    have h0 : h = 0 := by
      rcases Nat.eq_zero_or_pos h with e | e
      · exact e
      · exfalso
        refine hno 0 e ?_
        by_cases h2 : o.urg = true
        · exact inJ_urg hP h1 h2 0
        · exact (inJ_num hP h1 h2 0).2 (by rcases hu with e | e; exact absurd e h2; simpa using e)
    subst h0
    simp
  · rw [if_neg hu]
    have h2 : ¬ o.urg = true := fun e => hu (.inl e)
    have hn := (inJ_num hP h1 h2 h).1 hh
    have hg : 0 < o.gr := by
      rcases lt_or_leI 0 o.gr with e | e
      · exact e
      · have e0 : o.gr = 0 := by omega
        rw [e0, Int.zero_mul] at hn
        exact absurd (.inr hn) hu
    have e1 := first_hour hP h1 hu hg hno
    have e2 := quo_hi hg (h : Int) hn
    have e3 : (P + 1 - o.st + o.gr - 1) / o.gr = h := by omega
    unfold whenT
    rw [if_neg (by omega), e3, if_neg (by omega)]
theorem when_break (hP : P < 1000) (hs : 0 ≤ o.gr) (hb : o.bg ≤ 1099511627776) (hno : ∀ j, j < h → ¬ InJ o P j) (ht : 1099511627776 < o.bg + 3600 * (h : Int)) : whenL o P = (0, false) := by
  rw [whenL]
  by_cases h1 : o.hold = true
  · rw [if_pos h1]
  rw [if_neg h1]
  by_cases hu : o.urg = true ∨ P + 1 - o.st ≤ 0
  · exfalso
    have h0 : 0 < h := by
      rcases Nat.eq_zero_or_pos h with e | e
      · subst e; simp at ht; omega
      · exact e
    refine hno 0 h0 ?_
    by_cases h2 : o.urg = true
    · exact inJ_urg hP h1 h2 0
    · exact (inJ_num hP h1 h2 0).2 (by rcases hu with e | e; exact absurd e h2; simpa using e)
  rw [if_neg hu]
  by_cases hg : o.gr = 0
  · rw [if_pos hg]
  rw [if_neg hg]
  have e1 := first_hour hP h1 hu (by omega) hno
  rw [if_pos (by unfold whenT; omega)]
theorem when_end (hP : P < 1000) (hst : 0 ≤ o.st) (hs : 0 ≤ o.gr) (hno : ∀ j, j < 1002 → ¬ InJ o P j) : whenL o P = (0, false) := by
  rw [whenL]
  by_cases h1 : o.hold = true
  · rw [if_pos h1]
  rw [if_neg h1]
  by_cases hu : o.urg = true ∨ P + 1 - o.st ≤ 0
  · exfalso
    refine hno 0 (by omega) ?_
    by_cases h2 : o.urg = true
    · exact inJ_urg hP h1 h2 0
    · exact (inJ_num hP h1 h2 0).2 (by rcases hu with e | e; exact absurd e h2; simpa using e)
  rw [if_neg hu]
  by_cases hg : o.gr = 0
  · rw [if_pos hg]
  exfalso
  have hg1 : 0 < o.gr := by omega
  have e1 := first_hour hP h1 hu hg1 hno
  have e2 := quo_hi (a := P + 1 - o.st) hg1 1000 (by
    have : 1 * 1000 ≤ o.gr * 1000 := Int.mul_le_mul_of_nonneg_right (by omega) (by omega)
    omega)
  omega
end
end Go.Proofs.YtmnafaaijglnfaaGreatDoor
