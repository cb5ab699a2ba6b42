/- The library's contracts in this claim's words: a world that has only grown, texts as lists of bytes. Contracts of ver.IsPath, isEarly, Check. Contracts of ver.text. Contracts of ver.Check, Print. -/
import Derived.Test.YtaobnifiengglaaGreatDoorCe01
import Derived.Test.YtaobnifiengglaaGreatDoorShelf

namespace Go.Proofs.YtaobnifiengglaaGreatDoor
open Go.RowKit

/-- A slice of strings that lies at the head of a block. -/
structure Strs (w : World) (b : Nat) (xs : List ByteArray) : Prop where
  lt : b < w.heap.size
  cell : ∀ k (h : k < xs.length), w.cell? ⟨b, k, none⟩ = some (.string xs[k])
theorem Strs.ext {w w' : World} {b : Nat} {xs : List ByteArray} (h : Strs w b xs) (hx : Ext w w') : Strs w' b xs := ⟨Nat.lt_of_lt_of_le h.lt hx.size, fun k hk => hx.cell (h.cell k hk)⟩

theorem split_any (c : UInt8) (s : ByteArray) (w : World) (hg : Good w) (hs : s.size ≤ 2097152) :
    Calls Tryz.prog 87 #[.string s, .string ⟨#[c]⟩] w fun e w' => ∃ (b : Nat) (xs : List ByteArray),
      e = .returned (.slice (some ⟨b, 0, none⟩) xs.length xs.length) ∧ w.heap.size ≤ b ∧ Strs w' b xs ∧ xs.map bs = splitC c (bs s) ∧ Ext w w' := by
  obtain ⟨m, hm⟩ := hg.maxLen
  refine (Tryz.strings_Split s ⟨#[c]⟩ m w (by omega) hm (Nat.le_refl _)).mono ?_
  rintro e w' ⟨rfl, rfl⟩
  have hlen : (Lib.splitB ⟨#[c]⟩ 0 (Lib.countB s ⟨#[c]⟩) s).length = Lib.countB s ⟨#[c]⟩ + 1 := by
    rw [splitC_length, splitC_count c _ _ (Nat.le_refl _)]
  refine ⟨w.heap.size, _, by rw [hlen], Nat.le_refl _, ⟨by simp, ?_⟩, splitB_one c s, (Ext.refl w).alloc _⟩
  intro k hk
  rw [World.cell?_alloc_at _ _ _ _ rfl]
  simp [hk]
theorem cut_any (c : UInt8) (s : ByteArray) (w : World) (hg : Good w) (hs : s.size ≤ 2097152) :
    Calls Tryz.prog 79 #[.string s, .string ⟨#[c]⟩] w fun e w' => e = .returned (.tuple #[S (cutC c (bs s)).1, S (cutC c (bs s)).2.1, .bool (cutC c (bs s)).2.2]) ∧ Ext w w' := by
  obtain ⟨m, hm⟩ := hg.maxLen
  refine (Tryz.strings_Cut s ⟨#[c]⟩ m w (by omega) hm).mono ?_
  rintro e w' ⟨rfl, n, rfl⟩
  exact ⟨by rw [show (⟨#[c]⟩ : ByteArray).data.toList = [c] from rfl, cut_one], (Ext.refl w).drewN n⟩
theorem cutC_size (c : UInt8) (l : Str) : (cutC c l).1.length ≤ l.length ∧ (cutC c l).2.1.length ≤ l.length := by
  rcases first_cut c l with h | ⟨a, r, ha, rfl⟩
  · rw [cutC_none c l h]; simp
  · rw [cutC_app c a r ha]; simp; omega
/-- strings.Cut, its parts named -/
theorem cut_ex (c : UInt8) (s : ByteArray) (w : World) (hg : Good w) (hs : s.size ≤ 2097152) :
    Calls Tryz.prog 79 #[.string s, .string ⟨#[c]⟩] w fun e w' => ∃ (a b : ByteArray) (f : Bool), e = .returned (.tuple #[.string a, .string b, .bool f]) ∧ cutC c (bs s) = (bs a, bs b, f) ∧ a.size ≤ s.size ∧ b.size ≤ s.size ∧ Ext w w' :=
  (cut_any c s w hg hs).mono fun _ _ ⟨h, k⟩ => by
    have h1 := cutC_size c (bs s)
    rw [bs_length] at h1
    exact ⟨_, _, _, h, by rw [bs_mk, bs_mk], by rw [← bs_length, bs_mk]; exact h1.1, by rw [← bs_length, bs_mk]; exact h1.2, k⟩
theorem contains_any (c : UInt8) (s : ByteArray) (w : World) (hg : Good w) (hs : s.size ≤ 2097152) :
    Calls Tryz.prog 81 #[.string s, .string ⟨#[c]⟩] w fun e w' => e = .returned (.bool ((bs s).contains c)) ∧ w = w' := by
  obtain ⟨m, hm⟩ := hg.maxLen
  refine (Tryz.strings_Contains s ⟨#[c]⟩ m w (by omega) hm).mono ?_
  rintro e w' ⟨rfl, rfl⟩
  refine ⟨ret_bool ?_, rfl⟩
  unfold Lib.contains
  rw [show (⟨#[c]⟩ : ByteArray).data.toList = [c] from rfl]
  rcases first_cut c (bs s) with h | ⟨a, r, ha, hr⟩
  · rw [index_none c _ h]; simp [h]
  · rw [show s.data.toList = a ++ c :: r from hr, index_app c a r ha]; simp [bs, hr]
theorem cutPrefix_any (s p : ByteArray) (w : World) :
    Calls Tryz.prog 112 #[.string s, .string p] w fun e w' => e = .returned (.tuple #[S (Lib.trimPrefix (bs s) (bs p)), .bool ((bs p).isPrefixOf (bs s))]) ∧ w = w' :=
  (Tryz.strings_CutPrefix s p w).mono fun _ _ ⟨h, k⟩ => ⟨h, k.symm⟩
theorem indexByte_any (s : ByteArray) (c : UInt8) (w : World) :
    Calls Tryz.prog 185 #[.string s, .int .u8 c.toNat] w fun e w' => e = .returned (.int .i64 (Lib.indexByte (bs s) c)) ∧ w = w' :=
  (Tryz.strings_IndexByte s c.toNat w).mono fun _ _ ⟨h, k⟩ => ⟨by rw [h, Lib.byte_back], k.symm⟩
theorem compare_any (a b : ByteArray) (w : World) :
    Calls Tryz.prog 103 #[.string a, .string b] w fun e w' => e = .returned (.int .i64 (Lib.compareBytes (bs a) (bs b))) ∧ w = w' :=
  (Tryz.strings_Compare a b w).mono fun _ _ ⟨h, k⟩ => ⟨h, k.symm⟩
theorem compareInt_any (a b : Int) (w : World) :
    Calls Tryz.prog 101 #[.int .i64 a, .int .i64 b] w fun e w' => e = .returned (.int .i64 (Lib.compareInt a b)) ∧ w = w' :=
  (Tryz.cmp_Compare_int a b w).mono fun _ _ ⟨h, k⟩ => ⟨h, k.symm⟩
theorem itoa_any (n : Int) (w : World) (hg : GoodN w) (h0 : -9223372036854775808 ≤ n) (h1 : n ≤ 9223372036854775807) :
    Calls Tryz.prog 99 #[.int .i64 n] w fun e w' => e = .returned (S (Lib.itoa n)) ∧ Ext w w' :=
  (Tryz.strconv_Itoa n h0 h1 w hg.pow10).mono fun _ _ ⟨h, k, os, hk⟩ => ⟨h, by rw [hk]; exact ((Ext.refl w).drewN k).grow os⟩
theorem atoi_any (s : ByteArray) (w : World) (hg : GoodN w) (hs : s.size ≤ 2097152) :
    Calls Tryz.prog 102 #[.string s] w fun e w' => ∃ (v : Int) (ev : Value), e = .returned (.tuple #[.int .i64 v, ev]) ∧ Ext w w' ∧
      (∀ u, Lib.atoiAll (bs s) = .ok u → v = u ∧ ev = .nilIface) ∧ (ev = .nilIface ∨ ∃ t p, ev = .iface t p) := by
  cases h : Lib.atoiAll s.data.toList
  · rename_i u
    refine (Tryz.strconv_Atoi_ok s (by omega) u h w).mono ?_
    rintro e w' ⟨rfl, hw⟩
    refine ⟨u, .nilIface, rfl, ?_, fun u' hu => ⟨by injection hu, rfl⟩, .inl rfl⟩
    rcases hw with rfl | ⟨t, rfl⟩
    · exact Ext.refl _
    · exact (Ext.refl _).bytesWorld _ _
  · obtain ⟨tp, p, hv⟩ := hg.errS
    refine (Any.strconv_Atoi_syntax_var Tryz.laysC172 s (by omega) h tp p w hv).mono ?_
    rintro e w' ⟨N, rfl, _, _, hb⟩
    exact ⟨_, _, rfl, hb, (fun u' hu => by cases hu), .inr ⟨_, _, rfl⟩⟩
  · obtain ⟨tp, p, hv⟩ := hg.errR
    refine (Tryz.strconv_Atoi_range_var s (by omega) h tp p w hv).mono ?_
    rintro e w' ⟨N, rfl, _, _, hb⟩
    exact ⟨_, _, rfl, hb, (fun u' hu => by cases hu), .inr ⟨_, _, rfl⟩⟩
theorem trim_any (s cs : ByteArray) (w : World) (hs : s.size ≤ 2097152) (hcs : cs.size ≤ 1000) (hascii : ∀ (j : Nat) b, cs.data.toList[j]? = some b → b.toNat < 128) :
    Calls Tryz.prog 170 #[.string s, .string cs] w fun e w' => e = .returned (S (Lib.trimS (bs s) (bs cs))) ∧ Ext w w' :=
  Any.strings_Trim_laid Tryz.laysT160 (by kernel_rfl) s cs w (by omega) (by omega) hascii
end Go.Proofs.YtaobnifiengglaaGreatDoor

namespace Go.Proofs.YtaobnifiengglaaGreatDoor
open Go.RowKit

/-! ### A predicate along a list of strings -/
theorem allS_succ (p : Str → Bool) (xs : List ByteArray) (k : Nat) (h : k < xs.length) (h1 : (xs.take k).all (fun x => p (bs x)) = true) (h2 : p (bs xs[k]) = true) : (xs.take (k + 1)).all (fun x => p (bs x)) = true := by
  rw [List.take_succ_eq_append_getElem h, List.all_append, h1]
  simp [h2]
theorem allS_false (p : Str → Bool) (xs : List ByteArray) (k : Nat) (h : k < xs.length) (h2 : p (bs xs[k]) = false) : (xs.map bs).all p = false := by
  rw [List.all_eq_false]
  exact ⟨bs xs[k], List.mem_map.2 ⟨xs[k], List.getElem_mem h, rfl⟩, by simp [h2]⟩
theorem allS_true (p : Str → Bool) (xs : List ByteArray) (h1 : (xs.take xs.length).all (fun x => p (bs x)) = true) : (xs.map bs).all p = true := by
  rw [List.take_length] at h1
  rw [List.all_map]; exact h1

/-- pieces of a text are no longer than it -/
theorem splitC_le (c : UInt8) : ∀ (l p : Str), p ∈ splitC c l → p.length ≤ l.length
  | [], p, h => by simp [splitC] at h; simp [h]
  | x :: r, p, h => by
    unfold splitC at h
    by_cases hx : x = c
    · rw [if_pos hx] at h
      rcases List.mem_cons.1 h with e | e
      · simp [e]
      · have := splitC_le c r p e; simp; omega
    · rw [if_neg hx] at h
      cases hs : splitC c r with
      | nil => exact absurd hs (splitC_ne c r)
      | cons q t =>
        rw [hs] at h
        rcases List.mem_cons.1 h with e | e
        · have := splitC_le c r q (by rw [hs]; simp)
          rw [e]; simp; omega
        · have := splitC_le c r p (by rw [hs]; simp [e]); simp; omega
theorem piece_le {c : UInt8} {s : ByteArray} {xs : List ByteArray} (h : xs.map bs = splitC c (bs s)) {k : Nat} (hk : k < xs.length) : xs[k].size ≤ s.size := by
  rw [← bs_length, ← bs_length]
  exact splitC_le c _ _ (by rw [← h]; exact List.mem_map.2 ⟨_, List.getElem_mem hk, rfl⟩)

theorem splitC_length_le (c : UInt8) : ∀ l : Str, (splitC c l).length ≤ l.length + 1
  | [] => by simp [splitC]
  | x :: r => by
    have := splitC_length_le c r
    unfold splitC
    split
    · simp; omega
    · split <;> simp_all; omega
theorem pieces_le {c : UInt8} {s : ByteArray} {xs : List ByteArray} (h : xs.map bs = splitC c (bs s)) : xs.length ≤ s.size + 1 := by
  have h1 := splitC_length_le c (bs s)
  rw [← h, List.length_map, bs_length] at h1
  exact h1

def pathL (l : Str) : Bool := (splitC 47 l).all partL && decide (l.length ≤ 200)
set_option maxHeartbeats 400000 in
theorem IsPath_any (s : ByteArray) (w : World) (hg : Good w) (hs : s.size ≤ 2097152) :
    Calls Tryz.prog 30 #[.string s] w fun e w' => e = .returned (.bool (pathL (bs s))) ∧ Ext w w' := by
  go_enter Tryz.func30, Tryz.ntmps30
  go_wp2_with fail
  refine (split_any 47 s _ hg hs).mono ?_
  rintro e w1 ⟨b, xs, rfl, hb0, hst, hxs, hx⟩
  have HXS := Lib.hid hxs
  have hcell := hst.cell
  have HC := Lib.hid hcell
  clear hcell
  have hlen := pieces_le hxs
  clear hxs
  go_wp2
  go_loop [8] (fun i => ∃ k : Nat, k ≤ xs.length ∧ i = .int .i64 k ∧ (xs.take k).all (fun x => partL (bs x)) = true) (fun i => xs.length - (intOf i).toNat)
  case atStart => exact ⟨0, Nat.zero_le _, rfl, by simp⟩
  case round =>
    obtain ⟨k, hk, rfl, hall⟩ := hrel
    have HALL := Lib.hid hall
    clear hall
    by_cases hlt : k < xs.length
    · have hk1 := HC.out k hlt
      have hsz := piece_le HXS.out hlt
      go_wp2_with fail
      refine (isPart_any xs[k] _ (by omega)).mono ?_
      rintro e w' ⟨rfl, rfl⟩
      cases hp : partL (bs xs[k])
      · go_wp2
        go_ret
        refine ⟨ret_bool ?_, hx⟩
        unfold pathL
        rw [← HXS.out, allS_false partL xs k hlt hp]
        rfl
      · go_wp2
        go_round
        case rel => exact ⟨k + 1, by omega, by go_num, allS_succ _ _ _ hlt HALL.out hp⟩
        case measure => simp [intOf]; omega
    · obtain rfl : k = xs.length := by omega
      go_wp2
      go_ret
      refine ⟨ret_bool ?_, hx⟩
      unfold pathL
      rw [← HXS.out, allS_true partL xs HALL.out, bs_length]
      simp
      omega

def earlyWordL (l : Str) : Bool := eachL wordB l 10 && !(numeralL l && (l.headD 0 == 48) && (l != [48]))
def earlyL (l : Str) : Bool := (splitC 46 l).all earlyWordL && decide (l.length ≤ 40)
theorem cast_beq (a : UInt8) (n : Nat) (h : n < 256) : (((a.toNat : Nat) : Int) == (n : Int)) = (a == UInt8.ofNat n) := by
  rw [Bool.eq_iff_iff, beq_iff_eq, beq_iff_eq]
  constructor
  · intro e
    apply UInt8.toNat_inj.1
    rw [UInt8.toNat_ofNat']
    omega
  · rintro rfl
    rw [UInt8.toNat_ofNat']
    omega
theorem ew_bad {x : ByteArray} {h0 : 0 < x.size} (hh : (bs x).headD 0 = x[0]) (hn : numeralL (bs x) = true) (h1 : (x[0].toNat : Int) = 48) (h2 : (!x.toList == [48]) = true) : earlyWordL (bs x) = false := by
  have h3 : x[0] = 48 := UInt8.toNat_inj.1 (by show x[0].toNat = 48; omega)
  rw [ByteArray.toList_eq] at h2
  have h4 : (bs x != [48]) = true := h2
  rw [earlyWordL, hh, h3, hn, h4]
  simp
theorem ew_good1 {x : ByteArray} (hp : eachL wordB (bs x) 10 = true) (h2 : (!x.toList == [48]) = false) : earlyWordL (bs x) = true := by
  rw [ByteArray.toList_eq] at h2
  have h4 : (bs x != [48]) = false := h2
  rw [earlyWordL, hp, h4]
  simp
theorem ew_good2 {x : ByteArray} {h0 : 0 < x.size} (hp : eachL wordB (bs x) 10 = true) (hh : (bs x).headD 0 = x[0]) (h1 : ¬ (x[0].toNat : Int) = 48) : earlyWordL (bs x) = true := by
  have h3 : (x[0] == 48) = false := by
    rw [beq_eq_false_iff_ne]
    intro e
    rw [e] at h1
    exact h1 rfl
  rw [earlyWordL, hp, hh, h3]
  simp
set_option maxHeartbeats 1000000 in
theorem isEarly_any (s : ByteArray) (w : World) (hg : Good w) (hs : s.size ≤ 2097152) :
    Calls Tryz.prog 92 #[.string s] w fun e w' => e = .returned (.bool (earlyL (bs s))) ∧ Ext w w' := by
  go_enter Tryz.func92, Tryz.ntmps92
  go_wp2_with fail
  refine (split_any 46 s _ hg hs).mono ?_
  rintro e w1 ⟨b, xs, rfl, hb0, hst, hxs, hx⟩
  have HXS := Lib.hid hxs
  have hcell := hst.cell
  have HC := Lib.hid hcell
  clear hcell
  have hlen := pieces_le hxs
  clear hxs
  go_wp2
  go_loop [8] (fun i => ∃ k : Nat, k ≤ xs.length ∧ i = .int .i64 k ∧ (xs.take k).all (fun x => earlyWordL (bs x)) = true) (fun i => xs.length - (intOf i).toNat)
  case atStart => exact ⟨0, Nat.zero_le _, rfl, by simp⟩
  case round =>
    obtain ⟨k, hk, rfl, hall⟩ := hrel
    have HALL := Lib.hid hall
    clear hall
    by_cases hlt : k < xs.length
    · have hk1 := HC.out k hlt
      have hsz := piece_le HXS.out hlt
      have hne : earlyWordL (bs xs[k]) = false → (xs.map bs).all earlyWordL = false := allS_false earlyWordL xs k hlt
      have HNE := Lib.hid hne
      clear hne
      have hsu := allS_succ earlyWordL xs k hlt HALL.out
      have HSU := Lib.hid hsu
      clear hsu
      generalize xs[k] = x at *
      go_wp2_with fail
      refine (each_list _ _ x 10 _ (by omega) isEarly1_pred).mono ?_
      rintro e w' ⟨rfl, rfl⟩
      cases hp : eachL wordB (bs x) 10
      · go_wp2
        go_ret
        refine ⟨ret_bool ?_, hx⟩
        unfold earlyL
        rw [← HXS.out, HNE.out (by rw [earlyWordL, hp]; rfl)]
        rfl
      · have h0 := eachL_pos hp
        have hh := head_bs x h0
        have HH := Lib.hid hh
        clear hh
        go_wp2_with fail
        refine (isNumeral_any x _ (by omega)).mono ?_
        rintro e w' ⟨rfl, rfl⟩
        cases hn : numeralL (bs x)
        · go_wp2
          go_round
          case rel => exact ⟨k + 1, by omega, by go_num, HSU.out (by rw [earlyWordL, hp, hn]; rfl)⟩
          case measure => simp [intOf]; omega
        · go_wp2
          · go_ret
            refine ⟨ret_bool ?_, hx⟩
            unfold earlyL
            rw [← HXS.out, HNE.out (ew_bad HH.out hn (by assumption) (by assumption))]
            rfl
          · go_round
            case rel => exact ⟨k + 1, by omega, by go_num, HSU.out (ew_good1 hp (by assumption))⟩
            case measure => simp [intOf]; omega
          · go_round
            case rel => exact ⟨k + 1, by omega, by go_num, HSU.out (ew_good2 hp HH.out (by assumption))⟩
            case measure => simp [intOf]; omega
    · obtain rfl : k = xs.length := by omega
      go_wp2
      go_ret
      refine ⟨ret_bool ?_, hx⟩
      unfold earlyL
      rw [← HXS.out, allS_true earlyWordL xs HALL.out, bs_length]
      simp
      omega
end Go.Proofs.YtaobnifiengglaaGreatDoor

namespace Go.Proofs.YtaobnifiengglaaGreatDoor
open Go.RowKit

def inNum (n : Int) : Bool := decide (0 ≤ n ∧ n ≤ 999999)
def textL (ma mi pa : Int) (e : Str) : Str := Lib.itoa ma ++ [46] ++ Lib.itoa mi ++ [46] ++ Lib.itoa pa ++ (if e = [] then [] else 45 :: e)
set_option maxHeartbeats 1000000 in
theorem text_any (ma mi pa : Int) (ea : ByteArray) (w : World) (hg : GoodN w) (hs : ea.size ≤ 2097152) (h1 : 0 ≤ ma) (h2 : ma ≤ 999999) (h3 : 0 ≤ mi) (h4 : mi ≤ 999999) (h5 : 0 ≤ pa) (h6 : pa ≤ 999999) :
    Calls Tryz.prog 89 #[.agg #[.int .i64 ma, .int .i64 mi, .int .i64 pa, .string ea]] w fun e w' => e = .returned (S (textL ma mi pa (bs ea))) ∧ Ext w w' := by
  have la := Lib.itoa_length_le ma (by omega) (by omega)
  have li := Lib.itoa_length_le mi (by omega) (by omega)
  have lp := Lib.itoa_length_le pa (by omega) (by omega)
  go_enter Tryz.func89, Tryz.ntmps89
  go_wp2_with fail
  refine wp_region_ext (by kernel_rfl) (by kernel_rfl) ?_
  repeat (first | go_big_quiet_skip | (refine wpQuiet_step (fun K hK => ?_); go_simp; first | (refine hK _ ?_; clear hK K) | (apply Exists.intro; refine ⟨fun wq hwq => ?_, hK _ ?_⟩; (obtain ⟨hqc, hqf⟩ := hwq.cells; have hqs := hwq.size; (try go_simp); first | rfl | ((first | rw [if_neg (by omega)] | rw [if_pos (by omega)]); (try go_simp); rfl) | ((go_at_call 99; refine (itoa_any _ _ (hg.ext (Ext.trans (by repeat (first | with_reducible exact Ext.refl _ | with_reducible assumption | with_reducible apply Ext.drewN | with_reducible apply Ext.drew | with_reducible apply Ext.alloc | exact Ext.refl _ | assumption | apply Ext.drewN | apply Ext.drew | apply Ext.alloc)) hwq)) (by omega) (by omega)).mono (fun e w'' h => ⟨h.1, hwq.trans h.2⟩)))); clear hK K)))
  refine wpQuiet_nil ?_
  intro wN hxN
  obtain ⟨hcN, hfN⟩ := hxN.cells
  have hsN := hxN.size
  rcases Nat.eq_zero_or_pos ea.size with h0 | h0
  · have he := emp_of_size h0
    go_wp2
    go_ret
    refine ⟨ret_strS ?_, Ext.trans (by repeat (first | with_reducible exact Ext.refl _ | with_reducible assumption | with_reducible apply Ext.drewN | with_reducible apply Ext.drew | with_reducible apply Ext.alloc | exact Ext.refl _ | assumption | apply Ext.drewN | apply Ext.drew | apply Ext.alloc)) hxN⟩
    simp [textL, bs_nil h0]
  · have he := nemp_of_size h0
    have hi := nemp_bool h0
    have he2 : ¬ bs ea = [] := fun e => by have := bs_length ea; rw [e] at this; simp at this; omega
    go_wp2
    go_ret
    refine ⟨ret_strS ?_, Ext.trans (by repeat (first | with_reducible exact Ext.refl _ | with_reducible assumption | with_reducible apply Ext.drewN | with_reducible apply Ext.drew | with_reducible apply Ext.alloc | exact Ext.refl _ | assumption | apply Ext.drewN | apply Ext.drew | apply Ext.alloc)) hxN⟩
    simp [textL, he2]
end Go.Proofs.YtaobnifiengglaaGreatDoor

namespace Go.Proofs.YtaobnifiengglaaGreatDoor
open Go.RowKit

theorem outside_num (n : Int) (w : World) :
    Calls Tryz.prog 91 #[.int .i64 n, .int .i64 0, .int .i64 999999] w fun e w' => e = .returned (.bool (!inNum n)) ∧ w = w' :=
  (outside_any n 0 999999 w).mono fun _ _ ⟨h, k⟩ => ⟨by
    rw [h]
    refine ret_bool ?_
    unfold inNum
    rw [← decide_not, decide_eq_decide]
    omega, k⟩
/-- The error of a version: 3 ErrRange, 2 ErrForm, 0 none. -/
def checkV (ma mi pa : Int) (e : Str) : Int := if (inNum ma && inNum mi && inNum pa) = false then 3 else if (!e.isEmpty && !earlyL e) = true then 2 else 0
set_option maxHeartbeats 1000000 in
theorem Check_any (ma mi pa : Int) (ea : ByteArray) (w : World) (hg : Good w) (hs : ea.size ≤ 2097152) :
    Calls Tryz.prog 27 #[.agg #[.int .i64 ma, .int .i64 mi, .int .i64 pa, .string ea]] w fun e w' => e = .returned (.int .i64 (checkV ma mi pa (bs ea))) ∧ Ext w w' := by
  have i0 : ∀ w, (Instr.index 131 (.agg #[.int .i64 ma, .int .i64 mi, .int .i64 pa]) (.int .i64 0)).run Tryz.prog w = .ok (.int .i64 ma) w := fun _ => by kernel_rfl
  have i1 : ∀ w, (Instr.index 131 (.agg #[.int .i64 ma, .int .i64 mi, .int .i64 pa]) (.int .i64 1)).run Tryz.prog w = .ok (.int .i64 mi) w := fun _ => by kernel_rfl
  have i2 : ∀ w, (Instr.index 131 (.agg #[.int .i64 ma, .int .i64 mi, .int .i64 pa]) (.int .i64 2)).run Tryz.prog w = .ok (.int .i64 pa) w := fun _ => by kernel_rfl
  go_enter Tryz.func27, Tryz.ntmps27
  go_wp2
  go_loop [12] (fun i => (i = .int .i64 0 ∨ (i = .int .i64 1 ∧ inNum ma = true) ∨ (i = .int .i64 2 ∧ inNum ma = true ∧ inNum mi = true) ∨ (i = .int .i64 3 ∧ inNum ma = true ∧ inNum mi = true ∧ inNum pa = true))) (fun i => 3 - (intOf i).toNat)
  case atStart => exact .inl rfl
  case round =>
    rcases hrel with rfl | ⟨rfl, h1⟩ | ⟨rfl, h1, h2⟩ | ⟨rfl, h1, h2, h3⟩
    · go_wp2_with fail
      refine (outside_num _ _).mono ?_
      rintro e w' ⟨rfl, rfl⟩
      cases h1 : inNum ma
      · go_wp2
        go_ret
        exact ⟨ret_int (by rw [checkV, h1]; rfl), (by repeat (first | with_reducible exact Ext.refl _ | with_reducible assumption | with_reducible apply Ext.drewN | with_reducible apply Ext.drew | with_reducible apply Ext.alloc | exact Ext.refl _ | assumption | apply Ext.drewN | apply Ext.drew | apply Ext.alloc))⟩
      · go_wp2
        go_round
        case rel => exact .inr (.inl ⟨rfl, h1⟩)
        case measure => decide
    · go_wp2_with fail
      refine (outside_num _ _).mono ?_
      rintro e w' ⟨rfl, rfl⟩
      cases h2 : inNum mi
      · go_wp2
        go_ret
        exact ⟨ret_int (by rw [checkV, h1, h2]; rfl), (by repeat (first | with_reducible exact Ext.refl _ | with_reducible assumption | with_reducible apply Ext.drewN | with_reducible apply Ext.drew | with_reducible apply Ext.alloc | exact Ext.refl _ | assumption | apply Ext.drewN | apply Ext.drew | apply Ext.alloc))⟩
      · go_wp2
        go_round
        case rel => exact .inr (.inr (.inl ⟨rfl, h1, h2⟩))
        case measure => decide
    · go_wp2_with fail
      refine (outside_num _ _).mono ?_
      rintro e w' ⟨rfl, rfl⟩
      cases h3 : inNum pa
      · go_wp2
        go_ret
        exact ⟨ret_int (by rw [checkV, h1, h2, h3]; rfl), (by repeat (first | with_reducible exact Ext.refl _ | with_reducible assumption | with_reducible apply Ext.drewN | with_reducible apply Ext.drew | with_reducible apply Ext.alloc | exact Ext.refl _ | assumption | apply Ext.drewN | apply Ext.drew | apply Ext.alloc))⟩
      · go_wp2
        go_round
        case rel => exact .inr (.inr (.inr ⟨rfl, h1, h2, h3⟩))
        case measure => decide
    · have H1 := Lib.hid h1
      have H2 := Lib.hid h2
      have H3 := Lib.hid h3
      clear h1 h2 h3
      rcases Nat.eq_zero_or_pos ea.size with h0 | h0
      · have he := emp_of_size h0
        have hi : ea.toList.isEmpty = true := by rw [he]; rfl
        go_wp2
        go_ret
        exact ⟨ret_int (by rw [checkV, H1.out, H2.out, H3.out, bs_nil h0]; rfl), (by repeat (first | with_reducible exact Ext.refl _ | with_reducible assumption | with_reducible apply Ext.drewN | with_reducible apply Ext.drew | with_reducible apply Ext.alloc | exact Ext.refl _ | assumption | apply Ext.drewN | apply Ext.drew | apply Ext.alloc))⟩
      · have he := nemp_of_size h0
        have hi := nemp_bool h0
        have hb : (bs ea).isEmpty = false := by rw [ByteArray.toList_eq] at hi; exact hi
        have HB := Lib.hid hb
        clear hb
        go_wp2_with fail
        refine (isEarly_any _ _ (hg.ext (by repeat (first | with_reducible exact Ext.refl _ | with_reducible assumption | with_reducible apply Ext.drewN | with_reducible apply Ext.drew | with_reducible apply Ext.alloc | exact Ext.refl _ | assumption | apply Ext.drewN | apply Ext.drew | apply Ext.alloc))) hs).mono ?_
        rintro e w1 ⟨rfl, hx1⟩
        cases h4 : earlyL (bs ea)
        · go_wp2
          go_ret
          exact ⟨ret_int (by rw [checkV, H1.out, H2.out, H3.out, HB.out, h4]; rfl), Ext.trans (by repeat (first | with_reducible exact Ext.refl _ | with_reducible assumption | with_reducible apply Ext.drewN | with_reducible apply Ext.drew | with_reducible apply Ext.alloc | exact Ext.refl _ | assumption | apply Ext.drewN | apply Ext.drew | apply Ext.alloc)) hx1⟩
        · go_wp2
          go_ret
          exact ⟨ret_int (by rw [checkV, H1.out, H2.out, H3.out, HB.out, h4]; rfl), Ext.trans (by repeat (first | with_reducible exact Ext.refl _ | with_reducible assumption | with_reducible apply Ext.drewN | with_reducible apply Ext.drew | with_reducible apply Ext.alloc | exact Ext.refl _ | assumption | apply Ext.drewN | apply Ext.drew | apply Ext.alloc)) hx1⟩
theorem checkV_ok {ma mi pa : Int} {e : Str} (h : checkV ma mi pa e = 0) : (0 ≤ ma ∧ ma ≤ 999999) ∧ (0 ≤ mi ∧ mi ≤ 999999) ∧ (0 ≤ pa ∧ pa ≤ 999999) ∧ (e = [] ∨ earlyL e = true) := by
  unfold checkV at h
  split at h
  · cases h
  · rename_i h1
    split at h
    · cases h
    · rename_i h2
      have h1' : (inNum ma && inNum mi && inNum pa) = true := by cases hX : (inNum ma && inNum mi && inNum pa) with | false => exact absurd hX h1 | true => rfl
      simp only [Bool.and_eq_true, inNum, decide_eq_true_eq] at h1'
      refine ⟨h1'.1.1, h1'.1.2, h1'.2, ?_⟩
      by_cases h3 : e = []
      · exact .inl h3
      · refine .inr ?_
        cases h4 : earlyL e
        · exact absurd (by rw [h4]; simpa using h3) h2
        · rfl
/-- ver.Print's text -/
def printV (ma mi pa : Int) (e : Str) : Str := if checkV ma mi pa e = 0 then textL ma mi pa e else []
set_option maxHeartbeats 1000000 in
theorem Print_any (ma mi pa : Int) (ea : ByteArray) (w : World) (hg : GoodN w) (hs : ea.size ≤ 2097152) :
    Calls Tryz.prog 22 #[.agg #[.int .i64 ma, .int .i64 mi, .int .i64 pa, .string ea]] w fun e w' => e = .returned (.tuple #[S (printV ma mi pa (bs ea)), .int .i64 (checkV ma mi pa (bs ea))]) ∧ Ext w w' := by
  go_enter Tryz.func22, Tryz.ntmps22
  go_wp2_with fail
  refine (Check_any ma mi pa ea _ (hg.toGood.ext (by repeat (first | with_reducible exact Ext.refl _ | with_reducible assumption | with_reducible apply Ext.drewN | with_reducible apply Ext.drew | with_reducible apply Ext.alloc | exact Ext.refl _ | assumption | apply Ext.drewN | apply Ext.drew | apply Ext.alloc))) hs).mono ?_
  rintro e w1 ⟨rfl, hx1⟩
  obtain ⟨hc1, hf1⟩ := hx1.cells
  have hz1 := hx1.size
  by_cases h0 : checkV ma mi pa (bs ea) = 0
  · obtain ⟨a1, a2, a3, a4⟩ := checkV_ok h0
    have H0 := Lib.hid h0
    rw [h0]
    clear h0
    go_wp2_with fail
    refine (text_any ma mi pa ea _ (hg.ext (Ext.trans (by repeat (first | with_reducible exact Ext.refl _ | with_reducible assumption | with_reducible apply Ext.drewN | with_reducible apply Ext.drew | with_reducible apply Ext.alloc | exact Ext.refl _ | assumption | apply Ext.drewN | apply Ext.drew | apply Ext.alloc)) hx1)) hs a1.1 a1.2 a2.1 a2.2 a3.1 a3.2).mono ?_
    rintro e w2 ⟨rfl, hx2⟩
    go_wp2
    go_ret2
    exact ⟨by rw [printV, if_pos H0.out, H0.out]; rfl, Ext.trans (Ext.trans (by repeat (first | with_reducible exact Ext.refl _ | with_reducible assumption | with_reducible apply Ext.drewN | with_reducible apply Ext.drew | with_reducible apply Ext.alloc | exact Ext.refl _ | assumption | apply Ext.drewN | apply Ext.drew | apply Ext.alloc)) hx1) hx2⟩
  · go_wp2
    go_ret2
    exact ⟨by rw [printV, if_neg h0]; rfl, Ext.trans (by repeat (first | with_reducible exact Ext.refl _ | with_reducible assumption | with_reducible apply Ext.drewN | with_reducible apply Ext.drew | with_reducible apply Ext.alloc | exact Ext.refl _ | assumption | apply Ext.drewN | apply Ext.drew | apply Ext.alloc)) hx1⟩
end Go.Proofs.YtaobnifiengglaaGreatDoor
