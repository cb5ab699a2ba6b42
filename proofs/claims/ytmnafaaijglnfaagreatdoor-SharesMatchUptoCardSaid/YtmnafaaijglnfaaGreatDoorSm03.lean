/- Contracts of feed.When and outref2.WhenOf. Contract of feed.Reached. Offers and texts among the arguments. (Printed by gen/openf.py.) What the rows list, with the table of math/bits. -/
import Derived.Test.YtmnafaaijglnfaaGreatDoorSm02
import Derived.Test.YtmnafaaijglnfaaGreatDoorSm01
import Derived.Test.YtmnafaaijglnfaaGreatDoorFr26
import Derived.Test.YtmnafaaijglnfaaGreatDoorFr02

namespace Go.Proofs.YtmnafaaijglnfaaGreatDoor
open Go.RowKit

def whErr (o : Of) (m : ByteArray) : Int := firstI [ofErr o, if nameL (bs m) = true then 0 else 5]
def whV (o : Of) (m : ByteArray) : Int × Bool := if whErr o m = 0 then whenL o (placeV m o.name o.vv) else (0, false)
theorem wh_bad {o : Of} {m : ByteArray} (h : ¬ ofErr o = 0) : whErr o m = ofErr o ∧ whV o m = (0, false) := by
  have e : whErr o m = ofErr o := by rw [whErr, firstI_two, if_neg h]
  exact ⟨e, by rw [whV, if_neg (by rw [e]; exact h)]⟩
theorem wh_name {o : Of} {m : ByteArray} (h : ofErr o = 0) (h2 : nameL (bs m) = false) : whErr o m = 5 ∧ whV o m = (0, false) := by
  have e : whErr o m = 5 := by rw [whErr, firstI_two, if_pos h, h2]; rfl
  exact ⟨e, by rw [whV, if_neg (by rw [e]; decide)]⟩
theorem wh_ok {o : Of} {m : ByteArray} (h : ofErr o = 0) (h2 : nameL (bs m) = true) : whErr o m = 0 ∧ whV o m = whenL o (placeV m o.name o.vv) := by
  have e : whErr o m = 0 := by rw [whErr, firstI_two, if_pos h, if_pos h2]
  exact ⟨e, by rw [whV, if_pos e]⟩
theorem quo_in {g a : Int} (h0 : 0 < g) (h1 : g ≤ 1000) (a0 : 0 < a) (a1 : a ≤ 1000) : 0 ≤ (a + g - 1) / g ∧ (a + g - 1) / g ≤ 1000 := by
  refine ⟨quo_pos h0 a0, quo_hi h0 1000 ?_⟩
  have : 1 * 1000 ≤ g * 1000 := Int.mul_le_mul_of_nonneg_right (by omega) (by omega)
  omega
set_option maxRecDepth 100000 in
set_option maxHeartbeats 8000000 in
theorem WhenF_any (o : Of) (A : Option Addr) (c : Nat) (k : Int) (n x : ByteArray) (A2 : Option Addr) (m c2 : Nat) (mm : ByteArray) (w : World) (hg : GoodN w) (hi : OfIn AnyB w o A k n x A2 m c2) (hs : SmallO o) (hm : mm.size ≤ 2097152) :
    Calls Tryz.prog 55 #[ofV o A c k n x A2 m c2, .string mm] w fun e w' => e = .returned (.tuple #[.int .i64 (whV o mm).1, .bool (whV o mm).2, .int .i64 (whErr o mm)]) ∧ Ext w w' := by
  have CF := Lib.hid (fun W (h : Ext w W) => offerFault_any o A c k n x A2 m c2 W (hg.ext h) (hi.ext h) hs)
  have CN := Lib.hid (fun W => IsName_any mm W hm)
  have CP := Lib.hid (fun h0 W (h : Ext w W) => place_any mm o.name o.vv W (hg.ext h) hm hs.name hs.vv (ofErr_parts (o := o) h0).2.1)
  have HB := Lib.hid (fun h => wh_bad (o := o) (m := mm) h)
  have HNM := Lib.hid (fun h h2 => wh_name (o := o) (m := mm) h h2)
  have HOK := Lib.hid (fun h h2 => wh_ok (o := o) (m := mm) h h2)
  have HBD := Lib.hid (fun h => of_bounds (o := o) h)
  have HPI := Lib.hid (placeV_in mm o.name o.vv)
  have HWL := Lib.hid (show ∀ P, whenL o P = if o.hold = true then (0, false) else if o.urg = true ∨ P + 1 - o.st ≤ 0 then (o.bg, true) else if o.gr = 0 then (0, false) else if 1099511627776 < o.bg + 3600 * ((P + 1 - o.st + o.gr - 1) / o.gr) then (0, false) else (o.bg + 3600 * ((P + 1 - o.st + o.gr - 1) / o.gr), true) from fun _ => rfl)
  generalize whErr o mm = RE at *
  generalize whV o mm = RV at *
  generalize ofErr o = E at *
  generalize nameL (bs mm) = Q at *
  generalize placeV mm o.name o.vv = P at *
  have HWV := Lib.hid (HWL.out P)
  generalize whenL o P = WL at *
  clear hg hi hs hm HWL
  obtain ⟨on, ⟨o1, o2, o3, oa⟩, os, of_, ow, od, ob, ot, og, oh, ou, ok⟩ := o
  dsimp only [ofV] at *
  generalize of_.length = ol at *
  have b0 := Blk.new w 66 #[.string on, .int .i64 o1, .int .i64 o2, .int .i64 o3, .string oa, .string os, .slice A ol c, .bool ow, .int .i64 k, .string n, .string x, .slice A2 m c2, .int .i64 ob, .int .i64 ot, .int .i64 og, .bool oh, .bool ou, .bool ok]
  have hx0 : Ext w (w.alloc (.cells #[.string on, .int .i64 o1, .int .i64 o2, .int .i64 o3, .string oa, .string os, .slice A ol c, .bool ow, .int .i64 k, .string n, .string x, .slice A2 m c2, .int .i64 ob, .int .i64 ot, .int .i64 og, .bool oh, .bool ou, .bool ok] 66)) := (Ext.refl w).alloc _
  have LB := load_blk b0 rfl
  have l0 := b0.lt
  go_enter Tryz.func55, Tryz.ntmps55
  go_wp2_with (first | refine wpList_load_at rfl _ _ rfl _ rfl _ LB ?_)
  refine (CF.out _ hx0).mono ?_
  rintro e w1 ⟨rfl, hx1⟩
  have hx01 := hx0.trans hx1
  clear LB l0
  by_cases h0 : E = 0
  rotate_left
  · obtain ⟨rfl, rfl⟩ := HB.out h0
    have hne : (RE != 0) = true := by rw [bne_iff_ne]; exact h0
    clear h0
    go_wp2
    go_ret3
    exact ⟨rfl, hx01⟩
  subst h0
  go_wp2_with fail
  refine (CN.out _).mono ?_
  rintro e w' ⟨rfl, rfl⟩
  cases Q
  · obtain ⟨rfl, rfl⟩ := HNM.out (by trivial) (by trivial)
    go_wp2
    go_ret3
    exact ⟨rfl, hx01⟩
  obtain ⟨rfl, rfl⟩ := HOK.out (by trivial) (by trivial)
  obtain ⟨⟨u0, u1⟩, ⟨s0, s1⟩, ⟨g0, g1⟩⟩ := HBD.out (by trivial)
  obtain ⟨p0, p1⟩ := HPI.out
  have b1 := b0.ext hx1
  have e1 := b1.cell
  have l1 := b1.lt
  have hw1 : IntKind.i64.wrap (P + 1) = P + 1 := by rw [IntKind.wrap_i64]; omega
  have hw2 : IntKind.i64.wrap (P + 1 - ot) = P + 1 - ot := by rw [IntKind.wrap_i64]; omega
  go_wp2
  refine wp_region_ext (by kernel_rfl) (by kernel_rfl) ?_
  repeat (first | go_big_quiet_skip | (refine wpQuiet_step (fun K hK => ?_); go_simp; first | (refine hK _ ?_; clear hK K) | (apply Exists.intro; refine ⟨fun wq hwq => ?_, hK _ ?_⟩; (obtain ⟨hqc, hqf⟩ := hwq.cells; have hqs := hwq.size; (try go_simp); first | rfl | ((first | rw [if_neg (by omega)] | rw [if_pos (by omega)]); (try go_simp); rfl) | (((go_at_call 113; exact (CP.out (by trivial) _ (hx01.trans hwq)).mono (fun e w'' h => ⟨h.1, hwq.trans h.2⟩))))); clear hK K)))
  refine wpQuiet_nil ?_
  intro wN hxN
  obtain ⟨hcN, hfN⟩ := hxN.cells
  have hsN := hxN.size
  have hxz := hx01.trans hxN
  have b2 := b1.ext hxN
  have e2 := b2.cell
  have l2 := b2.lt
  clear e1 hcN hfN
  cases oh
  rotate_left
  · obtain rfl : RV = (0, false) := by rw [HWV.out, if_pos rfl]
    go_wp2
    go_ret3
    exact ⟨rfl, hxz⟩
  have HW2 := Lib.hid (show RV = if ou = true ∨ P + 1 - ot ≤ 0 then (ob, true) else if og = 0 then (0, false) else if 1099511627776 < ob + 3600 * ((P + 1 - ot + og - 1) / og) then (0, false) else (ob + 3600 * ((P + 1 - ot + og - 1) / og), true) from by rw [HWV.out, if_neg (by decide)])
  by_cases hu : ou = true ∨ P + 1 - ot ≤ 0
  · obtain rfl : RV = (ob, true) := by rw [HW2.out, if_pos hu]
    cases ou
    · have hl : P + 1 - ot ≤ 0 := by simpa using hu
      clear hu
      go_wp2
      go_ret3
      exact ⟨rfl, hxz⟩
    · clear hu
      go_wp2
      go_ret3
      exact ⟨rfl, hxz⟩
  have HW3 := Lib.hid (show RV = if og = 0 then (0, false) else if 1099511627776 < ob + 3600 * ((P + 1 - ot + og - 1) / og) then (0, false) else (ob + 3600 * ((P + 1 - ot + og - 1) / og), true) from by rw [HW2.out, if_neg hu])
  obtain rfl : ou = false := by cases ou; rfl; exact absurd (.inl rfl) hu
  have hl : ¬ P + 1 - ot ≤ 0 := fun h => hu (.inr h)
  have hl' : 0 < P + 1 - ot := by omega
  clear hu HW2 HWV
  by_cases hog : og = 0
  · obtain rfl : RV = (0, false) := by rw [HW3.out, if_pos hog]
    subst hog
    go_wp2
    go_ret3
    exact ⟨rfl, hxz⟩
  have hg1 : 0 < og := by omega
  have hgz : (og == 0) = false := by rw [beq_eq_false_iff_ne]; exact hog
  obtain ⟨q0, q1⟩ := quo_in (a := P + 1 - ot) hg1 g1 hl' (by omega)
  have HW4 := Lib.hid (show RV = if 1099511627776 < ob + 3600 * ((P + 1 - ot + og - 1) / og) then (0, false) else (ob + 3600 * ((P + 1 - ot + og - 1) / og), true) from by rw [HW3.out, if_neg hog])
  obtain ⟨q, hq⟩ : ∃ q, (P + 1 - ot + og - 1) / og = q := ⟨_, rfl⟩
  rw [hq] at q0 q1 HW4
  have hgn : ¬ og = 0 := hog
  clear HW3 hog
  have hw3 : IntKind.i64.wrap (P + 1 - ot + og) = P + 1 - ot + og := by rw [IntKind.wrap_i64]; omega
  have hw4 : IntKind.i64.wrap (P + 1 - ot + og - 1) = P + 1 - ot + og - 1 := by rw [IntKind.wrap_i64]; omega
  have hw5 : IntKind.i64.wrap (3600 * q) = 3600 * q := by rw [IntKind.wrap_i64]; omega
  have hw6 : IntKind.i64.wrap (ob + 3600 * q) = ob + 3600 * q := by rw [IntKind.wrap_i64]; omega
  have hw7 : (P + 1 - ot + og - 1).tdiv og = q := by rw [Int.tdiv_eq_ediv_of_nonneg (by omega)]; exact hq
  have hw8 : IntKind.i64.wrap q = q := by rw [IntKind.wrap_i64]; omega
  go_wp2
  refine wp_region_ext (by kernel_rfl) (by kernel_rfl) ?_
  repeat (first | go_big_quiet_skip | (refine wpQuiet_step (fun K hK => ?_); go_simp; first | (refine hK _ ?_; clear hK K) | (apply Exists.intro; refine ⟨fun wq hwq => ?_, hK _ ?_⟩; (obtain ⟨hqc, hqf⟩ := hwq.cells; have hqs := hwq.size; (try go_simp); first | rfl | ((first | rw [if_neg (by omega)] | rw [if_pos (by omega)]); (try go_simp); rfl) | ((fail))); clear hK K)))
  refine wpQuiet_nil ?_
  intro wM hxM
  obtain ⟨hcM, hfM⟩ := hxM.cells
  have hsM := hxM.size
  have hxz2 := hxz.trans hxM
  by_cases hT : 1099511627776 < ob + 3600 * q
  · obtain rfl : RV = (0, false) := by rw [HW4.out, if_pos hT]
    go_wp2
    go_ret3
    exact ⟨rfl, hxz2⟩
  · obtain rfl : RV = (ob + 3600 * q, true) := by rw [HW4.out, if_neg hT]
    go_wp2
    go_ret3
    exact ⟨rfl, hxz2⟩
set_option maxRecDepth 100000 in
set_option maxHeartbeats 8000000 in
theorem WhenOf_any (o : Of) (A : Option Addr) (c : Nat) (k : Int) (n x : ByteArray) (A2 : Option Addr) (m c2 : Nat) (mm : ByteArray) (w : World) (hg : GoodS w) (ho : ofErr o = 0) (hs : SmallO o) (hm : mm.size ≤ 2097152) :
    Calls Tryz.prog 56 #[ofV o A c k n x A2 m c2, .string mm] w fun e w' => e = .returned (.tuple #[.int .i64 (whenL o (placeV mm o.name o.vv)).1, .bool (whenL o (placeV mm o.name o.vv)).2]) ∧ Ext w w' := by
  have CP := Lib.hid (fun W (h : Ext w W) => PlaceOf_any mm o.name o.vv W (hg.ext h) hm hs.name hs.vv (ofErr_parts ho).2.1)
  have CS := Lib.hid (fun t W (h0 : 0 ≤ t) (h1 : t ≤ 1099511627776) => ShareOf_any o A c k n x A2 m c2 t W ho ⟨h0, h1⟩)
  obtain ⟨⟨u0, u1⟩, ⟨s0, s1⟩, ⟨g0, g1⟩⟩ := of_bounds ho
  obtain ⟨p0, p1⟩ := placeV_in mm o.name o.vv
  generalize placeV mm o.name o.vv = P at *
  have HHIT := Lib.hid (fun (h : Nat) hh hno h1 ht => when_hit (o := o) (P := P) (h := h) p1 g0 hh hno h1 ht)
  have HBRK := Lib.hid (fun (h : Nat) hno ht => when_break (o := o) (P := P) (h := h) p1 g0 u1 hno ht)
  have HEND := Lib.hid (fun hno => when_end (o := o) (P := P) p1 s0 g0 hno)
  have HHOLD := Lib.hid (fun h => when_hold (o := o) (P := P) h)
  have HIJ := Lib.hid (fun j => show InJ o P j ↔ P < shareL o (o.bg + 3600 * (j : Int)) from Iff.rfl)
  generalize InJ o P = IJ at *
  generalize whenL o P = WL at *
  generalize shareL o = SH at *
  clear hg ho hs hm
  obtain ⟨on, ⟨o1, o2, o3, oa⟩, os, of_, ow, od, ob, ot, og, oh, ou, ok⟩ := o
  dsimp only [ofV] at *
  generalize of_.length = ol at *
  have b0 := Blk.new w 66 #[.string on, .int .i64 o1, .int .i64 o2, .int .i64 o3, .string oa, .string os, .slice A ol c, .bool ow, .int .i64 k, .string n, .string x, .slice A2 m c2, .int .i64 ob, .int .i64 ot, .int .i64 og, .bool oh, .bool ou, .bool ok]
  have hx0 : Ext w (w.alloc (.cells #[.string on, .int .i64 o1, .int .i64 o2, .int .i64 o3, .string oa, .string os, .slice A ol c, .bool ow, .int .i64 k, .string n, .string x, .slice A2 m c2, .int .i64 ob, .int .i64 ot, .int .i64 og, .bool oh, .bool ou, .bool ok] 66)) := (Ext.refl w).alloc _
  have e0 := b0.cell
  go_enter Tryz.func56, Tryz.ntmps56
  go_wp2_with fail
  refine (CP.out _ hx0).mono ?_
  rintro e w1 ⟨rfl, hx1⟩
  have hx01 := hx0.trans hx1
  have b1 := b0.ext hx1
  clear e0
  go_wp2
  go_loopw [7] (fun vi wr => ∃ k : Nat, k ≤ 1002 ∧ vi = .int .i64 k ∧ Hid (∀ j, j < k → ¬ IJ j) ∧ Ext w1 wr) (fun vi _ => 1002 - (intOf vi).toNat)
  case atStart => exact ⟨0, by omega, rfl, Lib.hid (fun j h => absurd h (Nat.not_lt_zero _)), Ext.refl _⟩
  case round =>
    obtain ⟨k, hk, rfl, hno, hxr⟩ := hrel
    obtain ⟨wo, rfl⟩ : ∃ wo : World, wo = wr := ⟨_, rfl⟩
    have hxo := hx01.trans hxr
    have b2 := b1.ext hxr
    have e2 := b2.cell
    have l2 := b2.lt
    by_cases hlt : k < 1002
    · by_cases hT : 1099511627776 < ob + 3600 * (k : Int)
      · obtain rfl : WL = (0, false) := HBRK.out k hno.out hT
        go_wp2
        go_ret2
        exact ⟨rfl, hxo⟩
      cases oh
      rotate_left
      · obtain rfl : WL = (0, false) := HHOLD.out rfl
        go_wp2
        go_ret2
        exact ⟨rfl, hxo⟩
      have LB := load_blk b2 rfl
      have CS1 := Lib.hid (fun W => CS.out (ob + 3600 * (k : Int)) W (by omega) (by omega))
      have HJ1 := Lib.hid (HIJ.out k)
      have HHT := Lib.hid (fun hh => HHIT.out k hh hno.out (by decide) (by omega))
      generalize SH (ob + 3600 * (k : Int)) = SK at *
      go_wp2_with (first | refine wpList_load_at rfl _ _ rfl _ rfl _ LB ?_)
      refine (CS1.out _).mono ?_
      rintro e w2 ⟨rfl, hx2⟩
      clear LB
      by_cases hlt2 : P < SK
      · obtain rfl : WL = (ob + 3600 * (k : Int), true) := HHT.out (HJ1.out.2 hlt2)
        go_wp2
        go_ret2
        exact ⟨rfl, hxo.trans hx2⟩
      · have HNX := Lib.hid (show ∀ j, j < k + 1 → ¬ IJ j from fun j hj => by
          rcases Nat.lt_or_ge j k with h | h
          · exact hno.out j h
          · obtain rfl : j = k := by omega
            exact fun e => hlt2 (HJ1.out.1 e))
        go_wp2
        go_roundw
        case rel => exact ⟨k + 1, by omega, by go_num, HNX, hxr.trans hx2⟩
        case measure => simp [intOf]; omega
    · obtain rfl : k = 1002 := by omega
      obtain rfl : WL = (0, false) := HEND.out hno.out
      go_wp2
      go_ret2
      exact ⟨rfl, hxo⟩
end Go.Proofs.YtmnafaaijglnfaaGreatDoor

namespace Go.Proofs.YtmnafaaijglnfaaGreatDoor
open Go.RowKit

def reachP (o : Of) (t : Int) (m : ByteArray) : Bool := decide (placeV m o.name o.vv < shareL o t)
def reErr (o : Of) (t : Int) (l : List ByteArray) : Int := firstI [timedErr o t, if 10000 < l.length then 4 else 0, if l.any (fun m => !nameL (bs m)) = true then 5 else 0]
def reachL (o : Of) (t : Int) (l : List ByteArray) : List ByteArray := if reErr o t l = 0 then l.filter (reachP o t) else []
theorem firstI_three (a b c : Int) : firstI [a, b, c] = if a = 0 then (if b = 0 then c else b) else a := by
  simp only [firstI]
  split <;> (try split) <;> simp_all
theorem re_timed {o : Of} {t : Int} {l : List ByteArray} (h : ¬ timedErr o t = 0) : reErr o t l = timedErr o t ∧ reachL o t l = [] := by
  have e : reErr o t l = timedErr o t := by rw [reErr, firstI_three, if_neg h]
  exact ⟨e, by rw [reachL, if_neg (by rw [e]; exact h)]⟩
theorem re_large {o : Of} {t : Int} {l : List ByteArray} (h : timedErr o t = 0) (h2 : 10000 < l.length) : reErr o t l = 4 ∧ reachL o t l = [] := by
  have e : reErr o t l = 4 := by rw [reErr, firstI_three, if_pos h, if_pos h2]; rfl
  exact ⟨e, by rw [reachL, if_neg (by rw [e]; decide)]⟩
theorem re_name {o : Of} {t : Int} {l : List ByteArray} (h : timedErr o t = 0) (h2 : ¬ 10000 < l.length) (h3 : l.any (fun m => !nameL (bs m)) = true) : reErr o t l = 5 ∧ reachL o t l = [] := by
  have e : reErr o t l = 5 := by rw [reErr, firstI_three, if_pos h, if_neg h2, if_pos rfl, if_pos h3]
  exact ⟨e, by rw [reachL, if_neg (by rw [e]; decide)]⟩
theorem re_ok {o : Of} {t : Int} {l : List ByteArray} (h : timedErr o t = 0) (h2 : ¬ 10000 < l.length) (h3 : l.any (fun m => !nameL (bs m)) = false) : reErr o t l = 0 ∧ reachL o t l = l.filter (reachP o t) := by
  have e : reErr o t l = 0 := by rw [reErr, firstI_three, if_pos h, if_neg h2, if_pos rfl, if_neg (by rw [h3]; decide)]
  exact ⟨e, by rw [reachL, if_pos e]⟩
theorem filter_next {α : Type} (p : α → Bool) (l : List α) (k : Nat) (h : k < l.length) : (l.take (k + 1)).filter p = (l.take k).filter p ++ (if p l[k] = true then [l[k]] else []) := by
  rw [List.take_succ_eq_append_getElem h, List.filter_append]
  congr 1
  by_cases hp : p l[k] = true
  · rw [if_pos hp]; simp [hp]
  · rw [if_neg hp]; simp [hp]
theorem reachC_any (s : ByteArray) (w : World) (hs : s.size ≤ 2097152) :
    Calls Tryz.prog 120 #[.string s] w fun e w' => e = .returned (.bool (!nameL (bs s))) ∧ Ext w w' := by
  have CN := Lib.hid (fun W => IsName_any s W hs)
  generalize nameL (bs s) = Q at *
  go_enter Tryz.func120, Tryz.ntmps120
  go_wp2_with fail
  refine (CN.out _).mono ?_
  rintro e w' ⟨rfl, rfl⟩
  go_wp2
  go_ret
  exact ⟨rfl, Ext.refl _⟩
def ReachPost (w : World) (r : Int) (l : List ByteArray) (e : Ending) (w' : World) : Prop := ∃ A c, e = .returned (.tuple #[.slice A l.length c, .int .i64 r]) ∧ RdT w' A (l.map bs) ∧ Ext w w'
theorem ReachPost.none {w w' : World} {r : Int} (h : Ext w w') : ReachPost w r [] (.returned (.tuple #[.slice none 0 0, .int .i64 r])) w' := ⟨_, _, rfl, RdT.nil _ _, h⟩
theorem ReachPost.own {w w' : World} {r : Int} {l : List ByteArray} {B n : Nat} {v : Value} (h : Ext w w') (ho : w'.ownsRow B 9 1 v n (l.map Value.string)) (hn : l.length = n) : ReachPost w r l (.returned (.tuple #[v, .int .i64 r])) w' := by
  have e : l.map Value.string = (l.map bs).map S := by
    rw [List.map_map]
    exact List.map_congr_left fun x _ => (S_bs x).symm
  rw [e] at ho
  obtain ⟨A, c, rfl, hr⟩ := RdT.own ho (by rw [List.length_map]; exact hn)
  subst hn
  exact ⟨A, c, rfl, hr, h⟩
set_option maxRecDepth 100000 in
set_option maxHeartbeats 8000000 in
theorem Reached_any (o : Of) (A : Option Addr) (c : Nat) (k : Int) (n x : ByteArray) (A2 : Option Addr) (m c2 : Nat) (t : Int) (l : List ByteArray) (AL : Option Addr) (nl cl : Nat) (w : World) (hg : GoodN w) (hi : OfIn AnyB w o A k n x A2 m c2) (hs : SmallO o)
    (hn : l.length = nl) (hr : RdF w AL l) (hsz : ∀ s ∈ l, s.size ≤ 2097152) (hl : nl ≤ 2097152) :
    Calls Tryz.prog 53 #[ofV o A c k n x A2 m c2, .slice AL nl cl, .int .i64 t] w fun e w' => ReachPost w (reErr o t l) (reachL o t l) e w' := by
  have CT := Lib.hid (fun W (h : Ext w W) => timed_any o A c k n x A2 m c2 t W (hg.ext h) (hi.ext h) hs)
  have CA := Lib.hid (fun W h => shareAt_any o A c k n x A2 m c2 t W (timed_ok (o := o) (t := t) h).1 (timed_ok h).2)
  have CC := Lib.hid (fun W (h : Ext w W) => ContainsFuncF_any l AL nl cl 120 #[] (fun m => !nameL (bs m)) W hn (hr.ext h) hl (fun _ _ => rfl) (fun x hx W' _ => by rw [Array.append_empty]; exact reachC_any x W' (hsz x hx)))
  have CP := Lib.hid (fun h j (hj : j < l.length) W (hx : Ext w W) => place_any l[j] o.name o.vv W (hg.ext hx) (hsz _ (List.getElem_mem hj)) hs.name hs.vv (ofErr_parts (timed_ok (o := o) (t := t) h).1).2.1)
  have H1 := Lib.hid (fun h => re_timed (o := o) (t := t) (l := l) h)
  have H2 := Lib.hid (fun h h2 => re_large (o := o) (t := t) (l := l) h h2)
  have H3 := Lib.hid (fun h h2 h3 => re_name (o := o) (t := t) (l := l) h h2 h3)
  have H4 := Lib.hid (fun h h2 h3 => re_ok (o := o) (t := t) (l := l) h h2 h3)
  have HP := Lib.hid (fun m => show reachP o t m = decide (placeV m o.name o.vv < shareL o t) from rfl)
  have HR := Lib.hid hr
  have HN := Lib.hid hn
  rw [hn] at H2 H3 H4
  generalize reErr o t l = RE at *
  generalize reachL o t l = RL at *
  generalize timedErr o t = E at *
  generalize shareL o t = SL at *
  generalize reachP o t = RP at *
  generalize l.any (fun m => !nameL (bs m)) = QA at *
  clear hg hi hs hr hsz
  clear hn
  obtain ⟨on, ⟨o1, o2, o3, oa⟩, os, of_, ow, od, ob, ot, og, oh, ou, ok⟩ := o
  dsimp only [ofV] at *
  generalize of_.length = ol at *
  have b0 := Blk.new w 66 #[.string on, .int .i64 o1, .int .i64 o2, .int .i64 o3, .string oa, .string os, .slice A ol c, .bool ow, .int .i64 k, .string n, .string x, .slice A2 m c2, .int .i64 ob, .int .i64 ot, .int .i64 og, .bool oh, .bool ou, .bool ok]
  have hx0 : Ext w (w.alloc (.cells #[.string on, .int .i64 o1, .int .i64 o2, .int .i64 o3, .string oa, .string os, .slice A ol c, .bool ow, .int .i64 k, .string n, .string x, .slice A2 m c2, .int .i64 ob, .int .i64 ot, .int .i64 og, .bool oh, .bool ou, .bool ok] 66)) := (Ext.refl w).alloc _
  have LB := load_blk b0 rfl
  have l0 := b0.lt
  go_enter Tryz.func53, Tryz.ntmps53
  go_wp2_with (first | refine wpList_load_at rfl _ _ rfl _ rfl _ LB ?_)
  refine (CT.out _ hx0).mono ?_
  rintro e w1 ⟨rfl, hx1⟩
  have hx01 := hx0.trans hx1
  clear LB l0
  by_cases h0 : E = 0
  rotate_left
  · obtain ⟨rfl, rfl⟩ := H1.out h0
    have hne : (RE != 0) = true := by rw [bne_iff_ne]; exact h0
    clear h0
    go_wp2
    go_ret2
    exact .none hx01
  subst h0
  by_cases h1 : (10000 : Int) < (nl : Int)
  · obtain ⟨rfl, rfl⟩ := H2.out (by trivial) (by omega)
    go_wp2
    go_ret2
    exact .none hx01
  go_wp2_with fail
  refine (CC.out _ hx01).mono ?_
  rintro e w2 ⟨rfl, hx2⟩
  have hx02 := hx01.trans hx2
  cases QA
  rotate_left
  · obtain ⟨rfl, rfl⟩ := H3.out (by trivial) (by omega) (by trivial)
    go_wp2
    go_ret2
    exact .none hx02
  obtain ⟨rfl, rfl⟩ := H4.out (by trivial) (by omega) (by trivial)
  have b2 := (b0.ext hx1).ext hx2
  have LB2 := load_blk b2 rfl
  have l2 := b2.lt
  go_wp2_with (first | refine wpList_load_at rfl _ _ rfl _ rfl _ LB2 ?_)
  refine (CA.out _ (by trivial)).mono ?_
  rintro e w3 ⟨rfl, hx3⟩
  have hx03 := hx02.trans hx3
  have b3 := b2.ext hx3
  clear LB2 l2
  go_wp2
  go_loopw [10, 29] (fun v vi wr => ∃ kk : Nat, kk ≤ nl ∧ vi = .int .i64 kk ∧ wr.ownsRow w3.heap.size 9 1 v ((l.take kk).filter RP).length (((l.take kk).filter RP).map Value.string) ∧ Ext w3 wr) (fun _ vi _ => nl - (intOf vi).toNat)
  case atStart => exact ⟨0, Nat.zero_le _, rfl, World.ownsRow_nil _ _ _ _, Ext.refl _⟩
  case round =>
    obtain ⟨kk, hkk, rfl, hown, hxr⟩ := hrel
    obtain ⟨wo, rfl⟩ : ∃ wo : World, wo = wr := ⟨_, rfl⟩
    have hxo := hx03.trans hxr
    by_cases hlt : kk < nl
    · have hk1 : kk < l.length := by rw [HN.out]; exact hlt
      obtain ⟨gb, go_, rfl, hrow⟩ := HR.out (fun e => by rw [e] at hk1; exact absurd hk1 (Nat.not_lt_zero _))
      have hcl := hxo.cell (hrow kk hk1)
      have hlb := lt_of_cell hcl
      have b4 := b3.ext hxr
      have e4 := b4.cell
      have l4 := b4.lt
      have CP1 := Lib.hid (CP.out (by trivial) kk hk1)
      have HF := Lib.hid (filter_next RP l kk hk1)
      have HPK := Lib.hid (HP.out l[kk])
      generalize l[kk] = mk at *
      generalize placeV mk on ⟨o1, o2, o3, oa⟩ = PV at *
      clear hrow
      go_wp2_with fail
      refine (CP1.out _ hxo).mono ?_
      rintro e w5 ⟨rfl, hx5⟩
      have hx35 := hxr.trans hx5
      have hown5 := own_ext hown hx5
      have hz5 := hx35.size
      clear hcl hlb e4 l4
      by_cases hp : PV < SL
      · have HF2 := Lib.hid (show (l.take (kk + 1)).filter RP = (l.take kk).filter RP ++ [mk] from by rw [HF.out, if_pos (by rw [HPK.out]; exact decide_eq_true hp)])
        have hlen : ((l.take kk).filter RP).length ≤ 10000 := by
          have h1 := List.length_filter_le RP (l.take kk)
          have h2 := List.length_take_le kk l
          omega
        go_wp2_with (at_builtin; refine wpList_app1g _ _ _ rfl _ _ 74 rfl (.string ⟨#[]⟩) 1 16 Tryz.underlying74 info_string rfl (by decide) (by decide) w3.heap.size _ _ _ rfl hown5 _ _ rfl (by simp) rfl (by simp [Value.oneCell']) (by omega) hz5 ?_; intro v' w' hown' hgrow _)
        go_roundw
        case rel => exact ⟨kk + 1, by omega, by go_num, by rw [HF2.out, List.length_append, List.map_append]; exact hown', hgrow w3 hx35 (Nat.le_refl _)⟩
        case measure => simp [intOf]; omega
      · have HF2 := Lib.hid (show (l.take (kk + 1)).filter RP = (l.take kk).filter RP from by rw [HF.out, if_neg (by rw [HPK.out, decide_eq_true_eq]; exact hp), List.append_nil])
        go_wp2
        go_roundw
        case rel => exact ⟨kk + 1, by omega, by go_num, by rw [HF2.out]; exact hown5, hx35⟩
        case measure => simp [intOf]; omega
    · obtain rfl : kk = nl := by omega
      have hte : l.take kk = l := List.take_of_length_le (by rw [HN.out]; exact Nat.le_refl _)
      rw [hte] at hown
      have HO := Lib.hid hown
      clear hte hown
      go_wp2
      go_ret2
      exact .own hxo HO.out rfl
end Go.Proofs.YtmnafaaijglnfaaGreatDoor

namespace Go.Proofs.YtmnafaaijglnfaaGreatDoor
open Go.ChangeShapes Go.WideShapes Go.ChangeAt Go.RowKit Go.WideElems Go.Joins

theorem opens_sliceF {T E : TypeId} {α : Type} [Inhabited α] {R : World → α → List Value → Prop} {bk : α → Nat} {sz : Nat} (hT : Tryz.prog.underlying T = some (.slice E)) (hsz : Tryz.prog.cellsOf E = sz) (h0 : 0 < sz) (hE : Opens E R bk) :
    Opens T (fun W (l : List α) cs => ∃ A c, cs = [.slice A l.length c] ∧ l.length ≤ c ∧ RowOf R sz W A l) (fun l => (l.map bk).sum + 1) := fun H enc W fuel cs x h => by
  rcases Deep.open_slice hT h with ⟨rfl, rfl⟩ | ⟨a, len, cap, m, n, D, Pl, rfl, _, hl, _, hm, rfl, hx⟩
  · exact ⟨[], ⟨none, 0, rfl, Nat.le_refl _, fun h => absurd rfl h⟩, by simp [Rows.uptoBulk]⟩
  · obtain ⟨l, ⟨A, c, e, hr⟩, hb⟩ := opens_slice hT hsz h0 hE H enc W fuel _ _ h
    injection e with e
    injection e with e1 e2 e3
    subst e1 e3
    exact ⟨l, ⟨_, _, by rw [← e2], by rw [← e2]; exact hl, hr⟩, hb⟩
theorem rdF_row {W : World} {A : Option Addr} {v : List ByteArray} (h : RowOf (fun _ (s : ByteArray) cs => cs = [.string s]) 1 W A v) : RdF W A v := fun hn => by
  obtain ⟨b, o, rfl, hc⟩ := h hn
  refine ⟨b, o, rfl, fun k hk => ?_⟩
  obtain ⟨ecs, rfl, _, hj⟩ := hc k hk
  have := hj 0 (by omega)
  rw [Nat.mul_one, Nat.add_zero] at this
  exact this
theorem rdP_any {W : World} {A : Option Addr} {l : List Sp} (h : RdS W A l) : RdP AnyB W A l := fun hn => by
  obtain ⟨b, i, e, h⟩ := h hn
  exact ⟨b, i, e, trivial, h⟩
theorem opens_condF : Opens 52 (fun W (q : Cd × Nat) cs => CdIn (fun _ => True) W q.1 (.agg cs.toArray) ∧ cnt q.1 ≤ q.2 ∧ StrC q.2 q.1) (fun q => q.2) := fun H enc W fuel cs x h => by
  obtain ⟨c, e1, e2, e3⟩ := opens_cond H enc W _ fuel _ _ h (Nat.le_refl _)
  exact ⟨⟨c, Rows.uptoBulk x.1⟩, ⟨e1, e2, e3⟩, Nat.le_refl _⟩
def ofBk (o : Of) : Nat := o.name.size + o.vv.a.size + o.sum.size + (o.fr.map fun s => s.f.a.size + s.t.a.size + 10).sum + 12
/-- what an offer's cells say; the number: the bulk of its condition -/
def OfCells (W : World) (q : Of × Nat) (cs : List Value) : Prop :=
  (∃ A c k n x A2 m c2, cs = ofCs q.1 A c k n x A2 m c2 ∧ OfIn AnyB W q.1 A k n x A2 m c2) ∧ cnt q.1.wh ≤ q.2 ∧ StrC q.2 q.1.wh
instance inhFOf : Inhabited Of := ⟨zeroO⟩
set_option maxRecDepth 100000 in
theorem opens_offer : Opens 66 OfCells (fun q => ofBk q.1 + q.2) := fun H enc W fuel cs x h => by
  obtain ⟨xs, n, _, rfl, hl, hlen, hf⟩ := DataW.trod_struct Tryz.underlying66 h
  have hc : Tryz.prog.cellsOf 66 = 18 := by kernel_rfl
  rw [hc] at hl
  match cs, hl, xs, hlen with
  | [c0, c1, c2, c3, c4, c5, c6, c7, c8, c9, c10, c11, c12, c13, c14, c15, c16, c17], _, [y0, y1, y2, y3, y4, y5, y6, y7, y8, y9, y10, y11], _ =>
    have h0 := hf 0 _ rfl
    replace h0 : DataW.trod enc Tryz.prog W 0 (fun _ => true) true n 9 (([c0, c1, c2, c3, c4, c5, c6, c7, c8, c9, c10, c11, c12, c13, c14, c15, c16, c17].drop 0).take (Tryz.prog.cellsOf 9)) = some y0 := h0
    rw [show Tryz.prog.cellsOf 9 = 1 by kernel_rfl] at h0
    obtain ⟨a, e0, b0⟩ := opens_string Tryz.underlying9 H enc W n _ _ h0
    have h1 := hf 1 _ rfl
    replace h1 : DataW.trod enc Tryz.prog W 0 (fun _ => true) true n 23 (([c0, c1, c2, c3, c4, c5, c6, c7, c8, c9, c10, c11, c12, c13, c14, c15, c16, c17].drop 1).take (Tryz.prog.cellsOf 23)) = some y1 := h1
    rw [show Tryz.prog.cellsOf 23 = 4 by kernel_rfl] at h1
    obtain ⟨v, e1, b1⟩ := opens_ver H enc W n _ _ h1
    have h2 := hf 2 _ rfl
    replace h2 : DataW.trod enc Tryz.prog W 0 (fun _ => true) true n 9 (([c0, c1, c2, c3, c4, c5, c6, c7, c8, c9, c10, c11, c12, c13, c14, c15, c16, c17].drop 5).take (Tryz.prog.cellsOf 9)) = some y2 := h2
    rw [show Tryz.prog.cellsOf 9 = 1 by kernel_rfl] at h2
    obtain ⟨sm, e2, b2⟩ := opens_string Tryz.underlying9 H enc W n _ _ h2
    have h3 := hf 3 _ rfl
    replace h3 : DataW.trod enc Tryz.prog W 0 (fun _ => true) true n 42 (([c0, c1, c2, c3, c4, c5, c6, c7, c8, c9, c10, c11, c12, c13, c14, c15, c16, c17].drop 6).take (Tryz.prog.cellsOf 42)) = some y3 := h3
    rw [show Tryz.prog.cellsOf 42 = 1 by kernel_rfl] at h3
    obtain ⟨fr, ⟨A, c, e3, hfr⟩, b3⟩ := opens_range H enc W n _ _ h3
    have h4 := hf 4 _ rfl
    replace h4 : DataW.trod enc Tryz.prog W 0 (fun _ => true) true n 4 (([c0, c1, c2, c3, c4, c5, c6, c7, c8, c9, c10, c11, c12, c13, c14, c15, c16, c17].drop 7).take (Tryz.prog.cellsOf 4)) = some y4 := h4
    rw [show Tryz.prog.cellsOf 4 = 1 by kernel_rfl] at h4
    obtain ⟨nw, e4, b4⟩ := opens_bool Tryz.underlying4 H enc W n _ _ h4
    have h5 := hf 5 _ rfl
    replace h5 : DataW.trod enc Tryz.prog W 0 (fun _ => true) true n 52 (([c0, c1, c2, c3, c4, c5, c6, c7, c8, c9, c10, c11, c12, c13, c14, c15, c16, c17].drop 8).take (Tryz.prog.cellsOf 52)) = some y5 := h5
    rw [show Tryz.prog.cellsOf 52 = 4 by kernel_rfl] at h5
    obtain ⟨⟨cd, m⟩, ⟨e5, hcn, hst⟩, b5⟩ := opens_condF H enc W n _ _ h5
    have h6 := hf 6 _ rfl
    replace h6 : DataW.trod enc Tryz.prog W 0 (fun _ => true) true n 3 (([c0, c1, c2, c3, c4, c5, c6, c7, c8, c9, c10, c11, c12, c13, c14, c15, c16, c17].drop 12).take (Tryz.prog.cellsOf 3)) = some y6 := h6
    rw [show Tryz.prog.cellsOf 3 = 1 by kernel_rfl] at h6
    obtain ⟨bg, e6, b6⟩ := opens_int Tryz.underlying3 H enc W n _ _ h6
    have h7 := hf 7 _ rfl
    replace h7 : DataW.trod enc Tryz.prog W 0 (fun _ => true) true n 3 (([c0, c1, c2, c3, c4, c5, c6, c7, c8, c9, c10, c11, c12, c13, c14, c15, c16, c17].drop 13).take (Tryz.prog.cellsOf 3)) = some y7 := h7
    rw [show Tryz.prog.cellsOf 3 = 1 by kernel_rfl] at h7
    obtain ⟨st, e7, b7⟩ := opens_int Tryz.underlying3 H enc W n _ _ h7
    have h8 := hf 8 _ rfl
    replace h8 : DataW.trod enc Tryz.prog W 0 (fun _ => true) true n 3 (([c0, c1, c2, c3, c4, c5, c6, c7, c8, c9, c10, c11, c12, c13, c14, c15, c16, c17].drop 14).take (Tryz.prog.cellsOf 3)) = some y8 := h8
    rw [show Tryz.prog.cellsOf 3 = 1 by kernel_rfl] at h8
    obtain ⟨gr, e8, b8⟩ := opens_int Tryz.underlying3 H enc W n _ _ h8
    have h9 := hf 9 _ rfl
    replace h9 : DataW.trod enc Tryz.prog W 0 (fun _ => true) true n 4 (([c0, c1, c2, c3, c4, c5, c6, c7, c8, c9, c10, c11, c12, c13, c14, c15, c16, c17].drop 15).take (Tryz.prog.cellsOf 4)) = some y9 := h9
    rw [show Tryz.prog.cellsOf 4 = 1 by kernel_rfl] at h9
    obtain ⟨hd, e9, b9⟩ := opens_bool Tryz.underlying4 H enc W n _ _ h9
    have h10 := hf 10 _ rfl
    replace h10 : DataW.trod enc Tryz.prog W 0 (fun _ => true) true n 4 (([c0, c1, c2, c3, c4, c5, c6, c7, c8, c9, c10, c11, c12, c13, c14, c15, c16, c17].drop 16).take (Tryz.prog.cellsOf 4)) = some y10 := h10
    rw [show Tryz.prog.cellsOf 4 = 1 by kernel_rfl] at h10
    obtain ⟨ug, e10, b10⟩ := opens_bool Tryz.underlying4 H enc W n _ _ h10
    have h11 := hf 11 _ rfl
    replace h11 : DataW.trod enc Tryz.prog W 0 (fun _ => true) true n 4 (([c0, c1, c2, c3, c4, c5, c6, c7, c8, c9, c10, c11, c12, c13, c14, c15, c16, c17].drop 17).take (Tryz.prog.cellsOf 4)) = some y11 := h11
    rw [show Tryz.prog.cellsOf 4 = 1 by kernel_rfl] at h11
    obtain ⟨bk, e11, b11⟩ := opens_bool Tryz.underlying4 H enc W n _ _ h11
    simp at e5
    obtain ⟨k, n', x, A2, m2, c2', ecd⟩ := e5.cells
    simp at ecd e0 e1 e2 e3 e4 e6 e7 e8 e9 e10 e11
    obtain ⟨rfl, rfl, rfl, rfl⟩ := ecd
    subst e0
    obtain ⟨rfl, rfl, rfl, rfl⟩ := e1
    subst e2
    subst e3
    subst e4
    subst e6
    subst e7
    subst e8
    subst e9
    subst e10
    subst e11
    refine ⟨⟨⟨a, v, sm, fr, nw, cd, bg, st, gr, hd, ug, bk⟩, m⟩, ⟨⟨A, c, k, n', x, A2, m2, c2', rfl, rdP_any hfr, e5⟩, hcn, hst⟩, ?_⟩
    unfold ofBk
    dsimp only at b0 b1 b2 b3 b4 b5 b6 b7 b8 b9 b10 b11 ⊢
    simp only [List.map_cons, List.map_nil, Rows.uptoBulk, Rows.uptoBulkAll]
    omega
theorem small_offer {o : Of} {n m : Nat} (hn : n ≤ 1048576) (hm : m ≤ 1048576) (h : ofBk o ≤ n) (h1 : cnt o.wh ≤ m) (h2 : StrC m o.wh) : SmallO o := by
  unfold ofBk at h
  have k2 := sum_len (bk := fun s : Sp => s.f.a.size + s.t.a.size + 10) (c := 1) (fun s => by omega) o.fr
  refine ⟨by omega, by omega, by omega, fun y hy => ?_, by omega, small_of (m := m) (by omega) h2 (by omega), by omega⟩
  have h4 := sum_mem (bk := fun s : Sp => s.f.a.size + s.t.a.size + 10) hy
  exact ⟨by omega, by omega⟩
set_option maxRecDepth 100000 in
/-- an offer by value, of a bulk -/
theorem open_offer {H : Type} {enc : TypeId × Value → H} {W : World} {base : Nat} {v : Value} {d : DataW H} {p : List MemPlace} (hv : Value.okWide Tryz.prog W .any base 66 v) (h : DataW.Trod enc Tryz.prog W 0 (fun _ => true) true 66 v d p) (hd : Rows.uptoBulk d ≤ 1048576) :
    ∃ (o : Of) (A : Option Addr) (c : Nat) (k : Int) (n x : ByteArray) (A2 : Option Addr) (m c2 : Nat), v = ofV o A c k n x A2 m c2 ∧ OfIn AnyB W o A k n x A2 m c2 ∧ SmallO o := by
  obtain ⟨cs, rfl, _⟩ := okWide_struct Tryz.underlying66 hv
  obtain ⟨fuel, hf⟩ := h
  obtain ⟨⟨o, m⟩, ⟨⟨A, c, k, n, x, A2, m', c2, e, hin⟩, h1, h2⟩, hb⟩ := opens_offer H enc W fuel _ _ hf
  dsimp only at hb h1 h2 hin e
  refine ⟨o, A, c, k, n, x, A2, m', c2, ?_, hin, small_offer (n := Rows.uptoBulk d) (m := m) hd (by omega) (by omega) h1 h2⟩
  obtain ⟨cs⟩ := cs
  simp only [Value.cells] at e
  rw [show cs = _ from e]
set_option maxRecDepth 100000 in
/-- texts, of a bulk -/
theorem open_textsF {H : Type} {enc : TypeId × Value → H} {W : World} {base : Nat} {v : Value} {d : DataW H} {p : List MemPlace} (hv : Value.okWide Tryz.prog W .any base 74 v) (h : DataW.Trod enc Tryz.prog W 0 (fun _ => true) true 74 v d p) :
    ∃ A c l, v = .slice A l.length c ∧ l.length ≤ c ∧ RdF W A l ∧ (∀ x ∈ l, x.size ≤ Rows.uptoBulk d) ∧ l.length ≤ Rows.uptoBulk d := by
  obtain ⟨a, len, cap, rfl⟩ := okWide_slice Tryz.underlying74 hv
  obtain ⟨fuel, hf⟩ := h
  obtain ⟨l, ⟨A, c, e, hcap, hr⟩, hb⟩ := opens_sliceF (sz := 1) Tryz.underlying74 (by kernel_rfl) (by decide) (opens_string Tryz.underlying9) H enc W fuel _ _ hf
  dsimp only at hb
  refine ⟨A, c, l, ?_, hcap, rdF_row hr, fun s hs => ?_, ?_⟩
  · have e : [Value.slice a len cap] = [.slice A l.length c] := e
    injection e
  · have := sum_mem (bk := fun s : ByteArray => s.size + 1) hs
    omega
  · have := sum_len (bk := fun s : ByteArray => s.size + 1) (c := 1) (fun s => by omega) l
    omega
end Go.Proofs.YtmnafaaijglnfaaGreatDoor

namespace Go.Proofs.YtmnafaaijglnfaaGreatDoor.listed
open Go.ChangeShapes Go.WideShapes Go.ChangeAt Go.RowKit Go.WideElems Go.Joins

abbrev bruZ : List Int := [0, 1, 56, 2, 57, 49, 28, 3, 61, 58, 42, 50, 38, 29, 17, 4, 62, 47, 59, 36, 45, 43, 51, 22, 53, 39, 33, 30, 24, 18, 12, 5, 63, 55, 48, 27, 60, 41, 37, 16, 46, 35, 44, 21, 52, 32, 23, 11, 54, 26, 40, 15, 34, 20, 31, 10, 25, 14, 19, 9, 13, 8, 7, 6]
theorem goodS {W : World} (hL : laidMetH Tryz.prog Rows.versionsMatchUptoRow.laid W) (hS : W.ShapedOpen Tryz.prog) : GoodS W := by
  have hL' : laidMet Tryz.prog Rows.versionsMatchUptoRow.laid W := hL
  have h4 : laidMet Tryz.prog [("math/bits.deBruijn64tab", Rows.laid_math_bits_deBruijn64tab)] W := hL'.filter (fun x => x.1 == "math/bits.deBruijn64tab")
  have ht : Lib.TabIs Tryz.prog W "math/bits.deBruijn64tab" .u8 bruZ := Lib.tabIs_of_head (rest := []) (g := 7) (by kernel_rfl) (by kernel_rfl) Tryz.underlying311 Tryz.underlying5 (by kernel_rfl) (by kernel_rfl) h4
  exact ⟨good hL hS, ht.cell (by kernel_rfl) 15 (by decide)⟩
end Go.Proofs.YtmnafaaijglnfaaGreatDoor.listed
