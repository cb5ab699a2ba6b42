/- Contracts of feed.place and outref2.PlaceOf. Contracts of feed.Place, feed.timed, feed.Share, outref2.TimeError. -/
import Derived.Test.YtmnafaaijglnfaaGreatDoorSm01
import Derived.Test.YtmnafaaijglnfaaGreatDoorFr12
import Derived.Test.YtmnafaaijglnfaaGreatDoorFr03

namespace Go.Proofs.YtmnafaaijglnfaaGreatDoor
open Go.RowKit
/-- the text whose sum tells where a machine stands -/
def placeT (m n : ByteArray) (v : V4) : Str := bs m ++ [0] ++ bs n ++ [0] ++ v.text
def placeV (m n : ByteArray) (v : V4) : Int := (fnvL (placeT m n v) / 4294967296 % 1000 : Nat)
theorem placeV_in (m n : ByteArray) (v : V4) : 0 ≤ placeV m n v ∧ placeV m n v < 1000 := by
  have : fnvL (placeT m n v) / 4294967296 % 1000 < 1000 := Nat.mod_lt _ (by decide)
  unfold placeV
  omega
/-- a sum's first eight digits -/
theorem sum8 (l : Str) {Y : ByteArray} (hY : bs Y = sumT l) : bs (Y.extract 0 8) = hexN 8 (fnvL l / 4294967296) := by
  show (Y.extract 0 8).data.toList = _
  rw [Lib.extract_data]
  have e : (Y.data.toList.take 8).drop 0 = hexN 8 (fnvL l / 4294967296) := by
    rw [List.drop_zero, show Y.data.toList = hexN 16 (fnvL l) from hY, hex_first8]
  first | exact e | (rw [← List.drop_take] at *; exact e) | (simpa [List.drop_take] using e)
theorem sum8_lt (l : Str) : fnvL l / 4294967296 < 4294967296 := by
  have := fnvL_lt l
  omega
set_option maxRecDepth 100000 in
set_option maxHeartbeats 4000000 in
theorem place_any (m n : ByteArray) (v : V4) (w : World) (hg : GoodN w) (hm : m.size ≤ 2097152) (hn : n.size ≤ 2097152) (hv : v.a.size ≤ 2097152) (h0 : v.err = 0) :
    Calls Tryz.prog 113 #[.string m, .string n, verV v] w fun e w' => e = .returned (.int .i64 (placeV m n v)) ∧ Ext w w' := by
  obtain ⟨v1, v2, v3, va⟩ := v
  have HPL := Lib.hid (show placeV m n ⟨v1, v2, v3, va⟩ = (fnvL (placeT m n ⟨v1, v2, v3, va⟩) / 4294967296 % 1000 : Nat) from rfl)
  have hpr : printV v1 v2 v3 (bs va) = (⟨v1, v2, v3, va⟩ : V4).text := by rw [printV, if_pos (show checkV v1 v2 v3 (bs va) = 0 from h0)]; rfl
  have CP := Lib.hid (fun W (h : Ext w W) => Print_any v1 v2 v3 va W (hg.ext h) hv)
  rw [show checkV v1 v2 v3 (bs va) = 0 from h0, hpr] at CP
  have htl : (⟨v1, v2, v3, va⟩ : V4).text.length ≤ 2097152 := by have := text_len h0; omega
  obtain ⟨T, hTS, hTb⟩ : ∃ T : ByteArray, S (⟨v1, v2, v3, va⟩ : V4).text = .string T ∧ bs T = (⟨v1, v2, v3, va⟩ : V4).text := ⟨_, rfl, bs_mk _⟩
  have hTz : T.size ≤ 2097152 := by rw [← bs_length, hTb]; exact htl
  have htx : placeT m n ⟨v1, v2, v3, va⟩ = bs (m ++ ⟨#[0]⟩ ++ n ++ ⟨#[0]⟩ ++ T) := by
    unfold placeT
    rw [← hTb, bs_append, bs_append, bs_append, bs_append]
  have hXz : (m ++ ⟨#[0]⟩ ++ n ++ ⟨#[0]⟩ ++ T).size ≤ 9000000 := by
    have h1 : (⟨#[0]⟩ : ByteArray).size = 1 := rfl
    simp only [ByteArray.size_append, h1]
    omega
  rw [hTS] at CP
  generalize placeV m n ⟨v1, v2, v3, va⟩ = R at *
  generalize placeT m n ⟨v1, v2, v3, va⟩ = PT at *
  have CS := Lib.hid (fun W => SumOf_any (m ++ ⟨#[0]⟩ ++ n ++ ⟨#[0]⟩ ++ T) W hXz)
  rw [← htx] at CS
  obtain ⟨Y, hYS, hYb⟩ : ∃ Y : ByteArray, S (sumT PT) = .string Y ∧ bs Y = sumT PT := ⟨_, rfl, bs_mk _⟩
  have hYz : Y.size = 16 := by rw [← bs_length, hYb, sumT, hexN_length]
  rw [hYS] at CS
  have CU := Lib.hid (fun W => parseUint_any (Y.extract 0 8) (fnvL PT / 4294967296) (sum8_lt PT) (sum8 PT hYb) W)
  generalize fnvL PT / 4294967296 = M at *
  clear htx hXz hTS hTb hYS hYb hpr htl hg h0
  go_enter Tryz.func113, Tryz.ntmps113
  go_wp2_with fail
  refine (CP.out _ Ext.au).mono ?_
  rintro e w1 ⟨rfl, hx1⟩
  have hx01 : Ext w w1 := Ext.trans Ext.au hx1
  go_wp2_with fail
  refine (CS.out _).mono ?_
  rintro e w2 ⟨rfl, hx2⟩
  go_wp2_with fail
  refine (CU.out _).mono ?_
  rintro e w3 ⟨rfl, hx3⟩
  have hx := hx01.trans (hx2.trans hx3)
  go_wp2
  go_ret
  exact ⟨ret_int HPL.out.symm, hx⟩
set_option maxRecDepth 100000 in
set_option maxHeartbeats 4000000 in
theorem PlaceOf_any (m n : ByteArray) (v : V4) (w : World) (hg : GoodS w) (hm : m.size ≤ 2097152) (hn : n.size ≤ 2097152) (hv : v.a.size ≤ 2097152) (h0 : v.err = 0) :
    Calls Tryz.prog 49 #[.string m, .string n, verV v] w fun e w' => e = .returned (.int .i64 (placeV m n v)) ∧ Ext w w' := by
  obtain ⟨v1, v2, v3, va⟩ := v
  have HPL := Lib.hid (show placeV m n ⟨v1, v2, v3, va⟩ = (fnvL (placeT m n ⟨v1, v2, v3, va⟩) / 4294967296 % 1000 : Nat) from rfl)
  have CP := Lib.hid (fun W (h : Ext w W) => vtext_x ⟨v1, v2, v3, va⟩ W (hg.toGoodN.ext h) hv h0)
  have htl : (⟨v1, v2, v3, va⟩ : V4).text.length ≤ 2097152 := by have := text_len h0; omega
  obtain ⟨T, hTS, hTb⟩ : ∃ T : ByteArray, S (⟨v1, v2, v3, va⟩ : V4).text = .string T ∧ bs T = (⟨v1, v2, v3, va⟩ : V4).text := ⟨_, rfl, bs_mk _⟩
  have hTz : T.size ≤ 2097152 := by rw [← bs_length, hTb]; exact htl
  have htx : placeT m n ⟨v1, v2, v3, va⟩ = bs (m ++ ⟨#[0]⟩ ++ n ++ ⟨#[0]⟩ ++ T) := by
    unfold placeT
    rw [← hTb, bs_append, bs_append, bs_append, bs_append]
  have hXz : (m ++ ⟨#[0]⟩ ++ n ++ ⟨#[0]⟩ ++ T).size ≤ 9000000 := by
    have h1 : (⟨#[0]⟩ : ByteArray).size = 1 := rfl
    simp only [ByteArray.size_append, h1]
    omega
  rw [hTS] at CP
  generalize placeV m n ⟨v1, v2, v3, va⟩ = R at *
  generalize placeT m n ⟨v1, v2, v3, va⟩ = PT at *
  have CS := Lib.hid (fun W (h : Ext w W) => SumOfR_any (m ++ ⟨#[0]⟩ ++ n ++ ⟨#[0]⟩ ++ T) W (hg.ext h) hXz)
  rw [← htx] at CS
  obtain ⟨Y, hYS, hYb⟩ : ∃ Y : ByteArray, S (sumT PT) = .string Y ∧ bs Y = sumT PT := ⟨_, rfl, bs_mk _⟩
  have hYz : Y.size = 16 := by rw [← bs_length, hYb, sumT, hexN_length]
  rw [hYS] at CS
  have CU := Lib.hid (fun W => parseUint_any (Y.extract 0 8) (fnvL PT / 4294967296) (sum8_lt PT) (sum8 PT hYb) W)
  generalize fnvL PT / 4294967296 = M at *
  clear htx hXz hTS hTb hYS hYb htl hg h0
  have b0 := Blk.new w 23 #[.int .i64 v1, .int .i64 v2, .int .i64 v3, .string va]
  have hx0 : Ext w (w.alloc (.cells #[.int .i64 v1, .int .i64 v2, .int .i64 v3, .string va] 23)) := (Ext.refl w).alloc _
  generalize hW : w.alloc (.cells #[.int .i64 v1, .int .i64 v2, .int .i64 v3, .string va] 23) = W0 at *
  have HW := Lib.hid hW
  clear hW
  have e0 := b0.cell
  have l0 := b0.lt
  go_enter Tryz.func49, Tryz.ntmps49
  go_wp2_with fail
  rw [HW.out]
  go_wp2_with fail
  refine (CP.out _ hx0).mono ?_
  rintro e w1 ⟨rfl, hx1⟩
  go_wp2_with fail
  refine (CS.out _ (hx0.trans hx1)).mono ?_
  rintro e w2 ⟨rfl, hx2⟩
  go_wp2_with fail
  refine (CU.out _).mono ?_
  rintro e w3 ⟨rfl, hx3⟩
  go_wp2
  go_ret
  exact ⟨ret_int HPL.out.symm, hx0.trans (hx1.trans (hx2.trans hx3))⟩
end Go.Proofs.YtmnafaaijglnfaaGreatDoor

namespace Go.Proofs.YtmnafaaijglnfaaGreatDoor
open Go.RowKit

def plErr (m n : ByteArray) (v : V4) : Int := firstI [(if (nameL (bs m) && nameL (bs n)) = true then 0 else 5), v.err]
def plV (m n : ByteArray) (v : V4) : Int := if plErr m n v = 0 then placeV m n v else 0
theorem firstI_two (a b : Int) : firstI [a, b] = if a = 0 then b else a := by
  simp only [firstI]
  split <;> simp_all
theorem plErr_name {m n : ByteArray} {v : V4} (h : (nameL (bs m) && nameL (bs n)) = false) : plErr m n v = 5 ∧ plV m n v = 0 := by
  have e : plErr m n v = 5 := by rw [plErr, firstI_two, h]; rfl
  exact ⟨e, by rw [plV, if_neg (by rw [e]; decide)]⟩
theorem plErr_ver {m n : ByteArray} {v : V4} (h : (nameL (bs m) && nameL (bs n)) = true) : plErr m n v = v.err := by rw [plErr, firstI_two, if_pos h, if_pos rfl]
set_option maxRecDepth 100000 in
set_option maxHeartbeats 4000000 in
theorem Place_any (m n : ByteArray) (v : V4) (w : World) (hg : GoodN w) (hm : m.size ≤ 2097152) (hn : n.size ≤ 2097152) (hv : v.a.size ≤ 2097152) :
    Calls Tryz.prog 48 #[.string m, .string n, verV v] w fun e w' => e = .returned (.tuple #[.int .i64 (plV m n v), .int .i64 (plErr m n v)]) ∧ Ext w w' := by
  have HNM := Lib.hid (fun h => plErr_name (m := m) (n := n) (v := v) h)
  have HVR := Lib.hid (fun h => plErr_ver (m := m) (n := n) (v := v) h)
  have HPV := Lib.hid (show plV m n v = if plErr m n v = 0 then placeV m n v else 0 from rfl)
  have C1 := Lib.hid (fun W => IsName_any m W hm)
  have C2 := Lib.hid (fun W => IsName_any n W hn)
  have CC := Lib.hid (fun W (h : Ext w W) => show Calls Tryz.prog 17 #[verV v] W fun e w' => e = .returned (.int .i64 v.err) ∧ Ext W w' from Check_any v.a1 v.a2 v.a3 v.a W (hg.toGood.ext h) hv)
  have CP := Lib.hid (fun h0 W (h : Ext w W) => place_any m n v W (hg.ext h) hm hn hv h0)
  generalize plV m n v = RV at *
  generalize plErr m n v = RE at *
  generalize placeV m n v = PV at *
  generalize nameL (bs m) = Q1 at *
  generalize nameL (bs n) = Q2 at *
  generalize v.err = VE at *
  clear hg hm hn hv
  obtain ⟨v1, v2, v3, va⟩ := v
  dsimp only [verV] at *
  have b0 := Blk.new w 23 #[.int .i64 v1, .int .i64 v2, .int .i64 v3, .string va]
  have hx0 : Ext w (w.alloc (.cells #[.int .i64 v1, .int .i64 v2, .int .i64 v3, .string va] 23)) := (Ext.refl w).alloc _
  generalize hW : w.alloc (.cells #[.int .i64 v1, .int .i64 v2, .int .i64 v3, .string va] 23) = W0 at *
  have HW := Lib.hid hW
  clear hW
  have e0 := b0.cell
  go_enter Tryz.func48, Tryz.ntmps48
  go_wp2_with fail
  rw [HW.out]
  go_wp2_with fail
  refine (C1.out _).mono ?_
  rintro e w' ⟨rfl, rfl⟩
  cases Q1
  · obtain ⟨r1, r2⟩ := HNM.out rfl
    subst r1 r2
    go_wp2
    go_ret2
    exact ⟨rfl, hx0⟩
  go_wp2_with fail
  refine (C2.out _).mono ?_
  rintro e w' ⟨rfl, rfl⟩
  cases Q2
  · obtain ⟨r1, r2⟩ := HNM.out rfl
    subst r1 r2
    go_wp2
    go_ret2
    exact ⟨rfl, hx0⟩
  obtain rfl : RE = VE := HVR.out rfl
  go_wp2_with fail
  refine (CC.out _ hx0).mono ?_
  rintro e w1 ⟨rfl, hx1⟩
  have e1 := (b0.ext hx1).cell
  clear e0
  by_cases h0 : RE = 0
  · subst h0
    obtain rfl : RV = PV := by rw [HPV.out, if_pos rfl]
    go_wp2_with fail
    refine (CP.out (by trivial) _ (hx0.trans hx1)).mono ?_
    rintro e w2 ⟨rfl, hx2⟩
    go_wp2
    go_ret2
    exact ⟨rfl, (hx0.trans hx1).trans hx2⟩
  · obtain rfl : RV = 0 := by rw [HPV.out, if_neg h0]
    have hne : (RE != 0) = true := by rw [bne_iff_ne]; exact h0
    clear h0
    go_wp2
    go_ret2
    exact ⟨rfl, hx0.trans hx1⟩
theorem timeErr_any (t : Int) (w : World) : Calls Tryz.prog 51 #[.int .i64 t] w fun e w' => e = .returned (.int .i64 (timeErr t)) ∧ w = w' := by
  have CI := Lib.hid (show ∀ W, Calls Tryz.prog 58 #[.int .i64 t, .int .i64 0, .int .i64 1099511627776] W fun e w' => e = .returned (.bool (inI t 0 1099511627776)) ∧ W = w' from fun W => (In_any t 0 1099511627776 W).mono fun e w' h => ⟨h.1.trans (ret_bool (by simp [inI])), h.2⟩)
  have CW := Lib.hid (show ∀ W, Calls Tryz.prog 38 #[.bool (!inI t 0 1099511627776), .int .i64 3] W fun e w' => e = .returned (.int .i64 (timeErr t)) ∧ W = w' from fun W => (When_any (!inI t 0 1099511627776) 3 W).mono fun e w' h => ⟨h.1.trans (ret_int (by unfold timeErr; cases inI t 0 1099511627776 <;> rfl)), h.2⟩)
  generalize timeErr t = R at *
  generalize inI t 0 1099511627776 = Q at *
  have C2 : ∀ W, Calls Tryz.prog 118 #[.int .i64 t] W fun e w' => e = .returned (.int .i64 R) ∧ W = w' := fun w => by
    go_enter Tryz.func118, Tryz.ntmps118
    go_wp2_with fail
    refine (CI.out _).mono ?_
    rintro e w' ⟨rfl, rfl⟩
    go_wp2_with fail
    refine (CW.out _).mono ?_
    rintro e w' ⟨rfl, rfl⟩
    go_wp2
    go_ret
    exact ⟨rfl, rfl⟩
  have C3 := Lib.hid C2
  clear C2
  go_enter Tryz.func51, Tryz.ntmps51
  go_wp2_with fail
  refine (C3.out _).mono ?_
  rintro e w' ⟨rfl, rfl⟩
  go_wp2
  go_ret
  exact ⟨rfl, rfl⟩
theorem timed_ok {o : Of} {t : Int} (h : timedErr o t = 0) : ofErr o = 0 ∧ 0 ≤ t ∧ t ≤ 1099511627776 := by
  unfold timedErr at h
  rw [firstI_two] at h
  by_cases h0 : ofErr o = 0
  · rw [if_pos h0, timeErr] at h
    by_cases h1 : inI t 0 1099511627776 = true
    · exact ⟨h0, inI_iff.1 h1⟩
    · rw [if_neg h1] at h; cases h
  · rw [if_neg h0] at h; exact absurd h h0
set_option maxRecDepth 100000 in
set_option maxHeartbeats 4000000 in
theorem timed_any (o : Of) (A : Option Addr) (c : Nat) (k : Int) (n x : ByteArray) (A2 : Option Addr) (m c2 : Nat) (t : Int) (w : World) (hg : GoodN w) (hi : OfIn AnyB w o A k n x A2 m c2) (hs : SmallO o) :
    Calls Tryz.prog 116 #[ofV o A c k n x A2 m c2, .int .i64 t] w fun e w' => e = .returned (.int .i64 (timedErr o t)) ∧ Ext w w' := by
  have CF := Lib.hid (fun W (h : Ext w W) => offerFault_any o A c k n x A2 m c2 W (hg.ext h) (hi.ext h) hs)
  have CO := Lib.hid (fun W => outsideF_any t 0 1099511627776 W)
  have HT := Lib.hid (show timedErr o t = if ofErr o = 0 then (if inI t 0 1099511627776 = true then 0 else 3) else ofErr o from firstI_two _ _)
  generalize timedErr o t = R at *
  generalize ofErr o = E at *
  generalize inI t 0 1099511627776 = Q at *
  clear hg hi hs
  obtain ⟨on, ⟨o1, o2, o3, oa⟩, os, of_, ow, od, ob, ot, og, oh, ou, ok⟩ := o
  dsimp only [ofV] at *
  generalize of_.length = ol at *
  have b0 := Blk.new w 66 #[.string on, .int .i64 o1, .int .i64 o2, .int .i64 o3, .string oa, .string os, .slice A ol c, .bool ow, .int .i64 k, .string n, .string x, .slice A2 m c2, .int .i64 ob, .int .i64 ot, .int .i64 og, .bool oh, .bool ou, .bool ok]
  have hx0 : Ext w (w.alloc (.cells #[.string on, .int .i64 o1, .int .i64 o2, .int .i64 o3, .string oa, .string os, .slice A ol c, .bool ow, .int .i64 k, .string n, .string x, .slice A2 m c2, .int .i64 ob, .int .i64 ot, .int .i64 og, .bool oh, .bool ou, .bool ok] 66)) := (Ext.refl w).alloc _
  have LB := load_blk b0 rfl
  have l0 := b0.lt
  go_enter Tryz.func116, Tryz.ntmps116
  go_wp2_with (first | refine wpList_load_at rfl _ _ rfl _ rfl _ LB ?_)
  refine (CF.out _ hx0).mono ?_
  rintro e w1 ⟨rfl, hx1⟩
  clear LB l0
  by_cases h0 : E = 0
  · subst h0
    have HR := Lib.hid (show R = if Q = true then 0 else 3 from by rw [HT.out, if_pos rfl])
    go_wp2_with fail
    refine (CO.out _).mono ?_
    rintro e w' ⟨rfl, rfl⟩
    cases Q
    · go_wp2
      go_ret
      exact ⟨ret_int HR.out.symm, hx0.trans hx1⟩
    · go_wp2
      go_ret
      exact ⟨ret_int HR.out.symm, hx0.trans hx1⟩
  · obtain rfl : R = E := by rw [HT.out, if_neg h0]
    have hne : (R != 0) = true := by rw [bne_iff_ne]; exact h0
    clear h0
    go_wp2
    go_ret
    exact ⟨rfl, hx0.trans hx1⟩
def shareV (o : Of) (t : Int) : Int := if timedErr o t = 0 then shareL o t else 0
set_option maxRecDepth 100000 in
set_option maxHeartbeats 4000000 in
theorem Share_any (o : Of) (A : Option Addr) (c : Nat) (k : Int) (n x : ByteArray) (A2 : Option Addr) (m c2 : Nat) (t : Int) (w : World) (hg : GoodN w) (hi : OfIn AnyB w o A k n x A2 m c2) (hs : SmallO o) :
    Calls Tryz.prog 50 #[ofV o A c k n x A2 m c2, .int .i64 t] w fun e w' => e = .returned (.tuple #[.int .i64 (shareV o t), .int .i64 (timedErr o t)]) ∧ Ext w w' := by
  have CT := Lib.hid (fun W (h : Ext w W) => timed_any o A c k n x A2 m c2 t W (hg.ext h) (hi.ext h) hs)
  have CA := Lib.hid (fun W h => shareAt_any o A c k n x A2 m c2 t W (timed_ok (o := o) (t := t) h).1 (timed_ok h).2)
  have HV := Lib.hid (show shareV o t = if timedErr o t = 0 then shareL o t else 0 from rfl)
  generalize shareV o t = RV at *
  generalize timedErr o t = E at *
  generalize shareL o t = SL at *
  clear hg hi hs
  obtain ⟨on, ⟨o1, o2, o3, oa⟩, os, of_, ow, od, ob, ot, og, oh, ou, ok⟩ := o
  dsimp only [ofV] at *
  generalize of_.length = ol at *
  have b0 := Blk.new w 66 #[.string on, .int .i64 o1, .int .i64 o2, .int .i64 o3, .string oa, .string os, .slice A ol c, .bool ow, .int .i64 k, .string n, .string x, .slice A2 m c2, .int .i64 ob, .int .i64 ot, .int .i64 og, .bool oh, .bool ou, .bool ok]
  have hx0 : Ext w (w.alloc (.cells #[.string on, .int .i64 o1, .int .i64 o2, .int .i64 o3, .string oa, .string os, .slice A ol c, .bool ow, .int .i64 k, .string n, .string x, .slice A2 m c2, .int .i64 ob, .int .i64 ot, .int .i64 og, .bool oh, .bool ou, .bool ok] 66)) := (Ext.refl w).alloc _
  have LB := load_blk b0 rfl
  have l0 := b0.lt
  go_enter Tryz.func50, Tryz.ntmps50
  go_wp2_with (first | refine wpList_load_at rfl _ _ rfl _ rfl _ LB ?_)
  refine (CT.out _ hx0).mono ?_
  rintro e w1 ⟨rfl, hx1⟩
  have LB1 := load_blk (b0.ext hx1) rfl
  have l1 := (b0.ext hx1).lt
  clear LB l0
  by_cases h0 : E = 0
  · subst h0
    obtain rfl : RV = SL := by rw [HV.out, if_pos rfl]
    go_wp2_with (first | refine wpList_load_at rfl _ _ rfl _ rfl _ LB1 ?_)
    refine (CA.out _ (by trivial)).mono ?_
    rintro e w2 ⟨rfl, hx2⟩
    go_wp2
    go_ret2
    exact ⟨rfl, (hx0.trans hx1).trans hx2⟩
  · obtain rfl : RV = 0 := by rw [HV.out, if_neg h0]
    have hne : (E != 0) = true := by rw [bne_iff_ne]; exact h0
    clear h0
    go_wp2
    go_ret2
    exact ⟨rfl, hx0.trans hx1⟩
end Go.Proofs.YtmnafaaijglnfaaGreatDoor
