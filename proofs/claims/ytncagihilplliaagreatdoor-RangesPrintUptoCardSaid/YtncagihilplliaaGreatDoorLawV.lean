/- The law outlaw2.VersionsMatch: its walk. -/
import Derived.Test.YtncagihilplliaaGreatDoorRefE
import Derived.Test.YtncagihilplliaaGreatDoorRefF
import Derived.Test.YtncagihilplliaaGreatDoorTrip
import Derived.Laws.StructEq
namespace Go.Proofs.YtncagihilplliaaGreatDoor
open Go.RowKit

theorem one_check : checkV 1 0 0 [] = 0 := by decide
theorem one_text : printV 1 0 0 [] = [49, 46, 48, 46, 48] := by
  rw [printV, if_pos one_check, textL]
  have h1 : Lib.itoa 1 = [49] := by rw [itoa_dec (by decide), show (1 : Int).toNat = 1 from rfl, Lib.decDigits, dif_pos (by decide)]; rfl
  have h0 : Lib.itoa 0 = [48] := by rw [itoa_dec (by decide), show (0 : Int).toNat = 0 from rfl, Lib.decDigits, dif_pos (by decide)]; rfl
  rw [h1, h0]
  rfl
set_option maxHeartbeats 400000 in
theorem versions_any (w : World) (hg : GoodN w) : Calls Tryz.prog 22 #[] w fun e w' => e = .returned (.bool true) ∧ Ext w w' := by
  go_enter Tryz.func22, Tryz.ntmps22
  go_wp2_with fail
  refine (Print_any 1 0 0 ⟨#[]⟩ _ hg (by decide)).mono ?_
  rw [show bs ⟨#[]⟩ = ([] : Str) from rfl, one_text, one_check]
  rintro e w1 ⟨rfl, hx1⟩
  go_wp2
  go_ret
  exact ⟨rfl, hx1⟩
/-- the first error of two, as First gives it -/
theorem first_both (a1 a2 a3 b1 b2 b3 : Int) (a b : Str) : firstI [checkV a1 a2 a3 a, checkV b1 b2 b3 b] = bothV a1 a2 a3 a b1 b2 b3 b := rfl
theorem Next_nv {ma mi pa part x y z r : Int} {ea : ByteArray} {w : World} (h : nextV ma mi pa (bs ea) part = ((x, y, z), r)) (hg : Good w) (hs : ea.size ≤ 2097152) :
    Calls Tryz.prog 20 #[.agg #[.int .i64 ma, .int .i64 mi, .int .i64 pa, .string ea], .int .i64 part] w fun e w' => e = .returned (.tuple #[verVal x y z ⟨#[]⟩, .int .i64 r]) ∧ Ext w w' :=
  (Next_any ma mi pa part ea w hg hs).mono fun _ _ hp => by
    unfold NextPost at hp
    rw [h] at hp
    exact hp
theorem NextOf_nv {ma mi pa part x y z r : Int} {ea : ByteArray} {w : World} (h : nextV ma mi pa (bs ea) part = ((x, y, z), r)) (hg : Good w) (hs : ea.size ≤ 2097152) :
    Calls Tryz.prog 21 #[.agg #[.int .i64 ma, .int .i64 mi, .int .i64 pa, .string ea], .int .i64 part] w fun e w' => e = .returned (.tuple #[verVal x y z ⟨#[]⟩, .int .i64 r]) ∧ Ext w w' :=
  (NextOf_any ma mi pa part ea w hg hs).mono fun _ _ hp => by
    unfold NextPost at hp
    rw [h] at hp
    exact hp
theorem Parse_nv {l : Str} {x y z r : Int} {t s : ByteArray} {w : World} (h : parseV l = ((x, y, z, bs t), r)) (hl : bs s = l) (hg : GoodN w) (hs : s.size ≤ 2097152) :
    Calls Tryz.prog 32 #[.string s] w fun e w' => e = .returned (.tuple #[verVal x y z t, .int .i64 r]) ∧ Ext w w' :=
  (Parse_any s w hg hs).mono fun _ _ ⟨b, hp, hb, _, hx⟩ => by
    rw [hl, h] at hp hb
    obtain rfl := bs_inj hb
    exact ⟨hp, hx⟩
theorem Read_nv {l : Str} {x y z r : Int} {t s : ByteArray} {w : World} (h : parseV l = ((x, y, z, bs t), r)) (hl : bs s = l) (hg : GoodN w) (hs : s.size ≤ 2097152) :
    Calls Tryz.prog 33 #[.string s] w fun e w' => e = .returned (.tuple #[verVal x y z t, .int .i64 r]) ∧ Ext w w' :=
  (ReadVersion_any s w hg hs).mono fun _ _ ⟨b, hp, hb, _, hx⟩ => by
    rw [hl, h] at hp hb
    obtain rfl := bs_inj hb
    exact ⟨hp, hx⟩
theorem textL_len {ma mi pa : Int} {e : Str} (h : checkV ma mi pa e = 0) : (textL ma mi pa e).length ≤ 100 + e.length := by
  obtain ⟨⟨a1, a2⟩, ⟨b1, b2⟩, ⟨c1, c2⟩, _⟩ := checkV_ok h
  have la := Lib.itoa_length_le ma (by omega) (by omega)
  have li := Lib.itoa_length_le mi (by omega) (by omega)
  have lp := Lib.itoa_length_le pa (by omega) (by omega)
  unfold textL
  split <;> simp <;> omega
set_option maxHeartbeats 20000000 in
set_option maxRecDepth 100000 in
theorem VersionsMatch_any (a1 a2 a3 b1 b2 b3 part : Int) (a b s : ByteArray) (w : World) (hg : GoodN w) (ha : a.size ≤ 1048576) (hb : b.size ≤ 1048576) (hs : s.size ≤ 1048576) :
    Calls Tryz.prog 4 #[.agg #[.int .i64 a1, .int .i64 a2, .int .i64 a3, .string a], .agg #[.int .i64 b1, .int .i64 b2, .int .i64 b3, .string b], .int .i64 part, .string s] w
      fun e w' => e = .returned (.bool true) ∧ Ext w w' := by
  obtain ⟨x, y, z, r, hnv⟩ : ∃ x y z r, nextV a1 a2 a3 (bs a) part = ((x, y, z), r) := ⟨_, _, _, _, rfl⟩
  obtain ⟨px, py, pz, pt, pr, hpv⟩ : ∃ (x y z : Int) (t : ByteArray) (r : Int), parseV (bs s) = ((x, y, z, bs t), r) := ⟨_, _, _, ⟨(parseV (bs s)).1.2.2.2.toArray⟩, _, by rw [bs_mk]⟩
  have HNV := Lib.hid hnv
  have HPV := Lib.hid hpv
  clear hnv hpv
  go_enter Tryz.func4, Tryz.ntmps4
  go_wp2_with fail
  refine (VersionError_any _ _ [⟨a1, a2, a3, a⟩] _ (hg.toGood.ext (by repeat (first | with_reducible exact Ext.refl _ | with_reducible assumption | with_reducible apply Ext.drewN | with_reducible apply Ext.drew | with_reducible apply Ext.alloc | exact Ext.refl _ | assumption | apply Ext.drewN | apply Ext.drew | apply Ext.alloc))) ?_ ?_ (by simp)).mono ?_
  · exact VerS.one (by go_simp) (by go_simp) (by go_simp) (by go_simp)
  · intro v hv
    rw [List.mem_singleton] at hv
    subst hv
    show a.size ≤ 2097152
    omega
  rw [err_one]
  rintro e w1 ⟨rfl, hx1⟩
  have hA1 : Ver4 w1 w.heap.size a1 a2 a3 a := (Ver4.mk (by go_simp) (by go_simp) (by go_simp) (by go_simp) : Ver4 (((w.alloc _).alloc _).alloc _) w.heap.size a1 a2 a3 a).ext hx1
  have hB1 : Ver4 w1 (w.heap.size + 1) b1 b2 b3 b := (Ver4.mk (by go_simp) (by go_simp) (by go_simp) (by go_simp) : Ver4 (((w.alloc _).alloc _).alloc _) (w.heap.size + 1) b1 b2 b3 b).ext hx1
  have hx : Ext w w1 := Ext.trans (by repeat (first | with_reducible exact Ext.refl _ | with_reducible assumption | with_reducible apply Ext.drewN | with_reducible apply Ext.drew | with_reducible apply Ext.alloc | exact Ext.refl _ | assumption | apply Ext.drewN | apply Ext.drew | apply Ext.alloc)) hx1
  have c0 := hA1.c0; have c1 := hA1.c1; have c2 := hA1.c2; have c3 := hA1.c3
  have d0 := hB1.c0; have d1 := hB1.c1; have d2 := hB1.c2; have d3 := hB1.c3
  have lA := hA1.lt
  have lB := hB1.lt
  clear hx1
  go_wp2_with fail
  refine (VersionError_any _ _ [⟨b1, b2, b3, b⟩] _ (hg.ext (hx.trans (by repeat (first | with_reducible exact Ext.refl _ | with_reducible assumption | with_reducible apply Ext.drewN | with_reducible apply Ext.drew | with_reducible apply Ext.alloc | exact Ext.refl _ | assumption | apply Ext.drewN | apply Ext.drew | apply Ext.alloc)))).toGood ?_ ?_ (by simp)).mono ?_
  · exact VerS.one (by go_simp) (by go_simp) (by go_simp) (by go_simp)
  · intro v hv
    rw [List.mem_singleton] at hv
    subst hv
    show b.size ≤ 2097152
    omega
  rw [err_one]
  rintro e w2 ⟨rfl, hx2⟩
  have hy2 : Ext w1 w2 := Ext.trans (by repeat (first | with_reducible exact Ext.refl _ | with_reducible assumption | with_reducible apply Ext.drewN | with_reducible apply Ext.drew | with_reducible apply Ext.alloc | exact Ext.refl _ | assumption | apply Ext.drewN | apply Ext.drew | apply Ext.alloc)) hx2
  have hA2 := hA1.ext hy2
  have hB2 := hB1.ext hy2
  have hx : Ext w w2 := hx.trans hy2
  have lA := hA2.lt
  have lB := hB2.lt
  clear c0 c1 c2 c3 d0 d1 d2 d3
  have c0 := hA2.c0; have c1 := hA2.c1; have c2 := hA2.c2; have c3 := hA2.c3
  have d0 := hB2.c0; have d1 := hB2.c1; have d2 := hB2.c2; have d3 := hB2.c3
  go_wp2_with fail
  refine (First_any _ _ [checkV a1 a2 a3 (bs a), checkV b1 b2 b3 (bs b)] _ ?_ (by simp)).mono ?_
  · intro k hk
    rw [World.cell?_alloc_at _ _ _ _ rfl]
    match k, hk with
    | 0, _ => rfl
    | 1, _ => rfl
  rw [first_both]
  rintro e w' ⟨rfl, rfl⟩
  go_wp2_with fail
  refine (Print_any a1 a2 a3 a _ (hg.ext (hx.trans (by repeat (first | with_reducible exact Ext.refl _ | with_reducible assumption | with_reducible apply Ext.drewN | with_reducible apply Ext.drew | with_reducible apply Ext.alloc | exact Ext.refl _ | assumption | apply Ext.drewN | apply Ext.drew | apply Ext.alloc)))) (by omega)).mono ?_
  rintro e w3 ⟨rfl, hx3⟩
  have hy3 : Ext w2 w3 := Ext.trans (by repeat (first | with_reducible exact Ext.refl _ | with_reducible assumption | with_reducible apply Ext.drewN | with_reducible apply Ext.drew | with_reducible apply Ext.alloc | exact Ext.refl _ | assumption | apply Ext.drewN | apply Ext.drew | apply Ext.alloc)) hx3
  have hA3 := hA2.ext hy3
  have hB3 := hB2.ext hy3
  have hx : Ext w w3 := hx.trans hy3
  have lA := hA3.lt
  have lB := hB3.lt
  clear c0 c1 c2 c3 d0 d1 d2 d3
  have c0 := hA3.c0; have c1 := hA3.c1; have c2 := hA3.c2; have c3 := hA3.c3
  have d0 := hB3.c0; have d1 := hB3.c1; have d2 := hB3.c2; have d3 := hB3.c3
  go_wp2_with fail
  refine (Compare_any a1 a2 a3 b1 b2 b3 a b _ (hg.ext (hx.trans (by repeat (first | with_reducible exact Ext.refl _ | with_reducible assumption | with_reducible apply Ext.drewN | with_reducible apply Ext.drew | with_reducible apply Ext.alloc | exact Ext.refl _ | assumption | apply Ext.drewN | apply Ext.drew | apply Ext.alloc)))).toGood (by omega) (by omega)).mono ?_
  rintro e w4 ⟨rfl, hx4⟩
  have hy4 : Ext w3 w4 := Ext.trans (by repeat (first | with_reducible exact Ext.refl _ | with_reducible assumption | with_reducible apply Ext.drewN | with_reducible apply Ext.drew | with_reducible apply Ext.alloc | exact Ext.refl _ | assumption | apply Ext.drewN | apply Ext.drew | apply Ext.alloc)) hx4
  have hA4 := hA3.ext hy4
  have hB4 := hB3.ext hy4
  have hx : Ext w w4 := hx.trans hy4
  have lA := hA4.lt
  have lB := hB4.lt
  clear c0 c1 c2 c3 d0 d1 d2 d3
  have c0 := hA4.c0; have c1 := hA4.c1; have c2 := hA4.c2; have c3 := hA4.c3
  have d0 := hB4.c0; have d1 := hB4.c1; have d2 := hB4.c2; have d3 := hB4.c3
  go_wp2_with fail
  refine (Next_nv HNV.out (hg.ext (hx.trans (by repeat (first | with_reducible exact Ext.refl _ | with_reducible assumption | with_reducible apply Ext.drewN | with_reducible apply Ext.drew | with_reducible apply Ext.alloc | exact Ext.refl _ | assumption | apply Ext.drewN | apply Ext.drew | apply Ext.alloc)))).toGood (by omega)).mono ?_
  rintro e w5 ⟨rfl, hx5⟩
  have hy5 : Ext w4 w5 := Ext.trans (by repeat (first | with_reducible exact Ext.refl _ | with_reducible assumption | with_reducible apply Ext.drewN | with_reducible apply Ext.drew | with_reducible apply Ext.alloc | exact Ext.refl _ | assumption | apply Ext.drewN | apply Ext.drew | apply Ext.alloc)) hx5
  have hA5 := hA4.ext hy5
  have hB5 := hB4.ext hy5
  have hx : Ext w w5 := hx.trans hy5
  have lA := hA5.lt
  have lB := hB5.lt
  clear c0 c1 c2 c3 d0 d1 d2 d3
  have c0 := hA5.c0; have c1 := hA5.c1; have c2 := hA5.c2; have c3 := hA5.c3
  have d0 := hB5.c0; have d1 := hB5.c1; have d2 := hB5.c2; have d3 := hB5.c3
  go_wp2_with fail
  refine (NextOf_nv HNV.out (hg.ext (hx.trans (by repeat (first | with_reducible exact Ext.refl _ | with_reducible assumption | with_reducible apply Ext.drewN | with_reducible apply Ext.drew | with_reducible apply Ext.alloc | exact Ext.refl _ | assumption | apply Ext.drewN | apply Ext.drew | apply Ext.alloc)))).toGood (by omega)).mono ?_
  rintro e w6 ⟨rfl, hx6⟩
  have n1 := (Blk.new w5 35 #[.int .i64 x, .int .i64 y, .int .i64 z, .string ⟨#[]⟩]).ext hx6
  have hy6 : Ext w5 w6 := Ext.trans (by repeat (first | with_reducible exact Ext.refl _ | with_reducible assumption | with_reducible apply Ext.drewN | with_reducible apply Ext.drew | with_reducible apply Ext.alloc | exact Ext.refl _ | assumption | apply Ext.drewN | apply Ext.drew | apply Ext.alloc)) hx6
  have hA6 := hA5.ext hy6
  have hB6 := hB5.ext hy6
  have hx : Ext w w6 := hx.trans hy6
  have lA := hA6.lt
  have lB := hB6.lt
  clear c0 c1 c2 c3 d0 d1 d2 d3
  have c0 := hA6.c0; have c1 := hA6.c1; have c2 := hA6.c2; have c3 := hA6.c3
  have d0 := hB6.c0; have d1 := hB6.c1; have d2 := hB6.c2; have d3 := hB6.c3
  go_wp2_with fail
  refine (versions_any _ (hg.ext (hx.trans (by repeat (first | with_reducible exact Ext.refl _ | with_reducible assumption | with_reducible apply Ext.drewN | with_reducible apply Ext.drew | with_reducible apply Ext.alloc | exact Ext.refl _ | assumption | apply Ext.drewN | apply Ext.drew | apply Ext.alloc))))).mono ?_
  rintro e w7 ⟨rfl, hx7⟩
  have n2 := (Blk.new w6 35 #[.int .i64 x, .int .i64 y, .int .i64 z, .string ⟨#[]⟩]).ext hx7
  have n1 := (n1.alloc _).ext hx7
  have hy7 : Ext w6 w7 := Ext.trans (by repeat (first | with_reducible exact Ext.refl _ | with_reducible assumption | with_reducible apply Ext.drewN | with_reducible apply Ext.drew | with_reducible apply Ext.alloc | exact Ext.refl _ | assumption | apply Ext.drewN | apply Ext.drew | apply Ext.alloc)) hx7
  have hA7 := hA6.ext hy7
  have hB7 := hB6.ext hy7
  have hx : Ext w w7 := hx.trans hy7
  have lA := hA7.lt
  have lB := hB7.lt
  clear c0 c1 c2 c3 d0 d1 d2 d3
  have c0 := hA7.c0; have c1 := hA7.c1; have c2 := hA7.c2; have c3 := hA7.c3
  have d0 := hB7.c0; have d1 := hB7.c1; have d2 := hB7.c2; have d3 := hB7.c3
  go_wp2_with fail
  refine (Check_any a1 a2 a3 a _ (hg.ext (hx.trans (by repeat (first | with_reducible exact Ext.refl _ | with_reducible assumption | with_reducible apply Ext.drewN | with_reducible apply Ext.drew | with_reducible apply Ext.alloc | exact Ext.refl _ | assumption | apply Ext.drewN | apply Ext.drew | apply Ext.alloc)))).toGood (by omega)).mono ?_
  rintro e w8 ⟨rfl, hx8⟩
  have n2 := n2.ext hx8
  have n1 := n1.ext hx8
  have hy8 : Ext w7 w8 := Ext.trans (by repeat (first | with_reducible exact Ext.refl _ | with_reducible assumption | with_reducible apply Ext.drewN | with_reducible apply Ext.drew | with_reducible apply Ext.alloc | exact Ext.refl _ | assumption | apply Ext.drewN | apply Ext.drew | apply Ext.alloc)) hx8
  have hA8 := hA7.ext hy8
  have hB8 := hB7.ext hy8
  have hx : Ext w w8 := hx.trans hy8
  have lA := hA8.lt
  have lB := hB8.lt
  clear c0 c1 c2 c3 d0 d1 d2 d3
  have c0 := hA8.c0; have c1 := hA8.c1; have c2 := hA8.c2; have c3 := hA8.c3
  have d0 := hB8.c0; have d1 := hB8.c1; have d2 := hB8.c2; have d3 := hB8.c3
  have m1 := n1.cell
  have m2 := n2.cell
  go_wp2_with fail
  refine (IsName_any s _ (by omega)).mono ?_
  rintro e w' ⟨rfl, rfl⟩
  go_wp2_with fail
  refine (NameOf_any s _ (by omega)).mono ?_
  rintro e w9 ⟨rfl, hx9⟩
  have hy9 : Ext w8 w9 := Ext.trans (by repeat (first | with_reducible exact Ext.refl _ | with_reducible assumption | with_reducible apply Ext.drewN | with_reducible apply Ext.drew | with_reducible apply Ext.alloc | exact Ext.refl _ | assumption | apply Ext.drewN | apply Ext.drew | apply Ext.alloc)) hx9
  have hA9 := hA8.ext hy9
  have hB9 := hB8.ext hy9
  have hx : Ext w w9 := hx.trans hy9
  have lA := hA9.lt
  have lB := hB9.lt
  clear c0 c1 c2 c3 d0 d1 d2 d3
  have c0 := hA9.c0; have c1 := hA9.c1; have c2 := hA9.c2; have c3 := hA9.c3
  have d0 := hB9.c0; have d1 := hB9.c1; have d2 := hB9.c2; have d3 := hB9.c3
  clear m1 m2 n1 n2
  go_wp2_with fail
  refine (IsPath_any s _ (hg.ext (hx.trans (by repeat (first | with_reducible exact Ext.refl _ | with_reducible assumption | with_reducible apply Ext.drewN | with_reducible apply Ext.drew | with_reducible apply Ext.alloc | exact Ext.refl _ | assumption | apply Ext.drewN | apply Ext.drew | apply Ext.alloc)))).toGood (by omega)).mono ?_
  rintro e w10 ⟨rfl, hx10⟩
  have hy10 : Ext w9 w10 := Ext.trans (by repeat (first | with_reducible exact Ext.refl _ | with_reducible assumption | with_reducible apply Ext.drewN | with_reducible apply Ext.drew | with_reducible apply Ext.alloc | exact Ext.refl _ | assumption | apply Ext.drewN | apply Ext.drew | apply Ext.alloc)) hx10
  have hA10 := hA9.ext hy10
  have hB10 := hB9.ext hy10
  have hx : Ext w w10 := hx.trans hy10
  have lA := hA10.lt
  have lB := hB10.lt
  clear c0 c1 c2 c3 d0 d1 d2 d3
  have c0 := hA10.c0; have c1 := hA10.c1; have c2 := hA10.c2; have c3 := hA10.c3
  have d0 := hB10.c0; have d1 := hB10.c1; have d2 := hB10.c2; have d3 := hB10.c3
  go_wp2_with fail
  refine (PathOf_any s _ (hg.ext (hx.trans (by repeat (first | with_reducible exact Ext.refl _ | with_reducible assumption | with_reducible apply Ext.drewN | with_reducible apply Ext.drew | with_reducible apply Ext.alloc | exact Ext.refl _ | assumption | apply Ext.drewN | apply Ext.drew | apply Ext.alloc)))).toGood (by omega)).mono ?_
  rintro e w11 ⟨rfl, hx11⟩
  have hy11 : Ext w10 w11 := Ext.trans (by repeat (first | with_reducible exact Ext.refl _ | with_reducible assumption | with_reducible apply Ext.drewN | with_reducible apply Ext.drew | with_reducible apply Ext.alloc | exact Ext.refl _ | assumption | apply Ext.drewN | apply Ext.drew | apply Ext.alloc)) hx11
  have hA11 := hA10.ext hy11
  have hB11 := hB10.ext hy11
  have hx : Ext w w11 := hx.trans hy11
  have lA := hA11.lt
  have lB := hB11.lt
  clear c0 c1 c2 c3 d0 d1 d2 d3
  have c0 := hA11.c0; have c1 := hA11.c1; have c2 := hA11.c2; have c3 := hA11.c3
  have d0 := hB11.c0; have d1 := hB11.c1; have d2 := hB11.c2; have d3 := hB11.c3
  go_wp2_with fail
  refine (IsValue_any s _ (by omega)).mono ?_
  rintro e w' ⟨rfl, rfl⟩
  go_wp2_with fail
  refine (ValueOf_any s _ (by omega)).mono ?_
  rintro e w' ⟨rfl, rfl⟩
  by_cases h0 : checkV a1 a2 a3 (bs a) = 0
  rotate_left
  · have hb0 := (both_a (b1 := b1) (b2 := b2) (b3 := b3) (b := bs b) h0)
    have hp0 : printV a1 a2 a3 (bs a) = [] := by rw [printV, if_neg h0]
    rw [hb0.1, hb0.2, hp0]
    have k1 : (checkV a1 a2 a3 (bs a) != 0) = true := by rw [bne_iff_ne]; exact h0
    have k2 : (checkV a1 a2 a3 (bs a) == 0) = false := by rw [beq_eq_false_iff_ne]; exact h0
    clear h0 hb0 hp0
    go_wp2_with fail
    refine (Parse_nv HPV.out rfl (hg.ext (hx.trans (by repeat (first | with_reducible exact Ext.refl _ | with_reducible assumption | with_reducible apply Ext.drewN | with_reducible apply Ext.drew | with_reducible apply Ext.alloc | exact Ext.refl _ | assumption | apply Ext.drewN | apply Ext.drew | apply Ext.alloc)))) (by omega)).mono ?_
    rintro e w12 ⟨rfl, hx12⟩
    have hy12 : Ext w11 w12 := Ext.trans (by repeat (first | with_reducible exact Ext.refl _ | with_reducible assumption | with_reducible apply Ext.drewN | with_reducible apply Ext.drew | with_reducible apply Ext.alloc | exact Ext.refl _ | assumption | apply Ext.drewN | apply Ext.drew | apply Ext.alloc)) hx12
    have hA12 := hA11.ext hy12
    have hB12 := hB11.ext hy12
    have hx : Ext w w12 := hx.trans hy12; have z12 := hx.size
    have lA := hA12.lt
    have lB := hB12.lt
    clear c0 c1 c2 c3 d0 d1 d2 d3
    have c0 := hA12.c0; have c1 := hA12.c1; have c2 := hA12.c2; have c3 := hA12.c3
    have d0 := hB12.c0; have d1 := hB12.c1; have d2 := hB12.c2; have d3 := hB12.c3
    go_wp2_with fail
    refine (Read_nv HPV.out rfl (hg.ext (hx.trans (by repeat (first | with_reducible exact Ext.refl _ | with_reducible assumption | with_reducible apply Ext.drewN | with_reducible apply Ext.drew | with_reducible apply Ext.alloc | exact Ext.refl _ | assumption | apply Ext.drewN | apply Ext.drew | apply Ext.alloc)))) (by omega)).mono ?_
    rintro e w13 ⟨rfl, hx13⟩
    have n1 := (Blk.new w12 35 #[.int .i64 px, .int .i64 py, .int .i64 pz, .string pt]).ext hx13
    have hy13 : Ext w12 w13 := Ext.trans (by repeat (first | with_reducible exact Ext.refl _ | with_reducible assumption | with_reducible apply Ext.drewN | with_reducible apply Ext.drew | with_reducible apply Ext.alloc | exact Ext.refl _ | assumption | apply Ext.drewN | apply Ext.drew | apply Ext.alloc)) hx13
    have hA13 := hA12.ext hy13
    have hB13 := hB12.ext hy13
    have hx : Ext w w13 := hx.trans hy13
    have lA := hA13.lt
    have lB := hB13.lt
    clear c0 c1 c2 c3 d0 d1 d2 d3
    have c0 := hA13.c0; have c1 := hA13.c1; have c2 := hA13.c2; have c3 := hA13.c3
    have d0 := hB13.c0; have d1 := hB13.c1; have d2 := hB13.c2; have d3 := hB13.c3
    have m1 := n1.cell
    have f1 := n1.free
    have l1 := n1.lt
    go_wp2
    go_ret
    exact ⟨rfl, hx.trans (by repeat (first | with_reducible exact Ext.refl _ | with_reducible assumption | with_reducible apply Ext.drewN | with_reducible apply Ext.drew | with_reducible apply Ext.alloc | ((with_reducible refine Ext.setCell ?_ ?_ _); rotate_left; (first | (dsimp only; omega) | (simp; omega) | skip)) | exact Ext.refl _ | assumption | apply Ext.drewN | apply Ext.drew | apply Ext.alloc | refine Ext.setCell ?_ (by first | (dsimp only; omega) | (simp; omega)) _))⟩
  have hb0 : bothV a1 a2 a3 (bs a) b1 b2 b3 (bs b) = checkV b1 b2 b3 (bs b) := by
    by_cases h1 : checkV b1 b2 b3 (bs b) = 0
    · rw [(both_0 h0 h1).1, h1]
    · exact (both_b h0 h1).1
  have hp0 : printV a1 a2 a3 (bs a) = textL a1 a2 a3 (bs a) := by rw [printV, if_pos h0]
  have H0 := Lib.hid h0
  obtain ⟨q1, q2, q3, q4⟩ := checkV_ok h0
  obtain ⟨q1, q1'⟩ := q1
  obtain ⟨q2, q2'⟩ := q2
  obtain ⟨q3, q3'⟩ := q3
  rw [hb0, hp0, h0]
  clear h0 hb0 hp0 q4
  by_cases h1 : checkV b1 b2 b3 (bs b) = 0
  · have hc := (both_0 H0.out h1).2
    have H1 := Lib.hid h1
    rw [h1, hc]
    clear h1 hc
    go_wp2_with fail
    refine (VersionText_any a1 a2 a3 a _ (hg.ext (hx.trans (by repeat (first | with_reducible exact Ext.refl _ | with_reducible assumption | with_reducible apply Ext.drewN | with_reducible apply Ext.drew | with_reducible apply Ext.alloc | exact Ext.refl _ | assumption | apply Ext.drewN | apply Ext.drew | apply Ext.alloc)))) (by omega) q1 q1' q2 q2' q3 q3').mono ?_
    rintro e w16 ⟨rfl, hx16⟩
    have hy16 : Ext w11 w16 := Ext.trans (by repeat (first | with_reducible exact Ext.refl _ | with_reducible assumption | with_reducible apply Ext.drewN | with_reducible apply Ext.drew | with_reducible apply Ext.alloc | exact Ext.refl _ | assumption | apply Ext.drewN | apply Ext.drew | apply Ext.alloc)) hx16
    have hA16 := hA11.ext hy16
    have hB16 := hB11.ext hy16
    have hx : Ext w w16 := hx.trans hy16
    have lA := hA16.lt
    have lB := hB16.lt
    clear c0 c1 c2 c3 d0 d1 d2 d3
    have c0 := hA16.c0; have c1 := hA16.c1; have c2 := hA16.c2; have c3 := hA16.c3
    have d0 := hB16.c0; have d1 := hB16.c1; have d2 := hB16.c2; have d3 := hB16.c3
    go_wp2_with fail
    refine (CompareOf_any a1 a2 a3 b1 b2 b3 a b _ (hg.ext (hx.trans (by repeat (first | with_reducible exact Ext.refl _ | with_reducible assumption | with_reducible apply Ext.drewN | with_reducible apply Ext.drew | with_reducible apply Ext.alloc | exact Ext.refl _ | assumption | apply Ext.drewN | apply Ext.drew | apply Ext.alloc)))) (by omega) (by omega) H0.out H1.out).mono ?_
    rintro e w17 ⟨rfl, hx17⟩
    have hy17 : Ext w16 w17 := Ext.trans (by repeat (first | with_reducible exact Ext.refl _ | with_reducible assumption | with_reducible apply Ext.drewN | with_reducible apply Ext.drew | with_reducible apply Ext.alloc | exact Ext.refl _ | assumption | apply Ext.drewN | apply Ext.drew | apply Ext.alloc)) hx17
    have hA17 := hA16.ext hy17
    have hB17 := hB16.ext hy17
    have hx : Ext w w17 := hx.trans hy17
    have lA := hA17.lt
    have lB := hB17.lt
    clear c0 c1 c2 c3 d0 d1 d2 d3
    have c0 := hA17.c0; have c1 := hA17.c1; have c2 := hA17.c2; have c3 := hA17.c3
    have d0 := hB17.c0; have d1 := hB17.c1; have d2 := hB17.c2; have d3 := hB17.c3
    go_wp2_with fail
    refine (Parse_nv HPV.out rfl (hg.ext (hx.trans (by repeat (first | with_reducible exact Ext.refl _ | with_reducible assumption | with_reducible apply Ext.drewN | with_reducible apply Ext.drew | with_reducible apply Ext.alloc | exact Ext.refl _ | assumption | apply Ext.drewN | apply Ext.drew | apply Ext.alloc)))) (by omega)).mono ?_
    rintro e w12 ⟨rfl, hx12⟩
    have hy12 : Ext w17 w12 := Ext.trans (by repeat (first | with_reducible exact Ext.refl _ | with_reducible assumption | with_reducible apply Ext.drewN | with_reducible apply Ext.drew | with_reducible apply Ext.alloc | exact Ext.refl _ | assumption | apply Ext.drewN | apply Ext.drew | apply Ext.alloc)) hx12
    have hA12 := hA17.ext hy12
    have hB12 := hB17.ext hy12
    have hx : Ext w w12 := hx.trans hy12; have z12 := hx.size
    have lA := hA12.lt
    have lB := hB12.lt
    clear c0 c1 c2 c3 d0 d1 d2 d3
    have c0 := hA12.c0; have c1 := hA12.c1; have c2 := hA12.c2; have c3 := hA12.c3
    have d0 := hB12.c0; have d1 := hB12.c1; have d2 := hB12.c2; have d3 := hB12.c3
    go_wp2_with fail
    refine (Read_nv HPV.out rfl (hg.ext (hx.trans (by repeat (first | with_reducible exact Ext.refl _ | with_reducible assumption | with_reducible apply Ext.drewN | with_reducible apply Ext.drew | with_reducible apply Ext.alloc | exact Ext.refl _ | assumption | apply Ext.drewN | apply Ext.drew | apply Ext.alloc)))) (by omega)).mono ?_
    rintro e w13 ⟨rfl, hx13⟩
    have n1 := (Blk.new w12 35 #[.int .i64 px, .int .i64 py, .int .i64 pz, .string pt]).ext hx13
    have hy13 : Ext w12 w13 := Ext.trans (by repeat (first | with_reducible exact Ext.refl _ | with_reducible assumption | with_reducible apply Ext.drewN | with_reducible apply Ext.drew | with_reducible apply Ext.alloc | exact Ext.refl _ | assumption | apply Ext.drewN | apply Ext.drew | apply Ext.alloc)) hx13
    have hA13 := hA12.ext hy13
    have hB13 := hB12.ext hy13
    have hx : Ext w w13 := hx.trans hy13
    have lA := hA13.lt
    have lB := hB13.lt
    clear c0 c1 c2 c3 d0 d1 d2 d3
    have c0 := hA13.c0; have c1 := hA13.c1; have c2 := hA13.c2; have c3 := hA13.c3
    have d0 := hB13.c0; have d1 := hB13.c1; have d2 := hB13.c2; have d3 := hB13.c3
    have m1 := n1.cell
    have f1 := n1.free
    have l1 := n1.lt
    go_wp2_with fail
    refine (Parse_nv (parse_text H0.out) (bs_mk _) (hg.ext (hx.trans (by repeat (first | with_reducible exact Ext.refl _ | with_reducible assumption | with_reducible apply Ext.drewN | with_reducible apply Ext.drew | with_reducible apply Ext.alloc | exact Ext.refl _ | assumption | apply Ext.drewN | apply Ext.drew | apply Ext.alloc)))) (by rw [← bs_length, bs_mk]; have := textL_len H0.out; rw [bs_length] at this; omega)).mono ?_
    rintro e w14 ⟨rfl, hx14⟩
    have n1 := (n1.alloc _).ext hx14
    clear m1 f1 l1
    have m1 := n1.cell
    have f1 := n1.free
    have l1 := n1.lt
    have hy14 : Ext w13 w14 := Ext.trans (by repeat (first | with_reducible exact Ext.refl _ | with_reducible assumption | with_reducible apply Ext.drewN | with_reducible apply Ext.drew | with_reducible apply Ext.alloc | exact Ext.refl _ | assumption | apply Ext.drewN | apply Ext.drew | apply Ext.alloc)) hx14
    have hA14 := hA13.ext hy14
    have hB14 := hB13.ext hy14
    have hx : Ext w w14 := hx.trans hy14
    have lA := hA14.lt
    have lB := hB14.lt
    clear c0 c1 c2 c3 d0 d1 d2 d3
    have c0 := hA14.c0; have c1 := hA14.c1; have c2 := hA14.c2; have c3 := hA14.c3
    have d0 := hB14.c0; have d1 := hB14.c1; have d2 := hB14.c2; have d3 := hB14.c3
    go_wp2
    go_ret
    exact ⟨rfl, (by repeat (first | with_reducible exact Ext.refl _ | with_reducible assumption | with_reducible apply Ext.drewN | with_reducible apply Ext.drew | with_reducible apply Ext.alloc | ((with_reducible refine Ext.setCell ?_ ?_ _); rotate_left; (first | (dsimp only; omega) | (simp; omega) | skip)) | exact Ext.refl _ | assumption | apply Ext.drewN | apply Ext.drew | apply Ext.alloc | refine Ext.setCell ?_ (by first | (dsimp only; omega) | (simp; omega)) _))⟩
  · have hc := (both_b H0.out h1).2
    have k1 : (checkV b1 b2 b3 (bs b) != 0) = true := by rw [bne_iff_ne]; exact h1
    have k2 : (checkV b1 b2 b3 (bs b) == 0) = false := by rw [beq_eq_false_iff_ne]; exact h1
    rw [hc]
    clear h1 hc
    go_wp2_with fail
    refine (VersionText_any a1 a2 a3 a _ (hg.ext (hx.trans (by repeat (first | with_reducible exact Ext.refl _ | with_reducible assumption | with_reducible apply Ext.drewN | with_reducible apply Ext.drew | with_reducible apply Ext.alloc | exact Ext.refl _ | assumption | apply Ext.drewN | apply Ext.drew | apply Ext.alloc)))) (by omega) q1 q1' q2 q2' q3 q3').mono ?_
    rintro e w16 ⟨rfl, hx16⟩
    have hy16 : Ext w11 w16 := Ext.trans (by repeat (first | with_reducible exact Ext.refl _ | with_reducible assumption | with_reducible apply Ext.drewN | with_reducible apply Ext.drew | with_reducible apply Ext.alloc | exact Ext.refl _ | assumption | apply Ext.drewN | apply Ext.drew | apply Ext.alloc)) hx16
    have hA16 := hA11.ext hy16
    have hB16 := hB11.ext hy16
    have hx : Ext w w16 := hx.trans hy16
    have lA := hA16.lt
    have lB := hB16.lt
    clear c0 c1 c2 c3 d0 d1 d2 d3
    have c0 := hA16.c0; have c1 := hA16.c1; have c2 := hA16.c2; have c3 := hA16.c3
    have d0 := hB16.c0; have d1 := hB16.c1; have d2 := hB16.c2; have d3 := hB16.c3
    go_wp2_with fail
    refine (Parse_nv HPV.out rfl (hg.ext (hx.trans (by repeat (first | with_reducible exact Ext.refl _ | with_reducible assumption | with_reducible apply Ext.drewN | with_reducible apply Ext.drew | with_reducible apply Ext.alloc | exact Ext.refl _ | assumption | apply Ext.drewN | apply Ext.drew | apply Ext.alloc)))) (by omega)).mono ?_
    rintro e w12 ⟨rfl, hx12⟩
    have hy12 : Ext w16 w12 := Ext.trans (by repeat (first | with_reducible exact Ext.refl _ | with_reducible assumption | with_reducible apply Ext.drewN | with_reducible apply Ext.drew | with_reducible apply Ext.alloc | exact Ext.refl _ | assumption | apply Ext.drewN | apply Ext.drew | apply Ext.alloc)) hx12
    have hA12 := hA16.ext hy12
    have hB12 := hB16.ext hy12
    have hx : Ext w w12 := hx.trans hy12; have z12 := hx.size
    have lA := hA12.lt
    have lB := hB12.lt
    clear c0 c1 c2 c3 d0 d1 d2 d3
    have c0 := hA12.c0; have c1 := hA12.c1; have c2 := hA12.c2; have c3 := hA12.c3
    have d0 := hB12.c0; have d1 := hB12.c1; have d2 := hB12.c2; have d3 := hB12.c3
    go_wp2_with fail
    refine (Read_nv HPV.out rfl (hg.ext (hx.trans (by repeat (first | with_reducible exact Ext.refl _ | with_reducible assumption | with_reducible apply Ext.drewN | with_reducible apply Ext.drew | with_reducible apply Ext.alloc | exact Ext.refl _ | assumption | apply Ext.drewN | apply Ext.drew | apply Ext.alloc)))) (by omega)).mono ?_
    rintro e w13 ⟨rfl, hx13⟩
    have n1 := (Blk.new w12 35 #[.int .i64 px, .int .i64 py, .int .i64 pz, .string pt]).ext hx13
    have hy13 : Ext w12 w13 := Ext.trans (by repeat (first | with_reducible exact Ext.refl _ | with_reducible assumption | with_reducible apply Ext.drewN | with_reducible apply Ext.drew | with_reducible apply Ext.alloc | exact Ext.refl _ | assumption | apply Ext.drewN | apply Ext.drew | apply Ext.alloc)) hx13
    have hA13 := hA12.ext hy13
    have hB13 := hB12.ext hy13
    have hx : Ext w w13 := hx.trans hy13
    have lA := hA13.lt
    have lB := hB13.lt
    clear c0 c1 c2 c3 d0 d1 d2 d3
    have c0 := hA13.c0; have c1 := hA13.c1; have c2 := hA13.c2; have c3 := hA13.c3
    have d0 := hB13.c0; have d1 := hB13.c1; have d2 := hB13.c2; have d3 := hB13.c3
    have m1 := n1.cell
    have f1 := n1.free
    have l1 := n1.lt
    go_wp2_with fail
    refine (Parse_nv (parse_text H0.out) (bs_mk _) (hg.ext (hx.trans (by repeat (first | with_reducible exact Ext.refl _ | with_reducible assumption | with_reducible apply Ext.drewN | with_reducible apply Ext.drew | with_reducible apply Ext.alloc | exact Ext.refl _ | assumption | apply Ext.drewN | apply Ext.drew | apply Ext.alloc)))) (by rw [← bs_length, bs_mk]; have := textL_len H0.out; rw [bs_length] at this; omega)).mono ?_
    rintro e w14 ⟨rfl, hx14⟩
    have n1 := (n1.alloc _).ext hx14
    clear m1 f1 l1
    have m1 := n1.cell
    have f1 := n1.free
    have l1 := n1.lt
    have hy14 : Ext w13 w14 := Ext.trans (by repeat (first | with_reducible exact Ext.refl _ | with_reducible assumption | with_reducible apply Ext.drewN | with_reducible apply Ext.drew | with_reducible apply Ext.alloc | exact Ext.refl _ | assumption | apply Ext.drewN | apply Ext.drew | apply Ext.alloc)) hx14
    have hA14 := hA13.ext hy14
    have hB14 := hB13.ext hy14
    have hx : Ext w w14 := hx.trans hy14
    have lA := hA14.lt
    have lB := hB14.lt
    clear c0 c1 c2 c3 d0 d1 d2 d3
    have c0 := hA14.c0; have c1 := hA14.c1; have c2 := hA14.c2; have c3 := hA14.c3
    have d0 := hB14.c0; have d1 := hB14.c1; have d2 := hB14.c2; have d3 := hB14.c3
    go_wp2
    go_ret
    exact ⟨rfl, (by repeat (first | with_reducible exact Ext.refl _ | with_reducible assumption | with_reducible apply Ext.drewN | with_reducible apply Ext.drew | with_reducible apply Ext.alloc | ((with_reducible refine Ext.setCell ?_ ?_ _); rotate_left; (first | (dsimp only; omega) | (simp; omega) | skip)) | exact Ext.refl _ | assumption | apply Ext.drewN | apply Ext.drew | apply Ext.alloc | refine Ext.setCell ?_ (by first | (dsimp only; omega) | (simp; omega)) _))⟩
end Go.Proofs.YtncagihilplliaaGreatDoor
