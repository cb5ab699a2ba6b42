/- Contracts of ver.behind, spanOf. Contract of ver.ParseRange. -/
import Derived.Test.YtghhjlcbcojcnaaGreatDoorMt10
import Derived.Deep.LoopGhost

namespace Go.Proofs.YtghhjlcbcojcnaaGreatDoor
open Go.RowKit

def BehindPost (v : V4) (sg : UInt8) (w : World) (E : Ending) (w' : World) : Prop :=
  ∃ u r, behindL v sg = (u, r) ∧ E = .returned (.tuple #[verV u, .int .i64 r]) ∧ u.a.size ≤ v.a.size + 2 ∧ Ext w w'
theorem u8_true {c : UInt8} (n : Nat) (h : n < 256) (e : c = UInt8.ofNat n) : (((c.toNat : Nat) : Int) == (n : Int)) = true := by rw [cast_beq c n h, e]; simp
theorem u8_false {c : UInt8} (n : Nat) (h : n < 256) (e : ¬ c = UInt8.ofNat n) : (((c.toNat : Nat) : Int) == (n : Int)) = false := by rw [cast_beq c n h]; simpa using e
theorem behind_early {v : V4} {sg : UInt8} (h : sg = 61) (h2 : ¬ bs v.a = []) : behindL v sg = (early0 v (bs v.a ++ [46, 48]), (early0 v (bs v.a ++ [46, 48])).err) := by
  rw [behindL, if_pos h, if_pos h2]
theorem behind_two {v : V4} {sg : UInt8} (h : sg = 61) (h2 : bs v.a = []) : behindL v sg = (early0 (nV v 2).1 [48], (nV v 2).2) := by
  rw [behindL, if_pos h, if_neg (by simpa using h2)]
theorem behind_zero {v : V4} {sg : UInt8} (h : ¬ sg = 61) (h2 : sg = 94) (h3 : ¬ v.a1 = 0) : behindL v sg = nV v 0 := by
  rw [behindL, if_neg h, if_pos ⟨h2, h3⟩]
theorem behind_one {v : V4} {sg : UInt8} (h : ¬ sg = 61) (h2 : ¬ (sg = 94 ∧ ¬ v.a1 = 0)) : behindL v sg = nV v 1 := by
  rw [behindL, if_neg h, if_neg h2]
set_option maxHeartbeats 8000000 in
set_option maxRecDepth 100000 in
theorem behind_any (v : V4) (sg : UInt8) (w : World) (hg : Good w) (hs : v.a.size ≤ 1000000) :
    Calls Tryz.prog 176 #[verV v, .int .u8 sg.toNat] w (BehindPost v sg w) := by
  have cN : ∀ (part : Int) w', Ext w w' → Calls Tryz.prog 25 #[verV v, .int .i64 part] w' fun e w'' => ∃ x y z r, nV v part = (⟨x, y, z, ⟨#[]⟩⟩, r) ∧ e = .returned (.tuple #[verV ⟨x, y, z, ⟨#[]⟩⟩, .int .i64 r]) ∧ Ext w' w'' :=
    fun part w' hx => Next_x v part w' (hg.ext hx) (by omega)
  obtain ⟨a1, a2, a3, a⟩ := v
  dsimp only [verV] at cN hs
  have CN := Lib.hid cN
  clear cN
  dsimp only [verV]
  go_enter Tryz.func176, Tryz.ntmps176
  by_cases h61 : sg = 61
  · have e61 : (((sg.toNat : Nat) : Int) == 61) = true := u8_true 61 (by decide) h61
    rcases Nat.eq_zero_or_pos a.size with hz | hz
    · have hi := emp_bool hz
      have HB := Lib.hid (behind_two (v := ⟨a1, a2, a3, a⟩) h61 (bs_nil hz))
      clear h61
      go_wp2_with fail
      refine (CN.out 2 _ (by repeat (first | with_reducible exact Ext.refl _ | with_reducible assumption | with_reducible apply Ext.drewN | with_reducible apply Ext.drew | with_reducible apply Ext.alloc | exact Ext.refl _ | assumption | apply Ext.drewN | apply Ext.drew | apply Ext.alloc))).mono ?_
      rintro e w1 ⟨x, y, z, r, hn, rfl, hx1⟩
      have HNV := Lib.hid hn
      clear hn
      have hx : Ext w w1 := Ext.trans (by repeat (first | with_reducible exact Ext.refl _ | with_reducible assumption | with_reducible apply Ext.drewN | with_reducible apply Ext.drew | with_reducible apply Ext.alloc | exact Ext.refl _ | assumption | apply Ext.drewN | apply Ext.drew | apply Ext.alloc)) hx1
      have bR := (Blk.new (w.alloc (.cells #[.int .i64 a1, .int .i64 a2, .int .i64 a3, .string a] 35)) 35 #[.int .i64 0, .int .i64 0, .int .i64 0, .string ⟨#[]⟩]).ext hx1
      rw [World.size_alloc] at bR
      have cR := bR.cell; have fR := bR.free; have zR := bR.lt
      clear hx1
      go_wp2
      refine bodyPost_ret (v := .tuple #[verV ⟨x, y, z, ⟨#[48]⟩⟩, .int .i64 r]) (by simp [results, Tryz.results176, go_sem, cR, zR]) rfl ⟨⟨x, y, z, ⟨#[48]⟩⟩, r, ?_, rfl, ?_, ?_⟩
      · rw [HB.out, HNV.out]; rfl
      · show (1 : Nat) ≤ a.size + 2
        omega
      · exact (by repeat (first | with_reducible exact Ext.refl _ | with_reducible assumption | with_reducible apply Ext.drewN | with_reducible apply Ext.drew | with_reducible apply Ext.alloc | ((with_reducible refine Ext.setCell ?_ ?_ _); rotate_left; (first | (dsimp only; omega) | (simp; omega) | skip)) | exact Ext.refl _ | assumption | apply Ext.drewN | apply Ext.drew | apply Ext.alloc | refine Ext.setCell ?_ (by first | (dsimp only; omega) | (simp; omega)) _))
    · have hi := nemp_bool hz
      have hb : ¬ bs a = [] := fun e => by have := bs_length a; rw [e] at this; simp at this; omega
      have HB := Lib.hid (behind_early (v := ⟨a1, a2, a3, a⟩) h61 hb)
      clear h61 hb
      obtain ⟨A, hA⟩ : ∃ A : ByteArray, a ++ (⟨#[46, 48]⟩ : ByteArray) = A := ⟨_, rfl⟩
      have hbA : bs A = bs a ++ [46, 48] := by rw [← hA, bs_append]
      have hsA : A.size = a.size + 2 := by rw [← hA, ByteArray.size_append]; rfl
      have hea : early0 ⟨a1, a2, a3, a⟩ (bs a ++ [46, 48]) = ⟨a1, a2, a3, A⟩ := by
        unfold early0
        rw [← hbA, mk_bs]
      have HEA := Lib.hid hea
      have bR := Blk.new (w.alloc (.cells #[.int .i64 a1, .int .i64 a2, .int .i64 a3, .string A] 35)) 35 #[.int .i64 0, .int .i64 0, .int .i64 0, .string ⟨#[]⟩]
      rw [World.size_alloc] at bR
      have cK : ∀ W w', Ext w W → Ext W w' → Calls Tryz.prog 28 #[.agg #[.int .i64 a1, .int .i64 a2, .int .i64 a3, .string A]] w' fun e w'' => e = .returned (.int .i64 (checkV a1 a2 a3 (bs A))) ∧ Ext W w'' := fun W w' hx hy =>
        (Check_any a1 a2 a3 A w' (hg.ext (hx.trans hy)) (by omega)).mono fun _ _ h => ⟨h.1, hy.trans h.2⟩
      have CK := Lib.hid cK
      have HSA := Lib.hid hsA
      clear cK hea hbA hsA
      go_wp2_with fail
      refine wp_region_ext_tail 3 (by kernel_rfl) (by kernel_rfl) ?_
      simp only [List.take_succ_cons, List.take_zero, List.drop_succ_cons, List.drop_zero]
      repeat (first | go_big_quiet_skip | (refine wpQuiet_step (fun K hK => ?_); go_simp; first | (refine hK _ ?_; clear hK K) | (apply Exists.intro; refine ⟨fun wq hwq => ?_, hK _ ?_⟩; (obtain ⟨hqc, hqf⟩ := hwq.cells; have hqs := hwq.size; (try go_simp); first | rfl | ((first | rw [if_neg (by omega)] | rw [if_pos (by omega)]); (try go_simp); rfl) | ((go_at_call 28; with_reducible exact CK.out _ _ (by repeat (first | with_reducible exact Ext.refl _ | with_reducible assumption | with_reducible apply Ext.drewN | with_reducible apply Ext.drew | with_reducible apply Ext.alloc | exact Ext.refl _ | assumption | apply Ext.drewN | apply Ext.drew | apply Ext.alloc)) hwq))); clear hK K)))
      refine wpQuiet_nil ?_
      intro wN hxN
      obtain ⟨hcN, hfN⟩ := hxN.cells
      have hsN := hxN.size
      have hxWN : Ext w wN := Ext.trans (by repeat (first | with_reducible exact Ext.refl _ | with_reducible assumption | with_reducible apply Ext.drewN | with_reducible apply Ext.drew | with_reducible apply Ext.alloc | exact Ext.refl _ | assumption | apply Ext.drewN | apply Ext.drew | apply Ext.alloc)) hxN
      have bRN := bR.ext hxN
      have cRN := bRN.cell; have fRN := bRN.free; have zRN := bRN.lt
      go_wp2
      refine bodyPost_ret (v := .tuple #[verV ⟨a1, a2, a3, A⟩, .int .i64 (checkV a1 a2 a3 (bs A))]) (by simp [results, Tryz.results176, go_sem, cRN]) rfl ⟨⟨a1, a2, a3, A⟩, _, ?_, rfl, ?_, ?_⟩
      · rw [HB.out, HEA.out]; rfl
      · show A.size ≤ a.size + 2
        rw [HSA.out]; omega
      · exact (by repeat (first | with_reducible exact Ext.refl _ | with_reducible assumption | with_reducible apply Ext.drewN | with_reducible apply Ext.drew | with_reducible apply Ext.alloc | ((with_reducible refine Ext.setCell ?_ ?_ _); rotate_left; (first | (dsimp only; omega) | (simp; omega) | skip)) | exact Ext.refl _ | assumption | apply Ext.drewN | apply Ext.drew | apply Ext.alloc | refine Ext.setCell ?_ (by first | (dsimp only; omega) | (simp; omega)) _))
  · have e61 : (((sg.toNat : Nat) : Int) == 61) = false := u8_false 61 (by decide) h61
    by_cases h94 : sg = 94
    · have e94 : (((sg.toNat : Nat) : Int) == 94) = true := u8_true 94 (by decide) h94
      by_cases ha : a1 = 0
      · have HB := Lib.hid (behind_one (v := ⟨a1, a2, a3, a⟩) h61 (fun h => h.2 ha))
        have e0 : (a1 != 0) = false := by rw [ha]; rfl
        clear h61 h94 ha
        go_wp2_with fail
        refine (CN.out 1 _ (by repeat (first | with_reducible exact Ext.refl _ | with_reducible assumption | with_reducible apply Ext.drewN | with_reducible apply Ext.drew | with_reducible apply Ext.alloc | exact Ext.refl _ | assumption | apply Ext.drewN | apply Ext.drew | apply Ext.alloc))).mono ?_
        rintro e w1 ⟨x, y, z, r, hn, rfl, hx1⟩
        have HNV := Lib.hid hn
        clear hn
        have hx : Ext w w1 := Ext.trans (by repeat (first | with_reducible exact Ext.refl _ | with_reducible assumption | with_reducible apply Ext.drewN | with_reducible apply Ext.drew | with_reducible apply Ext.alloc | exact Ext.refl _ | assumption | apply Ext.drewN | apply Ext.drew | apply Ext.alloc)) hx1
        have bR := (Blk.new (w.alloc (.cells #[.int .i64 a1, .int .i64 a2, .int .i64 a3, .string a] 35)) 35 #[.int .i64 0, .int .i64 0, .int .i64 0, .string ⟨#[]⟩]).ext hx1
        rw [World.size_alloc] at bR
        have cR := bR.cell; have fR := bR.free; have zR := bR.lt
        clear hx1
        go_wp2
        refine bodyPost_ret (v := .tuple #[verV ⟨x, y, z, ⟨#[]⟩⟩, .int .i64 r]) (by simp [results, Tryz.results176, go_sem, cR]) rfl ⟨⟨x, y, z, ⟨#[]⟩⟩, r, ?_, rfl, Nat.zero_le _, ?_⟩
        · rw [HB.out, HNV.out]
        · exact (by repeat (first | with_reducible exact Ext.refl _ | with_reducible assumption | with_reducible apply Ext.drewN | with_reducible apply Ext.drew | with_reducible apply Ext.alloc | ((with_reducible refine Ext.setCell ?_ ?_ _); rotate_left; (first | (dsimp only; omega) | (simp; omega) | skip)) | exact Ext.refl _ | assumption | apply Ext.drewN | apply Ext.drew | apply Ext.alloc | refine Ext.setCell ?_ (by first | (dsimp only; omega) | (simp; omega)) _))
      · have HB := Lib.hid (behind_zero (v := ⟨a1, a2, a3, a⟩) h61 h94 ha)
        have e0 : (a1 != 0) = true := by rw [bne_iff_ne]; exact ha
        clear h61 h94
        go_wp2_with fail
        refine (CN.out 0 _ (by repeat (first | with_reducible exact Ext.refl _ | with_reducible assumption | with_reducible apply Ext.drewN | with_reducible apply Ext.drew | with_reducible apply Ext.alloc | exact Ext.refl _ | assumption | apply Ext.drewN | apply Ext.drew | apply Ext.alloc))).mono ?_
        rintro e w1 ⟨x, y, z, r, hn, rfl, hx1⟩
        have HNV := Lib.hid hn
        clear hn
        have hx : Ext w w1 := Ext.trans (by repeat (first | with_reducible exact Ext.refl _ | with_reducible assumption | with_reducible apply Ext.drewN | with_reducible apply Ext.drew | with_reducible apply Ext.alloc | exact Ext.refl _ | assumption | apply Ext.drewN | apply Ext.drew | apply Ext.alloc)) hx1
        have bR := (Blk.new (w.alloc (.cells #[.int .i64 a1, .int .i64 a2, .int .i64 a3, .string a] 35)) 35 #[.int .i64 0, .int .i64 0, .int .i64 0, .string ⟨#[]⟩]).ext hx1
        rw [World.size_alloc] at bR
        have cR := bR.cell; have fR := bR.free; have zR := bR.lt
        clear hx1
        go_wp2
        refine bodyPost_ret (v := .tuple #[verV ⟨x, y, z, ⟨#[]⟩⟩, .int .i64 r]) (by simp [results, Tryz.results176, go_sem, cR]) rfl ⟨⟨x, y, z, ⟨#[]⟩⟩, r, ?_, rfl, Nat.zero_le _, ?_⟩
        · rw [HB.out, HNV.out]
        · exact (by repeat (first | with_reducible exact Ext.refl _ | with_reducible assumption | with_reducible apply Ext.drewN | with_reducible apply Ext.drew | with_reducible apply Ext.alloc | ((with_reducible refine Ext.setCell ?_ ?_ _); rotate_left; (first | (dsimp only; omega) | (simp; omega) | skip)) | exact Ext.refl _ | assumption | apply Ext.drewN | apply Ext.drew | apply Ext.alloc | refine Ext.setCell ?_ (by first | (dsimp only; omega) | (simp; omega)) _))
    · have e94 : (((sg.toNat : Nat) : Int) == 94) = false := u8_false 94 (by decide) h94
      have HB := Lib.hid (behind_one (v := ⟨a1, a2, a3, a⟩) h61 (fun h => h94 h.1))
      clear h61 h94
      go_wp2_with fail
      refine (CN.out 1 _ (by repeat (first | with_reducible exact Ext.refl _ | with_reducible assumption | with_reducible apply Ext.drewN | with_reducible apply Ext.drew | with_reducible apply Ext.alloc | exact Ext.refl _ | assumption | apply Ext.drewN | apply Ext.drew | apply Ext.alloc))).mono ?_
      rintro e w1 ⟨x, y, z, r, hn, rfl, hx1⟩
      have HNV := Lib.hid hn
      clear hn
      have hx : Ext w w1 := Ext.trans (by repeat (first | with_reducible exact Ext.refl _ | with_reducible assumption | with_reducible apply Ext.drewN | with_reducible apply Ext.drew | with_reducible apply Ext.alloc | exact Ext.refl _ | assumption | apply Ext.drewN | apply Ext.drew | apply Ext.alloc)) hx1
      have bR := (Blk.new (w.alloc (.cells #[.int .i64 a1, .int .i64 a2, .int .i64 a3, .string a] 35)) 35 #[.int .i64 0, .int .i64 0, .int .i64 0, .string ⟨#[]⟩]).ext hx1
      rw [World.size_alloc] at bR
      have cR := bR.cell; have fR := bR.free; have zR := bR.lt
      clear hx1
      go_wp2
      refine bodyPost_ret (v := .tuple #[verV ⟨x, y, z, ⟨#[]⟩⟩, .int .i64 r]) (by simp [results, Tryz.results176, go_sem, cR]) rfl ⟨⟨x, y, z, ⟨#[]⟩⟩, r, ?_, rfl, Nat.zero_le _, ?_⟩
      · rw [HB.out, HNV.out]
      · exact (by repeat (first | with_reducible exact Ext.refl _ | with_reducible assumption | with_reducible apply Ext.drewN | with_reducible apply Ext.drew | with_reducible apply Ext.alloc | ((with_reducible refine Ext.setCell ?_ ?_ _); rotate_left; (first | (dsimp only; omega) | (simp; omega) | skip)) | exact Ext.refl _ | assumption | apply Ext.drewN | apply Ext.drew | apply Ext.alloc | refine Ext.setCell ?_ (by first | (dsimp only; omega) | (simp; omega)) _))

def SpanPost (sg : UInt8) (a b : ByteArray) (w : World) (E : Ending) (w' : World) : Prop :=
  ∃ (s : Sp) (r : Int), spanL ⟨sg, bs a, bs b⟩ = (s, r) ∧ E = .returned (.tuple #[spV s, .int .i64 r]) ∧ s.f.a.size ≤ a.size + b.size + 2 ∧ s.t.a.size ≤ a.size + b.size + 2 ∧ Ext w w'
theorem span_star {a b : Str} : spanL ⟨42, a, b⟩ = (zeroS, 0) := by rw [spanL, if_pos rfl]
theorem span_err {sg : UInt8} {a b : Str} {v : V4} {r : Int} (h : ¬ sg = 42) (hp : pV a = (v, r)) (hr : ¬ r = 0) : spanL ⟨sg, a, b⟩ = (zeroS, r) := by
  unfold spanL
  dsimp only
  rw [if_neg h, hp, if_pos hr]
theorem span_gt {a b : Str} {v : V4} (hp : pV a = (v, 0)) : spanL ⟨62, a, b⟩ = (⟨true, false, v, zeroV⟩, 0) := by
  unfold spanL
  dsimp only
  rw [if_neg (by decide), hp, if_neg (by simp), if_pos rfl]
theorem span_lt {a b : Str} {v : V4} (hp : pV a = (v, 0)) : spanL ⟨60, a, b⟩ = (⟨false, true, zeroV, v⟩, 0) := by
  unfold spanL
  dsimp only
  rw [if_neg (by decide), hp, if_neg (by simp), if_neg (by decide), if_pos rfl]
theorem span_both {a b : Str} {v u : V4} {r : Int} (hp : pV a = (v, 0)) (hq : pV b = (u, r)) : spanL ⟨98, a, b⟩ = (⟨true, true, v, u⟩, r) := by
  unfold spanL
  dsimp only
  rw [if_neg (by decide), hp, if_neg (by simp), if_neg (by decide), if_neg (by decide), if_pos rfl, hq]
theorem span_else {sg : UInt8} {a b : Str} {v u : V4} {r : Int} (h1 : ¬ sg = 42) (h2 : ¬ sg = 62) (h3 : ¬ sg = 60) (h4 : ¬ sg = 98) (hp : pV a = (v, 0)) (hq : behindL v sg = (u, r)) : spanL ⟨sg, a, b⟩ = (⟨true, true, v, u⟩, r) := by
  unfold spanL
  dsimp only
  rw [if_neg h1, hp, if_neg (by simp), if_neg h2, if_neg h3, if_neg h4, hq]
set_option maxHeartbeats 8000000 in
set_option maxRecDepth 100000 in
theorem spanOf_any (sg : UInt8) (a b : ByteArray) (w : World) (hg : GoodN w) (ha : a.size ≤ 100000) (hb : b.size ≤ 100000) :
    Calls Tryz.prog 114 #[itV sg a b] w (SpanPost sg a b w) := by
  dsimp only [itV]
  go_enter Tryz.func114, Tryz.ntmps114
  by_cases h42 : sg = 42
  · subst h42
    have e42 : ((((42 : UInt8).toNat : Nat) : Int) == 42) = true := by decide
    go_wp2
    refine bodyPost_ret (v := .tuple #[spV zeroS, .int .i64 0]) (by simp [results, Tryz.results114, go_sem, zeroS, zeroV]) rfl ⟨zeroS, 0, span_star, rfl, Nat.zero_le _, Nat.zero_le _, ?_⟩
    exact (by repeat (first | with_reducible exact Ext.refl _ | with_reducible assumption | with_reducible apply Ext.drewN | with_reducible apply Ext.drew | with_reducible apply Ext.alloc | ((with_reducible refine Ext.setCell ?_ ?_ _); rotate_left; (first | (dsimp only; omega) | (simp; omega) | skip)) | exact Ext.refl _ | assumption | apply Ext.drewN | apply Ext.drew | apply Ext.alloc | refine Ext.setCell ?_ (by first | (dsimp only; omega) | (simp; omega)) _))
  have e42 : (((sg.toNat : Nat) : Int) == 42) = false := u8_false 42 (by decide) h42
  go_wp2_with fail
  refine (Parse_x a _ (hg.ext (by repeat (first | with_reducible exact Ext.refl _ | with_reducible assumption | with_reducible apply Ext.drewN | with_reducible apply Ext.drew | with_reducible apply Ext.alloc | exact Ext.refl _ | assumption | apply Ext.drewN | apply Ext.drew | apply Ext.alloc))) (by omega)).mono ?_
  rintro e w1 ⟨⟨x, y, z, c⟩, r, hp, rfl, hsz, hx1⟩
  dsimp only at hsz
  have hx : Ext w w1 := Ext.trans (by repeat (first | with_reducible exact Ext.refl _ | with_reducible assumption | with_reducible apply Ext.drewN | with_reducible apply Ext.drew | with_reducible apply Ext.alloc | exact Ext.refl _ | assumption | apply Ext.drewN | apply Ext.drew | apply Ext.alloc)) hx1
  have bI := ((Blk.new w 150 #[.int .u8 sg.toNat, .string a, .string b]).alloc (.cells #[.bool false, .bool false, .int .i64 0, .int .i64 0, .int .i64 0, .string ⟨#[]⟩, .int .i64 0, .int .i64 0, .int .i64 0, .string ⟨#[]⟩] 145)).ext hx1
  have bR := (Blk.new (w.alloc (.cells #[.int .u8 sg.toNat, .string a, .string b] 150)) 145 #[.bool false, .bool false, .int .i64 0, .int .i64 0, .int .i64 0, .string ⟨#[]⟩, .int .i64 0, .int .i64 0, .int .i64 0, .string ⟨#[]⟩]).ext hx1
  rw [World.size_alloc] at bR
  have cI := bI.cell; have zI := bI.lt
  have cR := bR.cell; have fR := bR.free; have zR := bR.lt
  clear hx1
  by_cases hr : r = 0
  rotate_left
  · have HS := Lib.hid (span_err (b := bs b) h42 hp hr)
    have hbn : (r != 0) = true := by rw [bne_iff_ne]; exact hr
    clear hr hp
    go_wp2
    refine bodyPost_ret (v := .tuple #[spV zeroS, .int .i64 r]) (by simp [results, Tryz.results114, go_sem, zeroS, zeroV, cR, zR]) rfl ⟨zeroS, r, HS.out, rfl, Nat.zero_le _, Nat.zero_le _, ?_⟩
    exact (by repeat (first | with_reducible exact Ext.refl _ | with_reducible assumption | with_reducible apply Ext.drewN | with_reducible apply Ext.drew | with_reducible apply Ext.alloc | ((with_reducible refine Ext.setCell ?_ ?_ _); rotate_left; (first | (dsimp only; omega) | (simp; omega) | skip)) | exact Ext.refl _ | assumption | apply Ext.drewN | apply Ext.drew | apply Ext.alloc | refine Ext.setCell ?_ (by first | (dsimp only; omega) | (simp; omega)) _))
  subst hr
  have HP := Lib.hid hp
  clear hp
  by_cases h62 : sg = 62
  · subst h62
    have e62 : ((((62 : UInt8).toNat : Nat) : Int) == 62) = true := by decide
    go_wp2
    refine bodyPost_ret (v := .tuple #[spV ⟨true, false, ⟨x, y, z, c⟩, zeroV⟩, .int .i64 0]) (by simp [results, Tryz.results114, go_sem, zeroV, cR, zR]) rfl ⟨⟨true, false, ⟨x, y, z, c⟩, zeroV⟩, 0, span_gt HP.out, rfl, ?_, Nat.zero_le _, ?_⟩
    · show c.size ≤ _
      omega
    · exact (by repeat (first | with_reducible exact Ext.refl _ | with_reducible assumption | with_reducible apply Ext.drewN | with_reducible apply Ext.drew | with_reducible apply Ext.alloc | ((with_reducible refine Ext.setCell ?_ ?_ _); rotate_left; (first | (dsimp only; omega) | (simp; omega) | skip)) | exact Ext.refl _ | assumption | apply Ext.drewN | apply Ext.drew | apply Ext.alloc | refine Ext.setCell ?_ (by first | (dsimp only; omega) | (simp; omega)) _))
  have e62 : (((sg.toNat : Nat) : Int) == 62) = false := u8_false 62 (by decide) h62
  by_cases h60 : sg = 60
  · subst h60
    have e60 : ((((60 : UInt8).toNat : Nat) : Int) == 60) = true := by decide
    go_wp2
    refine bodyPost_ret (v := .tuple #[spV ⟨false, true, zeroV, ⟨x, y, z, c⟩⟩, .int .i64 0]) (by simp [results, Tryz.results114, go_sem, zeroV, cR, zR]) rfl ⟨⟨false, true, zeroV, ⟨x, y, z, c⟩⟩, 0, span_lt HP.out, rfl, Nat.zero_le _, ?_, ?_⟩
    · show c.size ≤ _
      omega
    · exact (by repeat (first | with_reducible exact Ext.refl _ | with_reducible assumption | with_reducible apply Ext.drewN | with_reducible apply Ext.drew | with_reducible apply Ext.alloc | ((with_reducible refine Ext.setCell ?_ ?_ _); rotate_left; (first | (dsimp only; omega) | (simp; omega) | skip)) | exact Ext.refl _ | assumption | apply Ext.drewN | apply Ext.drew | apply Ext.alloc | refine Ext.setCell ?_ (by first | (dsimp only; omega) | (simp; omega)) _))
  have e60 : (((sg.toNat : Nat) : Int) == 60) = false := u8_false 60 (by decide) h60
  by_cases h98 : sg = 98
  · subst h98
    have e98 : ((((98 : UInt8).toNat : Nat) : Int) == 98) = true := by decide
    go_wp2_with fail
    refine (Parse_x b _ (hg.ext (hx.trans (by repeat (first | with_reducible exact Ext.refl _ | with_reducible assumption | with_reducible apply Ext.drewN | with_reducible apply Ext.drew | with_reducible apply Ext.alloc | exact Ext.refl _ | assumption | apply Ext.drewN | apply Ext.drew | apply Ext.alloc)))) (by omega)).mono ?_
    rintro e w2 ⟨⟨x2, y2, z2, c2⟩, r2, hp2, rfl, hsz2, hx2⟩
    dsimp only at hsz2
    have hxx : Ext w w2 := hx.trans (Ext.trans (by repeat (first | with_reducible exact Ext.refl _ | with_reducible assumption | with_reducible apply Ext.drewN | with_reducible apply Ext.drew | with_reducible apply Ext.alloc | exact Ext.refl _ | assumption | apply Ext.drewN | apply Ext.drew | apply Ext.alloc)) hx2)
    have bV := (Blk.new w1 35 #[.int .i64 x, .int .i64 y, .int .i64 z, .string c]).ext hx2
    have bR2 := (bR.alloc _).ext hx2
    have cV := bV.cell; have zV := bV.lt
    have cR2 := bR2.cell; have fR2 := bR2.free; have zR2 := bR2.lt
    have HS := Lib.hid (span_both HP.out hp2)
    clear cI zI cR fR zR hx2 hp2
    go_wp2
    refine bodyPost_ret (v := .tuple #[spV ⟨true, true, ⟨x, y, z, c⟩, ⟨x2, y2, z2, c2⟩⟩, .int .i64 r2]) (by simp [results, Tryz.results114, go_sem, cR2, zR2]) rfl ⟨⟨true, true, ⟨x, y, z, c⟩, ⟨x2, y2, z2, c2⟩⟩, r2, HS.out, rfl, ?_, ?_, ?_⟩
    · show c.size ≤ _
      omega
    · show c2.size ≤ _
      omega
    · exact (by repeat (first | with_reducible exact Ext.refl _ | with_reducible assumption | with_reducible apply Ext.drewN | with_reducible apply Ext.drew | with_reducible apply Ext.alloc | ((with_reducible refine Ext.setCell ?_ ?_ _); rotate_left; (first | (dsimp only; omega) | (simp; omega) | skip)) | exact Ext.refl _ | assumption | apply Ext.drewN | apply Ext.drew | apply Ext.alloc | refine Ext.setCell ?_ (by first | (dsimp only; omega) | (simp; omega)) _))
  have e98 : (((sg.toNat : Nat) : Int) == 98) = false := u8_false 98 (by decide) h98
  have HSE := Lib.hid (fun u r2 (hq : behindL ⟨x, y, z, c⟩ sg = (u, r2)) => span_else (b := bs b) h42 h62 h60 h98 HP.out hq)
  clear h42 h62 h60 h98
  go_wp2_with fail
  refine (behind_any ⟨x, y, z, c⟩ sg _ (hg.ext (hx.trans (by repeat (first | with_reducible exact Ext.refl _ | with_reducible assumption | with_reducible apply Ext.drewN | with_reducible apply Ext.drew | with_reducible apply Ext.alloc | exact Ext.refl _ | assumption | apply Ext.drewN | apply Ext.drew | apply Ext.alloc)))).toGood (by dsimp only; omega)).mono ?_
  rintro e w2 ⟨⟨x2, y2, z2, c2⟩, r2, hp2, rfl, hsz2, hx2⟩
  dsimp only at hsz2
  have hxx : Ext w w2 := hx.trans (Ext.trans (by repeat (first | with_reducible exact Ext.refl _ | with_reducible assumption | with_reducible apply Ext.drewN | with_reducible apply Ext.drew | with_reducible apply Ext.alloc | exact Ext.refl _ | assumption | apply Ext.drewN | apply Ext.drew | apply Ext.alloc)) hx2)
  have bV := (Blk.new w1 35 #[.int .i64 x, .int .i64 y, .int .i64 z, .string c]).ext hx2
  have bR2 := (bR.alloc _).ext hx2
  have cV := bV.cell; have zV := bV.lt
  have cR2 := bR2.cell; have fR2 := bR2.free; have zR2 := bR2.lt
  have HS := Lib.hid (HSE.out _ _ hp2)
  clear cI zI cR fR zR hx2 hp2
  go_wp2
  refine bodyPost_ret (v := .tuple #[spV ⟨true, true, ⟨x, y, z, c⟩, ⟨x2, y2, z2, c2⟩⟩, .int .i64 r2]) (by simp [results, Tryz.results114, go_sem, cR2, zR2]) rfl ⟨⟨true, true, ⟨x, y, z, c⟩, ⟨x2, y2, z2, c2⟩⟩, r2, HS.out, rfl, ?_, ?_, ?_⟩
  · show c.size ≤ _
    omega
  · show c2.size ≤ _
    omega
  · exact (by repeat (first | with_reducible exact Ext.refl _ | with_reducible assumption | with_reducible apply Ext.drewN | with_reducible apply Ext.drew | with_reducible apply Ext.alloc | ((with_reducible refine Ext.setCell ?_ ?_ _); rotate_left; (first | (dsimp only; omega) | (simp; omega) | skip)) | exact Ext.refl _ | assumption | apply Ext.drewN | apply Ext.drew | apply Ext.alloc | refine Ext.setCell ?_ (by first | (dsimp only; omega) | (simp; omega)) _))
end Go.Proofs.YtghhjlcbcojcnaaGreatDoor

namespace Go.Proofs.YtghhjlcbcojcnaaGreatDoor
open Go.RowKit

/-! ### strings.Split at any separator -/
theorem splitK_le (sep : Str) : ∀ (k : Nat) (l p : Str), p ∈ Lib.splitK sep 0 k l → p.length ≤ l.length
  | 0, l, p, h => by
    rw [Lib.splitK, List.mem_singleton] at h
    rw [h]; exact Nat.le_refl _
  | k + 1, l, p, h => by
    unfold Lib.splitK at h
    split at h
    · rw [List.mem_singleton] at h
      rw [h]; exact Nat.le_refl _
    · rcases List.mem_cons.1 h with e | e
      · rw [e, List.length_take]; omega
      · have := splitK_le sep k _ p e
        rw [List.length_drop] at this
        omega
theorem split_g (s sep : ByteArray) (w : World) (hg : Good w) (hs : s.size ≤ 2097152) (hsep : 1 ≤ sep.size) :
    Calls Tryz.prog 91 #[.string s, .string sep] w fun e w' => ∃ (b : Nat) (xs : List ByteArray),
      e = .returned (.slice (some ⟨b, 0, none⟩) xs.length xs.length) ∧ Strs w' b xs ∧ xs.map bs = Lib.split (bs s) (bs sep) ∧ 0 < xs.length ∧ xs.length ≤ s.size + 1 ∧ (∀ x ∈ xs, x.size ≤ s.size) ∧ Ext w w' := by
  obtain ⟨m, hm⟩ := hg.maxLen
  refine (Tryz.strings_Split s sep m w (by omega) hm hsep).mono ?_
  rintro e w' ⟨rfl, rfl⟩
  have hlen : (Lib.splitB sep 0 (Lib.countB s sep) s).length = Lib.countB s sep + 1 := Lib.splitB_all sep hsep 0 _ s rfl
  have hle := Lib.countB_le sep hsep s.size s (Nat.le_refl _)
  have hmap : (Lib.splitB sep 0 (Lib.countB s sep) s).map bs = Lib.split (bs s) (bs sep) := Lib.splitB_data sep 0 _ s
  refine ⟨w.heap.size, _, by rw [hlen], ⟨by simp, ?_⟩, hmap, by omega, by omega, fun x hx => ?_, (Ext.refl w).alloc _⟩
  · intro k hk
    rw [World.cell?_alloc_at _ _ _ _ rfl]
    simp [hk]
  · rw [← bs_length, ← bs_length s]
    exact splitK_le (bs sep) _ _ _ (by
      have : bs x ∈ (Lib.splitB sep 0 (Lib.countB s sep) s).map bs := List.mem_map.2 ⟨x, hx, rfl⟩
      rw [hmap] at this
      exact this)

/-! ### Slices of structs, as lists of cells -/
theorem flat_take_succ {α β : Type} (f : α → List β) (l : List α) (k : Nat) (h : k < l.length) : (l.take k).flatMap f ++ f l[k] = (l.take (k + 1)).flatMap f := by
  rw [List.take_succ_eq_append_getElem h, List.flatMap_append]
  simp
theorem flat_get {α β : Type} {f : α → List β} {m : Nat} (hf : ∀ x, (f x).length = m) : ∀ (l : List α) (k j : Nat) (h : k < l.length), j < m → (l.flatMap f)[k * m + j]? = (f l[k])[j]?
  | x :: l, 0, j, _, hj => by
    rw [List.flatMap_cons, Nat.zero_mul, Nat.zero_add, List.getElem?_append_left (by rw [hf]; exact hj)]
    rfl
  | x :: l, k + 1, j, h, hj => by
    rw [List.flatMap_cons, List.getElem?_append_right (by rw [hf, Nat.add_mul]; omega), hf]
    rw [show (k + 1) * m + j - m = k * m + j by rw [Nat.add_mul]; omega]
    exact flat_get hf l k j (by simpa using h) hj
/-- the cells of an item -/
def itC (it : It) : List Value := [.int .u8 it.sign.toNat, S it.first, S it.last]
/-- the cells of a span -/
def spC (s : Sp) : List Value := [.bool s.hf, .bool s.ht, .int .i64 s.f.a1, .int .i64 s.f.a2, .int .i64 s.f.a3, .string s.f.a, .int .i64 s.t.a1, .int .i64 s.t.a2, .int .i64 s.t.a3, .string s.t.a]
theorem spC_length (s : Sp) : (spC s).length = 10 := rfl
theorem rds_own {w : World} {B n : Nat} {v : Value} {l : List Sp} (h : w.ownsRow B 145 10 v n (l.flatMap spC)) (hn : l.length = n) : ∃ A c, v = .slice A n c ∧ RdS w A l := by
  rcases Nat.eq_zero_or_pos n with h0 | h0
  · subst h0
    have he : l = [] := List.eq_nil_of_length_eq_zero hn
    rcases h.2 with ⟨rfl, _⟩ | ⟨g, cap, cur, rfl, _⟩
    · exact ⟨none, 0, rfl, fun e => absurd he e⟩
    · exact ⟨_, _, rfl, fun e => absurd he e⟩
  · obtain ⟨g, c, rfl, hlt, hB, hc, hcell⟩ := own_form h h0
    refine ⟨_, _, rfl, fun _ => ⟨g, 0, rfl, ?_⟩⟩
    have hx : ∀ k (h : k < l.length) (j : Nat) (u : Value), (spC l[k])[j]? = some u → w.cell? ⟨g, 0 + k * 10 + j, none⟩ = some u := fun k hk j u hu => by
      have hj : j < 10 := by
        rcases Nat.lt_or_ge j 10 with h | h
        · exact h
        · rw [List.getElem?_eq_none (by rw [spC_length]; exact h)] at hu; cases hu
      rw [Nat.zero_add]
      exact hcell _ u (by rw [flat_get spC_length l k j hk hj]; exact hu)
    exact ⟨fun k hk => hx k hk 0 _ rfl, fun k hk => hx k hk 1 _ rfl, fun k hk => hx k hk 2 _ rfl, fun k hk => hx k hk 3 _ rfl, fun k hk => hx k hk 4 _ rfl, fun k hk => hx k hk 5 _ rfl, fun k hk => hx k hk 6 _ rfl,
      fun k hk => hx k hk 7 _ rfl, fun k hk => hx k hk 8 _ rfl, fun k hk => hx k hk 9 _ rfl⟩
theorem info_item : (Tryz.prog.info? 150).map (fun i => (i.zero, i.size, i.bytes)) = some (some (.agg #[.int .u8 0, .string ⟨#[]⟩, .string ⟨#[]⟩]), 3, 40) := by kernel_rfl
theorem info_span : (Tryz.prog.info? 145).map (fun i => (i.zero, i.size, i.bytes)) = some (some (.agg #[.bool false, .bool false, .int .i64 0, .int .i64 0, .int .i64 0, .string ⟨#[]⟩, .int .i64 0, .int .i64 0, .int .i64 0, .string ⟨#[]⟩]), 10, 88) := by kernel_rfl

/-! ### The reading -/
def RangePost (q : List Sp × Int) (w : World) (E : Ending) (w' : World) : Prop :=
  ∃ A c, E = .returned (.tuple #[.agg #[.slice A q.1.length c], .int .i64 q.2]) ∧ RdS w' A q.1 ∧ SmallS q.1 ∧ Ext w w'
/-- spans in a slice, in a block that P tells -/
def RdP (P : Nat → Prop) (w : World) (A : Option Addr) (l : List Sp) : Prop := l ≠ [] → ∃ b i, A = some ⟨b, i, none⟩ ∧ P b ∧ SpS w b i l
theorem RdP.rd {P : Nat → Prop} {w : World} {A : Option Addr} {l : List Sp} (h : RdP P w A l) : RdS w A l := fun hn => by
  obtain ⟨b, i, e, _, k⟩ := h hn
  exact ⟨b, i, e, k⟩
theorem rdp_own {w : World} {B n : Nat} {v : Value} {l : List Sp} (h : w.ownsRow B 145 10 v n (l.flatMap spC)) (hn : l.length = n) : ∃ A c, v = .slice A n c ∧ RdP (fun b => B ≤ b) w A l := by
  obtain ⟨A, c, e, hr⟩ := rds_own h hn
  refine ⟨A, c, e, fun hne => ?_⟩
  obtain ⟨b, o, hA, hs⟩ := hr hne
  obtain ⟨g, c', e2, _, hB, _⟩ := own_form h (by rw [← hn]; exact List.length_pos_iff.2 hne)
  rw [e, hA] at e2
  injection e2 with e2
  injection e2 with e2
  injection e2 with e2
  subst e2
  exact ⟨b, o, hA, hB, hs⟩
/-- .. in a block of the call's own -/
def RangePostB (q : List Sp × Int) (w : World) (E : Ending) (w' : World) : Prop :=
  ∃ A c, E = .returned (.tuple #[.agg #[.slice A q.1.length c], .int .i64 q.2]) ∧ RdP (fun b => w.heap.size ≤ b) w' A q.1 ∧ SmallS q.1 ∧ Ext w w'
theorem range_noneB {r : Int} {w w' : World} (hx : Ext w w') : RangePostB ([], r) w (.returned (.tuple #[.agg #[.slice none 0 0], .int .i64 r])) w' :=
  ⟨none, 0, rfl, (fun h => absurd rfl h), (fun _ h => by cases h), hx⟩
theorem RangePostB.weak {q : List Sp × Int} {w w' : World} {E : Ending} (h : RangePostB q w E w') : RangePost q w E w' := by
  obtain ⟨A, c, e, hr, hs, hx⟩ := h
  exact ⟨A, c, e, hr.rd, hs, hx⟩
theorem item_len (l : Str) : (itemL l).1.first.length ≤ l.length ∧ (itemL l).1.last.length ≤ l.length := by
  have hc := cutC_size 32 (l.drop 2)
  have ht := Lib.trimPrefix_le (cutC 32 (l.drop 2)).2.1 [60]
  have hd : (l.drop 2).length ≤ l.length := by rw [List.length_drop]; omega
  have hd1 : (l.drop 1).length ≤ l.length := by rw [List.length_drop]; omega
  unfold itemL
  split
  · exact ⟨Nat.zero_le _, Nat.zero_le _⟩
  · split
    · split
      · exact ⟨by dsimp only; omega, by dsimp only; omega⟩
      · exact ⟨hd, Nat.zero_le _⟩
    · split
      · exact ⟨hd1, Nat.zero_le _⟩
      · exact ⟨Nat.le_refl _, Nat.zero_le _⟩
/-- a piece's span -/
def spO (p : ByteArray) : Sp × Int := spanL (itemL (bs p)).1
theorem parse_large {s : Str} (h : 1000 < s.length) : parseR s = ([], 4) := by rw [parseR, if_pos h]
theorem parse_none {s : Str} (h1 : ¬ 1000 < s.length) (h : s = [110, 111, 110, 101]) : parseR s = ([], 0) := by rw [parseR, if_neg h1, if_pos h]
theorem parse_syn {s : Str} {xs : List ByteArray} (h1 : ¬ 1000 < s.length) (h2 : ¬ s = [110, 111, 110, 101]) (hx : xs.map bs = Lib.split s [44, 32]) {k : Nat} (hk : k < xs.length) (hs : synL (bs xs[k]) = true) : parseR s = ([], 8) := by
  rw [parseR, if_neg h1, if_neg h2, if_pos]
  rw [← hx]
  exact List.any_eq_true.2 ⟨bs xs[k], List.mem_map.2 ⟨_, List.getElem_mem hk, rfl⟩, hs⟩
theorem parse_spans {s : Str} {xs : List ByteArray} (h1 : ¬ 1000 < s.length) (h2 : ¬ s = [110, 111, 110, 101]) (hx : xs.map bs = Lib.split s [44, 32]) (hs : ∀ x ∈ xs, synL (bs x) = false) : parseR s = spansOf (xs.map spO) := by
  rw [parseR, if_neg h1, if_neg h2, if_neg, ← hx, List.map_map]
  · rfl
  · rw [← hx]
    intro h
    obtain ⟨p, hp, hq⟩ := List.any_eq_true.1 h
    obtain ⟨x, hxm, rfl⟩ := List.mem_map.1 hp
    rw [hs x hxm] at hq
    cases hq
theorem spans_err {q : List (Sp × Int)} {k : Nat} (hk : k < q.length) (h0 : ∀ x ∈ q.take k, x.2 = 0) (h : ¬ q[k].2 = 0) : spansOf q = ([], q[k].2) := by
  have e : firstI (q.map (·.2)) = q[k].2 := by
    have := firstI_at (l := q.map (·.2)) (k := k) (by simpa using hk) (fun x hx => by
      rw [← List.map_take] at hx
      obtain ⟨y, hy, rfl⟩ := List.mem_map.1 hx
      exact h0 y hy) (by simpa using h)
    simpa using this
  unfold spansOf
  rw [e, if_pos h]
theorem spans_rng {q : List (Sp × Int)} (h0 : ∀ x ∈ q, x.2 = 0) (h : ¬ rngErr (q.map (·.1)) = 0) : spansOf q = ([], rngErr (q.map (·.1))) := by
  have e : firstI (q.map (·.2)) = 0 := firstI_zero fun x hx => by
    obtain ⟨y, hy, rfl⟩ := List.mem_map.1 hx
    exact h0 y hy
  unfold spansOf
  rw [e, if_neg (by decide), if_pos h]
theorem spans_ok {q : List (Sp × Int)} (h0 : ∀ x ∈ q, x.2 = 0) (h : rngErr (q.map (·.1)) = 0) : spansOf q = (q.map (·.1), 0) := by
  have e : firstI (q.map (·.2)) = 0 := firstI_zero fun x hx => by
    obtain ⟨y, hy, rfl⟩ := List.mem_map.1 hx
    exact h0 y hy
  unfold spansOf
  rw [e, if_neg (by decide), if_neg (by simpa using h)]
/-- what the second loop keeps of a piece -/
def Fine (x : Sp × Int) : Prop := x.2 = 0 ∧ x.1.f.a.size ≤ 2097152 ∧ x.1.t.a.size ≤ 2097152
theorem syn_of {p : Str} {it : It} {ok : Bool} (h : itemL p = (it, ok)) : synL p = (!ok || (it.sign != 42 && wrongL it.first) || (it.sign == 98 && wrongL it.last)) := by rw [synL, h]
end Go.Proofs.YtghhjlcbcojcnaaGreatDoor
