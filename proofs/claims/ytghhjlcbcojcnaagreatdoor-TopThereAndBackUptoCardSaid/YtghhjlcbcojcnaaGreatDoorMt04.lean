/- Contracts of ver.Next, number. Contracts of ver.number, Parse. -/
import Derived.Test.YtghhjlcbcojcnaaGreatDoorMt03

namespace Go.Proofs.YtghhjlcbcojcnaaGreatDoor
open Go.RowKit

abbrev verVal (a1 a2 a3 : Int) (a : ByteArray) : Value := .agg #[.int .i64 a1, .int .i64 a2, .int .i64 a3, .string a]
def nextN (ma mi pa : Int) (e : Str) (part : Int) : Option (Int × Int × Int) :=
  if part = 0 then some (ma + 1, 0, 0) else if part = 1 then some (ma, mi + 1, 0) else if part = 2 then some (ma, mi, if e = [] then pa + 1 else pa) else none
def nextV (ma mi pa : Int) (e : Str) (part : Int) : (Int × Int × Int) × Int :=
  if checkV ma mi pa e = 0 then (match nextN ma mi pa e part with | none => ((0, 0, 0), 3) | some v => if checkV v.1 v.2.1 v.2.2 [] = 0 then (v, 0) else ((0, 0, 0), 3))
  else ((0, 0, 0), checkV ma mi pa e)
def NextPost (ma mi pa : Int) (e : Str) (part : Int) (w : World) (E : Ending) (w' : World) : Prop :=
  E = .returned (.tuple #[verVal (nextV ma mi pa e part).1.1 (nextV ma mi pa e part).1.2.1 (nextV ma mi pa e part).1.2.2 ⟨#[]⟩, .int .i64 (nextV ma mi pa e part).2]) ∧ Ext w w'
theorem next_err {ma mi pa : Int} {e : Str} {part : Int} (h : checkV ma mi pa e ≠ 0) : nextV ma mi pa e part = ((0, 0, 0), checkV ma mi pa e) := by rw [nextV, if_neg h]
theorem next_none {ma mi pa : Int} {e : Str} {part : Int} (h : checkV ma mi pa e = 0) (h2 : nextN ma mi pa e part = none) : nextV ma mi pa e part = ((0, 0, 0), 3) := by rw [nextV, if_pos h, h2]
theorem next_ok {ma mi pa : Int} {e : Str} {part x y z : Int} (h : checkV ma mi pa e = 0) (h2 : nextN ma mi pa e part = some (x, y, z)) (h3 : checkV x y z [] = 0) : nextV ma mi pa e part = ((x, y, z), 0) := by
  rw [nextV, if_pos h, h2]
  simp only
  rw [if_pos h3]
theorem next_out {ma mi pa : Int} {e : Str} {part x y z : Int} (h : checkV ma mi pa e = 0) (h2 : nextN ma mi pa e part = some (x, y, z)) (h3 : checkV x y z [] ≠ 0) : nextV ma mi pa e part = ((0, 0, 0), 3) := by
  rw [nextV, if_pos h, h2]
  simp only
  rw [if_neg h3]
theorem post_next {ma mi pa : Int} {e : Str} {part : Int} {w w' : World} {x y z r : Int} (h : nextV ma mi pa e part = ((x, y, z), r)) (hx : Ext w w') : NextPost ma mi pa e part w (.returned (.tuple #[verVal x y z ⟨#[]⟩, .int .i64 r])) w' := by
  unfold NextPost
  rw [h]
  exact ⟨rfl, hx⟩

set_option maxHeartbeats 2000000 in
theorem Next_any (ma mi pa part : Int) (ea : ByteArray) (w : World) (hg : Good w) (hs : ea.size ≤ 2097152) :
    Calls Tryz.prog 25 #[.agg #[.int .i64 ma, .int .i64 mi, .int .i64 pa, .string ea], .int .i64 part] w (NextPost ma mi pa (bs ea) part w) := by
  go_enter Tryz.func25, Tryz.ntmps25
  go_wp2_with fail
  refine (Check_any ma mi pa ea _ (hg.ext (by repeat (first | with_reducible exact Ext.refl _ | with_reducible assumption | with_reducible apply Ext.drewN | with_reducible apply Ext.drew | with_reducible apply Ext.alloc | exact Ext.refl _ | assumption | apply Ext.drewN | apply Ext.drew | apply Ext.alloc))) hs).mono ?_
  rintro e w1 ⟨rfl, hx1⟩
  obtain ⟨hc1, hf1⟩ := hx1.cells
  have hz1 := hx1.size
  have hz2 : w.heap.size + 1 < w1.heap.size := by simp at hz1; omega
  have hz3 : w.heap.size < w1.heap.size := by omega
  clear hz1
  have hxx : Ext w w1 := Ext.trans (by repeat (first | with_reducible exact Ext.refl _ | with_reducible assumption | with_reducible apply Ext.drewN | with_reducible apply Ext.drew | with_reducible apply Ext.alloc | exact Ext.refl _ | assumption | apply Ext.drewN | apply Ext.drew | apply Ext.alloc)) hx1
  by_cases h0 : checkV ma mi pa (bs ea) = 0
  · obtain ⟨p1, p2, p3, p4⟩ := checkV_ok h0
    obtain ⟨p1, p1'⟩ := p1
    obtain ⟨p2, p2'⟩ := p2
    obtain ⟨p3, p3'⟩ := p3
    have H0 := Lib.hid h0
    rw [h0]
    clear h0 p4
    by_cases hp0 : part = 0
    · subst hp0
      have hN : nextN ma mi pa (bs ea) 0 = some (ma + 1, 0, 0) := by rw [nextN, if_pos rfl]
      have HN := Lib.hid hN
      clear hN
      go_wp2_with fail
      refine (Check_any (ma + 1) (0) (0) ⟨#[]⟩ _ (hg.ext (Ext.trans hxx ?_)) (by decide)).mono ?_
      · exact (by repeat (first | with_reducible exact Ext.refl _ | with_reducible assumption | with_reducible apply Ext.drewN | with_reducible apply Ext.drew | with_reducible apply Ext.alloc | ((with_reducible refine Ext.setCell ?_ ?_ _); rotate_left; (first | (dsimp only; omega) | (simp; omega) | skip)) | exact Ext.refl _ | assumption | apply Ext.drewN | apply Ext.drew | apply Ext.alloc | refine Ext.setCell ?_ (by first | (dsimp only; omega) | (simp; omega)) _))
      rintro e w2 ⟨rfl, hx2⟩
      obtain ⟨hc2, hf2⟩ := hx2.cells
      have hz4 := hx2.size
      have hz5 : w1.heap.size < w2.heap.size := by simp at hz4; omega
      have hz6 : w.heap.size + 1 < w2.heap.size := by omega
      have hx3 : Ext w1 w2 := Ext.trans (by repeat (first | with_reducible exact Ext.refl _ | with_reducible assumption | with_reducible apply Ext.drewN | with_reducible apply Ext.drew | with_reducible apply Ext.alloc | ((with_reducible refine Ext.setCell ?_ ?_ _); rotate_left; (first | (dsimp only; omega) | (simp; omega) | skip)) | exact Ext.refl _ | assumption | apply Ext.drewN | apply Ext.drew | apply Ext.alloc | refine Ext.setCell ?_ (by first | (dsimp only; omega) | (simp; omega)) _)) hx2
      have hx4 : Ext w w2 := hxx.trans hx3
      clear hz4
      have hbe : bs { data := #[] } = [] := rfl
      by_cases h5 : checkV (ma + 1) (0) (0) (bs { data := #[] }) = 0
      · have H5 := Lib.hid h5
        rw [h5]
        clear h5
        go_wp2
        refine bodyPost_ret (v := .tuple #[verVal (ma + 1) (0) (0) ⟨#[]⟩, .int .i64 0]) (by simp [results, Tryz.results25, go_sem, hc1, hc2, hz2, hz3]) rfl (post_next (next_ok H0.out HN.out H5.out) ?_)
        exact (by repeat (first | with_reducible exact Ext.refl _ | with_reducible assumption | with_reducible apply Ext.drewN | with_reducible apply Ext.drew | with_reducible apply Ext.alloc | ((with_reducible refine Ext.setCell ?_ ?_ _); rotate_left; (first | (dsimp only; omega) | (simp; omega) | skip)) | exact Ext.refl _ | assumption | apply Ext.drewN | apply Ext.drew | apply Ext.alloc | refine Ext.setCell ?_ (by first | (dsimp only; omega) | (simp; omega)) _))
      · go_wp2
        refine bodyPost_ret (v := .tuple #[verVal 0 0 0 ⟨#[]⟩, .int .i64 3]) (by simp [results, Tryz.results25, go_sem, hc1, hc2, hz2, hz3]) rfl (post_next (next_out H0.out HN.out h5) ?_)
        exact (by repeat (first | with_reducible exact Ext.refl _ | with_reducible assumption | with_reducible apply Ext.drewN | with_reducible apply Ext.drew | with_reducible apply Ext.alloc | ((with_reducible refine Ext.setCell ?_ ?_ _); rotate_left; (first | (dsimp only; omega) | (simp; omega) | skip)) | exact Ext.refl _ | assumption | apply Ext.drewN | apply Ext.drew | apply Ext.alloc | refine Ext.setCell ?_ (by first | (dsimp only; omega) | (simp; omega)) _))
    by_cases hp1 : part = 1
    · subst hp1
      have hN : nextN ma mi pa (bs ea) 1 = some (ma, mi + 1, 0) := by rw [nextN, if_neg (by decide), if_pos rfl]
      have HN := Lib.hid hN
      clear hN
      go_wp2_with fail
      refine (Check_any (ma) (mi + 1) (0) ⟨#[]⟩ _ (hg.ext (Ext.trans hxx ?_)) (by decide)).mono ?_
      · exact (by repeat (first | with_reducible exact Ext.refl _ | with_reducible assumption | with_reducible apply Ext.drewN | with_reducible apply Ext.drew | with_reducible apply Ext.alloc | ((with_reducible refine Ext.setCell ?_ ?_ _); rotate_left; (first | (dsimp only; omega) | (simp; omega) | skip)) | exact Ext.refl _ | assumption | apply Ext.drewN | apply Ext.drew | apply Ext.alloc | refine Ext.setCell ?_ (by first | (dsimp only; omega) | (simp; omega)) _))
      rintro e w2 ⟨rfl, hx2⟩
      obtain ⟨hc2, hf2⟩ := hx2.cells
      have hz4 := hx2.size
      have hz5 : w1.heap.size < w2.heap.size := by simp at hz4; omega
      have hz6 : w.heap.size + 1 < w2.heap.size := by omega
      have hx3 : Ext w1 w2 := Ext.trans (by repeat (first | with_reducible exact Ext.refl _ | with_reducible assumption | with_reducible apply Ext.drewN | with_reducible apply Ext.drew | with_reducible apply Ext.alloc | ((with_reducible refine Ext.setCell ?_ ?_ _); rotate_left; (first | (dsimp only; omega) | (simp; omega) | skip)) | exact Ext.refl _ | assumption | apply Ext.drewN | apply Ext.drew | apply Ext.alloc | refine Ext.setCell ?_ (by first | (dsimp only; omega) | (simp; omega)) _)) hx2
      have hx4 : Ext w w2 := hxx.trans hx3
      clear hz4
      have hbe : bs { data := #[] } = [] := rfl
      by_cases h5 : checkV (ma) (mi + 1) (0) (bs { data := #[] }) = 0
      · have H5 := Lib.hid h5
        rw [h5]
        clear h5
        go_wp2
        refine bodyPost_ret (v := .tuple #[verVal (ma) (mi + 1) (0) ⟨#[]⟩, .int .i64 0]) (by simp [results, Tryz.results25, go_sem, hc1, hc2, hz2, hz3]) rfl (post_next (next_ok H0.out HN.out H5.out) ?_)
        exact (by repeat (first | with_reducible exact Ext.refl _ | with_reducible assumption | with_reducible apply Ext.drewN | with_reducible apply Ext.drew | with_reducible apply Ext.alloc | ((with_reducible refine Ext.setCell ?_ ?_ _); rotate_left; (first | (dsimp only; omega) | (simp; omega) | skip)) | exact Ext.refl _ | assumption | apply Ext.drewN | apply Ext.drew | apply Ext.alloc | refine Ext.setCell ?_ (by first | (dsimp only; omega) | (simp; omega)) _))
      · go_wp2
        refine bodyPost_ret (v := .tuple #[verVal 0 0 0 ⟨#[]⟩, .int .i64 3]) (by simp [results, Tryz.results25, go_sem, hc1, hc2, hz2, hz3]) rfl (post_next (next_out H0.out HN.out h5) ?_)
        exact (by repeat (first | with_reducible exact Ext.refl _ | with_reducible assumption | with_reducible apply Ext.drewN | with_reducible apply Ext.drew | with_reducible apply Ext.alloc | ((with_reducible refine Ext.setCell ?_ ?_ _); rotate_left; (first | (dsimp only; omega) | (simp; omega) | skip)) | exact Ext.refl _ | assumption | apply Ext.drewN | apply Ext.drew | apply Ext.alloc | refine Ext.setCell ?_ (by first | (dsimp only; omega) | (simp; omega)) _))
    by_cases hp2 : part = 2
    · subst hp2
      rcases Nat.eq_zero_or_pos ea.size with hs0 | hs0
      · have hi := emp_bool hs0
        have hN : nextN ma mi pa (bs ea) 2 = some (ma, mi, pa + 1) := by rw [nextN, if_neg (by decide), if_neg (by decide), if_pos rfl, if_pos (bs_nil hs0)]
        have HN := Lib.hid hN
        clear hN
        go_wp2_with fail
        refine (Check_any (ma) (mi) (pa + 1) ⟨#[]⟩ _ (hg.ext (Ext.trans hxx ?_)) (by decide)).mono ?_
        · exact (by repeat (first | with_reducible exact Ext.refl _ | with_reducible assumption | with_reducible apply Ext.drewN | with_reducible apply Ext.drew | with_reducible apply Ext.alloc | ((with_reducible refine Ext.setCell ?_ ?_ _); rotate_left; (first | (dsimp only; omega) | (simp; omega) | skip)) | exact Ext.refl _ | assumption | apply Ext.drewN | apply Ext.drew | apply Ext.alloc | refine Ext.setCell ?_ (by first | (dsimp only; omega) | (simp; omega)) _))
        rintro e w2 ⟨rfl, hx2⟩
        obtain ⟨hc2, hf2⟩ := hx2.cells
        have hz4 := hx2.size
        have hz5 : w1.heap.size < w2.heap.size := by simp at hz4; omega
        have hz6 : w.heap.size + 1 < w2.heap.size := by omega
        have hx3 : Ext w1 w2 := Ext.trans (by repeat (first | with_reducible exact Ext.refl _ | with_reducible assumption | with_reducible apply Ext.drewN | with_reducible apply Ext.drew | with_reducible apply Ext.alloc | ((with_reducible refine Ext.setCell ?_ ?_ _); rotate_left; (first | (dsimp only; omega) | (simp; omega) | skip)) | exact Ext.refl _ | assumption | apply Ext.drewN | apply Ext.drew | apply Ext.alloc | refine Ext.setCell ?_ (by first | (dsimp only; omega) | (simp; omega)) _)) hx2
        have hx4 : Ext w w2 := hxx.trans hx3
        clear hz4
        have hbe : bs { data := #[] } = [] := rfl
        by_cases h5 : checkV (ma) (mi) (pa + 1) (bs { data := #[] }) = 0
        · have H5 := Lib.hid h5
          rw [h5]
          clear h5
          go_wp2
          refine bodyPost_ret (v := .tuple #[verVal (ma) (mi) (pa + 1) ⟨#[]⟩, .int .i64 0]) (by simp [results, Tryz.results25, go_sem, hc1, hc2, hz2, hz3]) rfl (post_next (next_ok H0.out HN.out H5.out) ?_)
          exact (by repeat (first | with_reducible exact Ext.refl _ | with_reducible assumption | with_reducible apply Ext.drewN | with_reducible apply Ext.drew | with_reducible apply Ext.alloc | ((with_reducible refine Ext.setCell ?_ ?_ _); rotate_left; (first | (dsimp only; omega) | (simp; omega) | skip)) | exact Ext.refl _ | assumption | apply Ext.drewN | apply Ext.drew | apply Ext.alloc | refine Ext.setCell ?_ (by first | (dsimp only; omega) | (simp; omega)) _))
        · go_wp2
          refine bodyPost_ret (v := .tuple #[verVal 0 0 0 ⟨#[]⟩, .int .i64 3]) (by simp [results, Tryz.results25, go_sem, hc1, hc2, hz2, hz3]) rfl (post_next (next_out H0.out HN.out h5) ?_)
          exact (by repeat (first | with_reducible exact Ext.refl _ | with_reducible assumption | with_reducible apply Ext.drewN | with_reducible apply Ext.drew | with_reducible apply Ext.alloc | ((with_reducible refine Ext.setCell ?_ ?_ _); rotate_left; (first | (dsimp only; omega) | (simp; omega) | skip)) | exact Ext.refl _ | assumption | apply Ext.drewN | apply Ext.drew | apply Ext.alloc | refine Ext.setCell ?_ (by first | (dsimp only; omega) | (simp; omega)) _))
      · have hi := nemp_bool hs0
        have hne : ¬ bs ea = [] := fun e => by have := bs_length ea; rw [e] at this; simp at this; omega
        have hN : nextN ma mi pa (bs ea) 2 = some (ma, mi, pa) := by rw [nextN, if_neg (by decide), if_neg (by decide), if_pos rfl, if_neg hne]
        have HN := Lib.hid hN
        clear hN
        go_wp2_with fail
        refine (Check_any (ma) (mi) (pa) ⟨#[]⟩ _ (hg.ext (Ext.trans hxx ?_)) (by decide)).mono ?_
        · exact (by repeat (first | with_reducible exact Ext.refl _ | with_reducible assumption | with_reducible apply Ext.drewN | with_reducible apply Ext.drew | with_reducible apply Ext.alloc | ((with_reducible refine Ext.setCell ?_ ?_ _); rotate_left; (first | (dsimp only; omega) | (simp; omega) | skip)) | exact Ext.refl _ | assumption | apply Ext.drewN | apply Ext.drew | apply Ext.alloc | refine Ext.setCell ?_ (by first | (dsimp only; omega) | (simp; omega)) _))
        rintro e w2 ⟨rfl, hx2⟩
        obtain ⟨hc2, hf2⟩ := hx2.cells
        have hz4 := hx2.size
        have hz5 : w1.heap.size < w2.heap.size := by simp at hz4; omega
        have hz6 : w.heap.size + 1 < w2.heap.size := by omega
        have hx3 : Ext w1 w2 := Ext.trans (by repeat (first | with_reducible exact Ext.refl _ | with_reducible assumption | with_reducible apply Ext.drewN | with_reducible apply Ext.drew | with_reducible apply Ext.alloc | ((with_reducible refine Ext.setCell ?_ ?_ _); rotate_left; (first | (dsimp only; omega) | (simp; omega) | skip)) | exact Ext.refl _ | assumption | apply Ext.drewN | apply Ext.drew | apply Ext.alloc | refine Ext.setCell ?_ (by first | (dsimp only; omega) | (simp; omega)) _)) hx2
        have hx4 : Ext w w2 := hxx.trans hx3
        clear hz4
        have hbe : bs { data := #[] } = [] := rfl
        by_cases h5 : checkV (ma) (mi) (pa) (bs { data := #[] }) = 0
        · have H5 := Lib.hid h5
          rw [h5]
          clear h5
          go_wp2
          refine bodyPost_ret (v := .tuple #[verVal (ma) (mi) (pa) ⟨#[]⟩, .int .i64 0]) (by simp [results, Tryz.results25, go_sem, hc1, hc2, hz2, hz3]) rfl (post_next (next_ok H0.out HN.out H5.out) ?_)
          exact (by repeat (first | with_reducible exact Ext.refl _ | with_reducible assumption | with_reducible apply Ext.drewN | with_reducible apply Ext.drew | with_reducible apply Ext.alloc | ((with_reducible refine Ext.setCell ?_ ?_ _); rotate_left; (first | (dsimp only; omega) | (simp; omega) | skip)) | exact Ext.refl _ | assumption | apply Ext.drewN | apply Ext.drew | apply Ext.alloc | refine Ext.setCell ?_ (by first | (dsimp only; omega) | (simp; omega)) _))
        · go_wp2
          refine bodyPost_ret (v := .tuple #[verVal 0 0 0 ⟨#[]⟩, .int .i64 3]) (by simp [results, Tryz.results25, go_sem, hc1, hc2, hz2, hz3]) rfl (post_next (next_out H0.out HN.out h5) ?_)
          exact (by repeat (first | with_reducible exact Ext.refl _ | with_reducible assumption | with_reducible apply Ext.drewN | with_reducible apply Ext.drew | with_reducible apply Ext.alloc | ((with_reducible refine Ext.setCell ?_ ?_ _); rotate_left; (first | (dsimp only; omega) | (simp; omega) | skip)) | exact Ext.refl _ | assumption | apply Ext.drewN | apply Ext.drew | apply Ext.alloc | refine Ext.setCell ?_ (by first | (dsimp only; omega) | (simp; omega)) _))
    have hN : nextN ma mi pa (bs ea) part = none := by rw [nextN, if_neg hp0, if_neg hp1, if_neg hp2]
    have HN := Lib.hid hN
    have b0 : (part == 0) = false := by simpa using hp0
    have b1 : (part == 1) = false := by simpa using hp1
    have b2 : (part == 2) = false := by simpa using hp2
    have b3 : (part != 2) = true := by simpa using hp2
    clear hN hp0 hp1 hp2
    go_wp2
    refine bodyPost_ret (v := .tuple #[verVal 0 0 0 ⟨#[]⟩, .int .i64 3]) (by simp [results, Tryz.results25, go_sem, hc1, hz2]) rfl (post_next (next_none H0.out HN.out) ?_)
    exact (by repeat (first | with_reducible exact Ext.refl _ | with_reducible assumption | with_reducible apply Ext.drewN | with_reducible apply Ext.drew | with_reducible apply Ext.alloc | ((with_reducible refine Ext.setCell ?_ ?_ _); rotate_left; (first | (dsimp only; omega) | (simp; omega) | skip)) | exact Ext.refl _ | assumption | apply Ext.drewN | apply Ext.drew | apply Ext.alloc | refine Ext.setCell ?_ (by first | (dsimp only; omega) | (simp; omega)) _))
  · go_wp2
    refine bodyPost_ret (v := .tuple #[verVal 0 0 0 ⟨#[]⟩, .int .i64 (checkV ma mi pa (bs ea))]) (by simp [results, Tryz.results25, go_sem, hc1]) rfl (post_next (next_err h0) ?_)
    exact (by repeat (first | with_reducible exact Ext.refl _ | with_reducible assumption | with_reducible apply Ext.drewN | with_reducible apply Ext.drew | with_reducible apply Ext.alloc | ((with_reducible refine Ext.setCell ?_ ?_ _); rotate_left; (first | (dsimp only; omega) | (simp; omega) | skip)) | exact Ext.refl _ | assumption | apply Ext.drewN | apply Ext.drew | apply Ext.alloc | refine Ext.setCell ?_ (by first | (dsimp only; omega) | (simp; omega)) _))
end Go.Proofs.YtghhjlcbcojcnaaGreatDoor

namespace Go.Proofs.YtghhjlcbcojcnaaGreatDoor
open Go.RowKit

def numOk (l : Str) : Bool := eachL digitB l 9 && !((l.headD 0 == 48) && (l != [48]))
def numV (l : Str) : Int := if numOk l = true then decVal l else 0
theorem eachL_digits {l : Str} {n : Nat} (h : eachL digitB l n = true) : l.all digitB = true ∧ 0 < l.length ∧ l.length ≤ n := by
  unfold eachL at h
  simp only [Bool.and_eq_true, decide_eq_true_eq] at h
  exact ⟨h.1.1, h.1.2, h.2⟩
theorem no_bad {x : ByteArray} {h0 : 0 < x.size} (hh : (bs x).headD 0 = x[0]) (h1 : (x[0].toNat : Int) = 48) (h2 : (!x.toList == [48]) = true) : numOk (bs x) = false := by
  have h3 : x[0] = 48 := UInt8.toNat_inj.1 (by show x[0].toNat = 48; omega)
  rw [ByteArray.toList_eq] at h2
  have h4 : (bs x != [48]) = true := h2
  rw [numOk, hh, h3, h4]
  simp
theorem no_good1 {x : ByteArray} (hp : eachL digitB (bs x) 9 = true) (h2 : (!x.toList == [48]) = false) : numOk (bs x) = true := by
  rw [ByteArray.toList_eq] at h2
  have h4 : (bs x != [48]) = false := h2
  rw [numOk, hp, h4]
  simp
theorem no_good2 {x : ByteArray} {h0 : 0 < x.size} (hp : eachL digitB (bs x) 9 = true) (hh : (bs x).headD 0 = x[0]) (h1 : ¬ (x[0].toNat : Int) = 48) : numOk (bs x) = true := by
  have h3 : (x[0] == 48) = false := by
    rw [beq_eq_false_iff_ne]
    intro e
    rw [e] at h1
    exact h1 rfl
  rw [numOk, hp, hh, h3]
  simp

set_option maxHeartbeats 1000000 in
theorem number_any (s : ByteArray) (w : World) (hg : GoodN w) (hs : s.size ≤ 2097152) :
    Calls Tryz.prog 108 #[.string s] w fun e w' => e = .returned (.tuple #[.int .i64 (numV (bs s)), .bool (numOk (bs s))]) ∧ Ext w w' := by
  go_enter Tryz.func108, Tryz.ntmps108
  go_wp2_with fail
  refine (each_list _ _ s 9 _ hs isDigit_pred).mono ?_
  rintro e w' ⟨rfl, rfl⟩
  cases hp : eachL digitB (bs s) 9
  · go_wp2
    go_ret2
    refine ⟨?_, Ext.refl _⟩
    have h1 : numOk (bs s) = false := by rw [numOk, hp]; rfl
    rw [numV, h1]
    rfl
  · have h0 := eachL_pos hp
    have hh := head_bs s h0
    have HH := Lib.hid hh
    clear hh
    have hok : numOk (bs s) = true → numV (bs s) = (decVal (bs s) : Nat) ∧ Lib.atoiAll (bs s) = .ok ((decVal (bs s) : Nat) : Int) := fun h => by
      obtain ⟨d1, d2, d3⟩ := eachL_digits hp
      exact ⟨by rw [numV, if_pos h], atoi_digits _ d1 d2 (by omega)⟩
    have HOK := Lib.hid hok
    clear hok
    go_wp2_with fail
    · go_ret2
      refine ⟨?_, Ext.refl _⟩
      have h1 : numOk (bs s) = false := no_bad HH.out (by assumption) (by assumption)
      rw [numV, h1]
      rfl
    · have hN : numOk (bs s) = true := no_good1 hp (by assumption)
      have HN := Lib.hid hN
      clear hN
      refine (atoi_any s _ hg hs).mono ?_
      rintro e w1 ⟨v, ev, rfl, hx1, hv, hev⟩
      obtain ⟨rfl, rfl⟩ := hv _ (HOK.out HN.out).2
      have hV := (HOK.out HN.out).1
      have HV := Lib.hid hV
      clear hV hv hev
      go_wp2_with fail
      refine wp_region_ext (by kernel_rfl) (by kernel_rfl) ?_
      repeat (first | go_big_quiet_skip | (refine wpQuiet_step (fun K hK => ?_); go_simp; first | (refine hK _ ?_; clear hK K) | (apply Exists.intro; refine ⟨fun wq hwq => ?_, hK _ ?_⟩; (obtain ⟨hqc, hqf⟩ := hwq.cells; have hqs := hwq.size; (try go_simp); first | rfl | ((first | rw [if_neg (by omega)] | rw [if_pos (by omega)]); (try go_simp); rfl) | ((fail))); clear hK K)))
      refine wpQuiet_nil ?_
      intro wN hxN
      obtain ⟨hcN, hfN⟩ := hxN.cells
      have hsN := hxN.size
      go_wp2
      go_ret2
      refine ⟨?_, hx1.trans hxN⟩
      rw [HV.out, HN.out]
      rfl
    · have hN : numOk (bs s) = true := no_good2 hp HH.out (by assumption)
      have HN := Lib.hid hN
      clear hN
      refine (atoi_any s _ hg hs).mono ?_
      rintro e w1 ⟨v, ev, rfl, hx1, hv, hev⟩
      obtain ⟨rfl, rfl⟩ := hv _ (HOK.out HN.out).2
      have hV := (HOK.out HN.out).1
      have HV := Lib.hid hV
      clear hV hv hev
      go_wp2_with fail
      refine wp_region_ext (by kernel_rfl) (by kernel_rfl) ?_
      repeat (first | go_big_quiet_skip | (refine wpQuiet_step (fun K hK => ?_); go_simp; first | (refine hK _ ?_; clear hK K) | (apply Exists.intro; refine ⟨fun wq hwq => ?_, hK _ ?_⟩; (obtain ⟨hqc, hqf⟩ := hwq.cells; have hqs := hwq.size; (try go_simp); first | rfl | ((first | rw [if_neg (by omega)] | rw [if_pos (by omega)]); (try go_simp); rfl) | ((fail))); clear hK K)))
      refine wpQuiet_nil ?_
      intro wN hxN
      obtain ⟨hcN, hfN⟩ := hxN.cells
      have hsN := hxN.size
      go_wp2
      go_ret2
      refine ⟨?_, hx1.trans hxN⟩
      rw [HV.out, HN.out]
      rfl
end Go.Proofs.YtghhjlcbcojcnaaGreatDoor
