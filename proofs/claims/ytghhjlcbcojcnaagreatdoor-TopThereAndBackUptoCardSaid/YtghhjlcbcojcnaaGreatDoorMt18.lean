/- Contract of outref2.ReadRule's closure 'take'. -/
import Derived.Test.YtghhjlcbcojcnaaGreatDoorMt17

namespace Go.Proofs.YtghhjlcbcojcnaaGreatDoor
open Go.RowKit

theorem unq_tail {l t z : Str} (h : unq l = some (t, z)) : z.length < l.length ∧ l.drop (l.length - z.length) = z := by
  have e := unq_back l.length l t z (Nat.le_refl _) h
  have hl : l.length = (esc t).length + 1 + z.length := by rw [e]; simp; omega
  refine ⟨by omega, ?_⟩
  have e2 : l = (esc t ++ [34]) ++ z := by rw [e]; simp
  have hn : l.length - z.length = (esc t ++ [34]).length := by simp; omega
  rw [hn]
  conv => lhs; rw [e2]
  exact List.drop_left
theorem quotedL_cons {l : Str} (h : ([34] : Str).isPrefixOf l = true) : quotedL l = unq (l.drop 1) := by
  cases l with
  | nil => simp at h
  | cons c r =>
    have hc : (34 : UInt8) = c := by simpa [List.isPrefixOf] using h
    subst hc; rfl
theorem quotedL_no {l : Str} (h : ([34] : Str).isPrefixOf l = false) : quotedL l = none := by
  unfold quotedL
  split
  · simp [List.isPrefixOf] at h
  · rfl
def takeR (last : Bool) : Option (Str × Str) → Option (Str × Str)
  | none => none
  | some (v, z) => if last = true then some (v, z) else if ([32] : Str).isPrefixOf z = true then some (v, z.drop 1) else none
theorem takeQ_R (last : Bool) (s : Str) : takeQ last s = takeR last (quotedL s) := by
  unfold takeQ takeR
  cases quotedL s with
  | none => rfl
  | some x =>
    obtain ⟨v, z⟩ := x
    cases last
    · cases z with
      | nil => rfl
      | cons c r =>
        by_cases hc : c = 32
        · subst hc; rfl
        · have h1 : ([32] : Str).isPrefixOf (c :: r) = false := by
            have : ((32 : UInt8) == c) = false := by rw [beq_eq_false_iff_ne]; exact fun e => hc e.symm
            simp [List.isPrefixOf, this]
          simp only [h1]
          split
          · rename_i e; cases e
          · split
            · rename_i e; injection e with e _; exact absurd e hc
            · rfl
    · rfl
/-- what 'take' leaves -/
def Taken (w0 w' : World) (gR gS gI off : Nat) (cs : Array Value) (x : ByteArray) : Option (Str × Str) → Prop
  | none => Ext w0 w' ∧ Blk w' gR 4 #[.bool false] ∧ Blk w' gS 9 #[.string x] ∧ Blk w' gI 23 cs
  | some (v, z) => Ext w0 w' ∧ Blk w' gR 4 #[.bool true] ∧ Blk w' gS 9 #[S z] ∧ Blk w' gI 23 (cs.setIfInBounds off (S v))
theorem take_skip (last right : Bool) (is : Bool) (gR gS gI off : Nat) (w : World) (hR : Blk w gR 4 #[.bool right]) (h : is = false ∨ right = false) :
    Calls Tryz.prog 88 #[.bool is, .pointer (some ⟨gI, off, none⟩), .bool last, .pointer (some ⟨gR, 0, none⟩), .pointer (some ⟨gS, 0, none⟩)] w fun e w' => e = .returned (.tuple #[]) ∧ w = w' := by
  have cR := hR.cell 0
  have cR' : w.cell? ⟨gR, 0, none⟩ = some (.bool right) := by rw [cR]; rfl
  clear cR
  cases is
  · go_enter Tryz.func88, Tryz.ntmps88
    go_wp2
    refine bodyPost_ret (results_none rfl _ _ _) rfl ?_
    exact ⟨rfl, rfl⟩
  · obtain rfl : right = false := by simpa using h
    go_enter Tryz.func88, Tryz.ntmps88
    go_wp2
    refine bodyPost_ret (results_none rfl _ _ _) rfl ?_
    exact ⟨rfl, rfl⟩
set_option maxRecDepth 100000 in
set_option maxHeartbeats 8000000 in
theorem take_any (last : Bool) (gR gS gI off : Nat) (cs : Array Value) (x : ByteArray) (w0 w : World) (hx : Ext w0 w) (h0R : w0.heap.size ≤ gR) (h0S : w0.heap.size ≤ gS) (h0I : w0.heap.size ≤ gI) (nRS : gR ≠ gS) (nRI : gR ≠ gI) (nSI : gS ≠ gI)
    (hR : Blk w gR 4 #[.bool true]) (hS : Blk w gS 9 #[.string x]) (hI : Blk w gI 23 cs) (u : Value) (ho : cs[off]? = some u) (hxs : x.size ≤ 2097152) :
    Calls Tryz.prog 88 #[.bool true, .pointer (some ⟨gI, off, none⟩), .bool last, .pointer (some ⟨gR, 0, none⟩), .pointer (some ⟨gS, 0, none⟩)] w fun e w' => e = .returned (.tuple #[]) ∧ Taken w0 w' gR gS gI off cs x (takeQ last (bs x)) := by
  have cR : w.cell? ⟨gR, 0, none⟩ = some (.bool true) := hR.cell 0
  have cS : w.cell? ⟨gS, 0, none⟩ = some (.string x) := hS.cell 0
  have cI : w.cell? ⟨gI, off, none⟩ = some u := (hI.cell off).trans ho
  have fR := hR.free 0
  have fS := hS.free 0
  have fI := hI.free off
  have hqa := quotedAt_any x 0
  by_cases hP : ([34] : Str).isPrefixOf (bs x) = true
  rotate_left
  · have hP : ([34] : Str).isPrefixOf (bs x) = false := (Bool.not_eq_true _).mp hP
    have ht : takeQ last (bs x) = none := by rw [takeQ, quotedL_no hP]
    rw [ht]
    have hfin : Taken w0 (w.setCell ⟨gR, 0, none⟩ (.bool false)) gR gS gI off cs x none := ⟨hx.setCell h0R _, by simpa using hR.set 0 (.bool false), hS.far (Ne.symm nRS) _, hI.far (Ne.symm nRI) _⟩
    have HF := Lib.hid hfin
    have hpx := hasPrefix_any x ⟨#[34]⟩
    rw [show bs (⟨#[34]⟩ : ByteArray) = [34] from rfl, hP] at hpx
    have HPX := Lib.hid hpx
    have HQA := Lib.hid hqa
    clear hfin hpx hqa hP ht hR hS hI
    go_enter Tryz.func88, Tryz.ntmps88
    go_wp2_with fail
    refine (HQA.out _ hxs (by omega)).mono ?_
    rintro e w' ⟨rfl, rfl⟩
    go_wp2_with fail
    refine (HPX.out _).mono ?_
    rintro e w' ⟨rfl, rfl⟩
    go_wp2
    refine bodyPost_ret (results_none rfl _ _ _) rfl ?_
    exact ⟨rfl, HF.out⟩
  have hqc := quotedL_cons hP
  have hpx := hasPrefix_any x ⟨#[34]⟩
  rw [show bs (⟨#[34]⟩ : ByteArray) = [34] from rfl, hP] at hpx
  have HPX := Lib.hid hpx
  clear hpx hP
  obtain ⟨R, hR2⟩ : ∃ R, unq ((bs x).drop 1) = R := ⟨_, rfl⟩
  have hqv : qat (bs x) 0 = qatR x.size R := by rw [qat, hR2, bs_length]
  rw [hqv] at hqa
  have ht : takeQ last (bs x) = takeR last R := by rw [takeQ_R, hqc, hR2]
  rw [ht]
  clear ht hqv hqc
  cases R with
  | none =>
    have hfin : Taken w0 (w.setCell ⟨gR, 0, none⟩ (.bool false)) gR gS gI off cs x none := ⟨hx.setCell h0R _, by simpa using hR.set 0 (.bool false), hS.far (Ne.symm nRS) _, hI.far (Ne.symm nRI) _⟩
    have HF := Lib.hid hfin
    have HQA := Lib.hid hqa
    clear hfin hqa hR2 hR hS hI
    go_enter Tryz.func88, Tryz.ntmps88
    go_wp2_with fail
    refine (HQA.out _ hxs (by omega)).mono ?_
    rintro e w' ⟨rfl, rfl⟩
    go_wp2_with fail
    refine (HPX.out _).mono ?_
    rintro e w' ⟨rfl, rfl⟩
    go_wp2
    refine bodyPost_ret (results_none rfl _ _ _) rfl ?_
    exact ⟨rfl, HF.out⟩
  | some y =>
    obtain ⟨v, z⟩ := y
    have htl := unq_tail hR2
    rw [List.length_drop, bs_length] at htl
    have hzl : z.length ≤ x.size := by omega
    have hkk : x.size - z.length ≤ x.size := Nat.sub_le _ _
    have hrest : bs (x.extract (x.size - z.length) x.size) = z := by
      rw [show bs (x.extract (x.size - z.length) x.size) = (bs x).drop (x.size - z.length) from Lib.extract_to_end x _]
      have e := htl.2
      rw [List.drop_drop] at e
      have h1 := htl.1
      have h2 : x.size - z.length = 1 + (x.size - 1 - z.length) := by omega
      rw [h2]
      exact e
    dsimp only [qatR] at hqa
    generalize x.size - z.length = K at *
    have HQA := Lib.hid hqa
    have HRS := Lib.hid hrest
    have hzs : (x.extract K x.size).size = z.length := by rw [← bs_length, hrest]
    have HZS := Lib.hid hzs
    clear hzs
    clear hqa hR2 htl hrest
    have hKi : (K : Int) ≤ x.size := by omega
    have hK0 : (0 : Int) ≤ K := by omega
    cases last
    rotate_left
    · have hfin : Taken w0 ((w.setCell ⟨gI, off, none⟩ (S v)).setCell ⟨gS, 0, none⟩ (.string (x.extract K x.size))) gR gS gI off cs x (some (v, z)) :=
        ⟨(hx.setCell h0I _).setCell h0S _, (hR.far nRI _).far nRS _, by rw [← str_S HRS.out]; simpa using (hS.far (p := ⟨gI, off, none⟩) nSI (S v)).set 0 (.string (x.extract K x.size)), (hI.set off (S v)).far (Ne.symm nSI) _⟩
      have HF := Lib.hid hfin
      clear hfin hR hS hI
      go_enter Tryz.func88, Tryz.ntmps88
      go_wp2_with fail
      refine (HQA.out _ hxs (by omega)).mono ?_
      rintro e w' ⟨rfl, rfl⟩
      go_wp2_with fail
      refine (HPX.out _).mono ?_
      rintro e w' ⟨rfl, rfl⟩
      go_wp2
      go_outline
      go_region
      all_goals
        go_wp2
        go_end0
        exact ⟨rfl, HF.out.1.drew, blk_drew HF.out.2.1, blk_drew HF.out.2.2.1, blk_drew HF.out.2.2.2⟩
    · obtain ⟨X, hX⟩ : ∃ X, x.extract K x.size = X := ⟨_, rfl⟩
      have hXb := HRS.out
      have hXs := HZS.out
      rw [hX] at hXb hXs
      have HRX := Lib.hid hXb
      have HZX := Lib.hid hXs
      clear hXb hXs HRS HZS
      have hp2 := hasPrefix_any X ⟨#[32]⟩
      rw [show bs (⟨#[32]⟩ : ByteArray) = [32] from rfl, HRX.out] at hp2
      by_cases hz : ([32] : Str).isPrefixOf z = true
      rotate_left
      · have hz : ([32] : Str).isPrefixOf z = false := (Bool.not_eq_true _).mp hz
        have hfin : Taken w0 (w.setCell ⟨gR, 0, none⟩ (.bool false)) gR gS gI off cs x none := ⟨hx.setCell h0R _, by simpa using hR.set 0 (.bool false), hS.far (Ne.symm nRS) _, hI.far (Ne.symm nRI) _⟩
        have ht : takeR false (some (v, z)) = none := by simp only [takeR, hz]; rfl
        rw [ht]
        rw [hz] at hp2
        have HP2 := Lib.hid hp2
        have HF := Lib.hid hfin
        clear hfin hR hS hI ht hz hp2
        go_enter Tryz.func88, Tryz.ntmps88
        go_wp2_with fail
        refine (HQA.out _ hxs (by omega)).mono ?_
        rintro e w' ⟨rfl, rfl⟩
        go_wp2_with fail
        refine (HPX.out _).mono ?_
        rintro e w' ⟨rfl, rfl⟩
        go_wp2_with fail
        refine (HP2.out _).mono ?_
        rintro e w' ⟨rfl, rfl⟩
        go_wp2
        refine bodyPost_ret (results_none rfl _ _ _) rfl ?_
        exact ⟨rfl, HF.out⟩
      have hz1 : 1 ≤ z.length := (List.isPrefixOf_iff_prefix.1 hz).length_le
      have ht : takeR false (some (v, z)) = some (v, z.drop 1) := by simp only [takeR, hz]; rfl
      rw [ht]
      rw [hz] at hp2
      have hd : bs (X.extract 1 X.size) = z.drop 1 := by rw [show bs (X.extract 1 X.size) = (bs X).drop 1 from Lib.extract_to_end _ 1, HRX.out]
      have hW1 : Blk ((w.setCell ⟨gI, off, none⟩ (S v)).setCell ⟨gS, 0, none⟩ (.string X)) gS 9 #[.string X] := (by simpa using (hS.far (p := ⟨gI, off, none⟩) nSI (S v)).set 0 (.string X))
      have hfin : Taken w0 ((((w.setCell ⟨gI, off, none⟩ (S v)).setCell ⟨gS, 0, none⟩ (.string X)).setCell ⟨gS, 0, none⟩ (.string (X.extract 1 X.size))).drew) gR gS gI off cs x (some (v, z.drop 1)) :=
        ⟨(((hx.setCell h0I _).setCell h0S _).setCell h0S _).drew, blk_drew (((hR.far nRI _).far nRS _).far nRS _), by rw [← str_S hd]; exact blk_drew (by simpa using hW1.set 0 (.string (X.extract 1 X.size))), blk_drew (((hI.set off (S v)).far (Ne.symm nSI) _).far (Ne.symm nSI) _)⟩
      have HF := Lib.hid hfin
      have HP2 := Lib.hid hp2
      have cW : ((w.setCell ⟨gI, off, none⟩ (S v)).setCell ⟨gS, 0, none⟩ (.string X)).cell? ⟨gS, 0, none⟩ = some (.string X) := hW1.cell 0
      have hz2 : 1 ≤ X.size := by have := HZX.out; omega
      clear hfin hR hS hI ht hz hp2 hd hW1
      go_enter Tryz.func88, Tryz.ntmps88
      go_wp2_with fail
      refine (HQA.out _ hxs (by omega)).mono ?_
      rintro e w' ⟨rfl, rfl⟩
      go_wp2_with fail
      refine (HPX.out _).mono ?_
      rintro e w' ⟨rfl, rfl⟩
      go_wp2_with fail
      refine (HP2.out _).mono ?_
      rintro e w' ⟨rfl, rfl⟩
      go_wp2
      go_region
      all_goals
        go_wp2
        go_end0
        exact ⟨rfl, HF.out⟩
end Go.Proofs.YtghhjlcbcojcnaaGreatDoor
