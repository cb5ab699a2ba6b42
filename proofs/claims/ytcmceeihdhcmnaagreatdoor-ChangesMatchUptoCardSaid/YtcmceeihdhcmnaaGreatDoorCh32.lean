/- Contract of outref2.ReadRule's closure 'take'. Rules compared; a right rule's text is read back; the set's example (migrates). Contracts of ver.quotedAt, ver.isBlank, ver.kindOf. The condition reader of the program in memory: its state; 'is', 'fail'. -/
import Derived.Test.YtcmceeihdhcmnaaGreatDoorCh31
import Derived.Test.YtcmceeihdhcmnaaGreatDoorCh28
import Derived.Test.YtcmceeihdhcmnaaGreatDoorCh03

namespace Go.Proofs.YtcmceeihdhcmnaaGreatDoor
open Go.RowKit

theorem unq_tail {l t z : Str} (h : unq l = some (t, z)) : z.length < l.length ∧ l.drop (l.length - z.length) = z := by
  have e := unq_back l.length l t z (Nat.le_refl _) h
  have hl : l.length = (esc t).length + 1 + z.length := by rw [e]; simp; omega
  refine ⟨by omega, ?_⟩
  have e2 : l = (esc t ++ [34]) ++ z := by rw [e]; simp
  have hn : l.length - z.length = (esc t ++ [34]).length := by simp; omega
  rw [hn]
  conv => lhs; rw [e2]
  exact List.drop_left
theorem quotedL_cons {l : Str} (h : ([34] : Str).isPrefixOf l = true) : quotedL l = unq (l.drop 1) := by
  cases l with
  | nil => simp at h
  | cons c r =>
    have hc : (34 : UInt8) = c := by simpa [List.isPrefixOf] using h
    subst hc; rfl
theorem quotedL_no {l : Str} (h : ([34] : Str).isPrefixOf l = false) : quotedL l = none := by
  unfold quotedL
  split
  · simp [List.isPrefixOf] at h
  · rfl
def takeR (last : Bool) : Option (Str × Str) → Option (Str × Str)
  | none => none
  | some (v, z) => if last = true then some (v, z) else if ([32] : Str).isPrefixOf z = true then some (v, z.drop 1) else none
theorem takeQ_R (last : Bool) (s : Str) : takeQ last s = takeR last (quotedL s) := by
  unfold takeQ takeR
  cases quotedL s with
  | none => rfl
  | some x =>
    obtain ⟨v, z⟩ := x
    cases last
    · cases z with
      | nil => rfl
      | cons c r =>
        by_cases hc : c = 32
        · subst hc; rfl
        · have h1 : ([32] : Str).isPrefixOf (c :: r) = false := by
            have : ((32 : UInt8) == c) = false := by rw [beq_eq_false_iff_ne]; exact fun e => hc e.symm
            simp [List.isPrefixOf, this]
          simp only [h1]
          split
          · rename_i e; cases e
          · split
            · rename_i e; injection e with e _; exact absurd e hc
            · rfl
    · rfl
/-- what 'take' leaves -/
def Taken (w0 w' : World) (gR gS gI off : Nat) (cs : Array Value) (x : ByteArray) : Option (Str × Str) → Prop
  | none => Ext w0 w' ∧ Blk w' gR 4 #[.bool false] ∧ Blk w' gS 9 #[.string x] ∧ Blk w' gI 23 cs
  | some (v, z) => Ext w0 w' ∧ Blk w' gR 4 #[.bool true] ∧ Blk w' gS 9 #[S z] ∧ Blk w' gI 23 (cs.setIfInBounds off (S v))
theorem take_skip (last right : Bool) (is : Bool) (gR gS gI off : Nat) (w : World) (hR : Blk w gR 4 #[.bool right]) (h : is = false ∨ right = false) :
    Calls Tryz.prog 69 #[.bool is, .pointer (some ⟨gI, off, none⟩), .bool last, .pointer (some ⟨gR, 0, none⟩), .pointer (some ⟨gS, 0, none⟩)] w fun e w' => e = .returned (.tuple #[]) ∧ w = w' := by
  have cR := hR.cell 0
  have cR' : w.cell? ⟨gR, 0, none⟩ = some (.bool right) := by rw [cR]; rfl
  clear cR
  cases is
  · go_enter Tryz.func69, Tryz.ntmps69
    go_wp2
    refine bodyPost_ret (results_none rfl _ _ _) rfl ?_
    exact ⟨rfl, rfl⟩
  · obtain rfl : right = false := by simpa using h
    go_enter Tryz.func69, Tryz.ntmps69
    go_wp2
    refine bodyPost_ret (results_none rfl _ _ _) rfl ?_
    exact ⟨rfl, rfl⟩
set_option maxRecDepth 100000 in
set_option maxHeartbeats 8000000 in
theorem take_any (last : Bool) (gR gS gI off : Nat) (cs : Array Value) (x : ByteArray) (w0 w : World) (hx : Ext w0 w) (h0R : w0.heap.size ≤ gR) (h0S : w0.heap.size ≤ gS) (h0I : w0.heap.size ≤ gI) (nRS : gR ≠ gS) (nRI : gR ≠ gI) (nSI : gS ≠ gI)
    (hR : Blk w gR 4 #[.bool true]) (hS : Blk w gS 9 #[.string x]) (hI : Blk w gI 23 cs) (u : Value) (ho : cs[off]? = some u) (hxs : x.size ≤ 2097152) :
    Calls Tryz.prog 69 #[.bool true, .pointer (some ⟨gI, off, none⟩), .bool last, .pointer (some ⟨gR, 0, none⟩), .pointer (some ⟨gS, 0, none⟩)] w fun e w' => e = .returned (.tuple #[]) ∧ Taken w0 w' gR gS gI off cs x (takeQ last (bs x)) := by
  have cR : w.cell? ⟨gR, 0, none⟩ = some (.bool true) := hR.cell 0
  have cS : w.cell? ⟨gS, 0, none⟩ = some (.string x) := hS.cell 0
  have cI : w.cell? ⟨gI, off, none⟩ = some u := (hI.cell off).trans ho
  have fR := hR.free 0
  have fS := hS.free 0
  have fI := hI.free off
  have hqa := quotedAt_any x 0
  by_cases hP : ([34] : Str).isPrefixOf (bs x) = true
  rotate_left
  · have hP : ([34] : Str).isPrefixOf (bs x) = false := (Bool.not_eq_true _).mp hP
    have ht : takeQ last (bs x) = none := by rw [takeQ, quotedL_no hP]
    rw [ht]
    have hfin : Taken w0 (w.setCell ⟨gR, 0, none⟩ (.bool false)) gR gS gI off cs x none := ⟨hx.setCell h0R _, by simpa using hR.set 0 (.bool false), hS.far (Ne.symm nRS) _, hI.far (Ne.symm nRI) _⟩
    have HF := Lib.hid hfin
    have hpx := hasPrefix_any x ⟨#[34]⟩
    rw [show bs (⟨#[34]⟩ : ByteArray) = [34] from rfl, hP] at hpx
    have HPX := Lib.hid hpx
    have HQA := Lib.hid hqa
    clear hfin hpx hqa hP ht hR hS hI
    go_enter Tryz.func69, Tryz.ntmps69
    go_wp2_with fail
    refine (HQA.out _ hxs (by omega)).mono ?_
    rintro e w' ⟨rfl, rfl⟩
    go_wp2_with fail
    refine (HPX.out _).mono ?_
    rintro e w' ⟨rfl, rfl⟩
    go_wp2
    refine bodyPost_ret (results_none rfl _ _ _) rfl ?_
    exact ⟨rfl, HF.out⟩
  have hqc := quotedL_cons hP
  have hpx := hasPrefix_any x ⟨#[34]⟩
  rw [show bs (⟨#[34]⟩ : ByteArray) = [34] from rfl, hP] at hpx
  have HPX := Lib.hid hpx
  clear hpx hP
  obtain ⟨R, hR2⟩ : ∃ R, unq ((bs x).drop 1) = R := ⟨_, rfl⟩
  have hqv : qat (bs x) 0 = qatR x.size R := by rw [qat, hR2, bs_length]
  rw [hqv] at hqa
  have ht : takeQ last (bs x) = takeR last R := by rw [takeQ_R, hqc, hR2]
  rw [ht]
  clear ht hqv hqc
  cases R with
  | none =>
    have hfin : Taken w0 (w.setCell ⟨gR, 0, none⟩ (.bool false)) gR gS gI off cs x none := ⟨hx.setCell h0R _, by simpa using hR.set 0 (.bool false), hS.far (Ne.symm nRS) _, hI.far (Ne.symm nRI) _⟩
    have HF := Lib.hid hfin
    have HQA := Lib.hid hqa
    clear hfin hqa hR2 hR hS hI
    go_enter Tryz.func69, Tryz.ntmps69
    go_wp2_with fail
    refine (HQA.out _ hxs (by omega)).mono ?_
    rintro e w' ⟨rfl, rfl⟩
    go_wp2_with fail
    refine (HPX.out _).mono ?_
    rintro e w' ⟨rfl, rfl⟩
    go_wp2
    refine bodyPost_ret (results_none rfl _ _ _) rfl ?_
    exact ⟨rfl, HF.out⟩
  | some y =>
    obtain ⟨v, z⟩ := y
    have htl := unq_tail hR2
    rw [List.length_drop, bs_length] at htl
    have hzl : z.length ≤ x.size := by omega
    have hkk : x.size - z.length ≤ x.size := Nat.sub_le _ _
    have hrest : bs (x.extract (x.size - z.length) x.size) = z := by
      rw [show bs (x.extract (x.size - z.length) x.size) = (bs x).drop (x.size - z.length) from Lib.extract_to_end x _]
      have e := htl.2
      rw [List.drop_drop] at e
      have h1 := htl.1
      have h2 : x.size - z.length = 1 + (x.size - 1 - z.length) := by omega
      rw [h2]
      exact e
    dsimp only [qatR] at hqa
    generalize x.size - z.length = K at *
    have HQA := Lib.hid hqa
    have HRS := Lib.hid hrest
    have hzs : (x.extract K x.size).size = z.length := by rw [← bs_length, hrest]
    have HZS := Lib.hid hzs
    clear hzs
    clear hqa hR2 htl hrest
    have hKi : (K : Int) ≤ x.size := by omega
    have hK0 : (0 : Int) ≤ K := by omega
    cases last
    rotate_left
    · have hfin : Taken w0 ((w.setCell ⟨gI, off, none⟩ (S v)).setCell ⟨gS, 0, none⟩ (.string (x.extract K x.size))) gR gS gI off cs x (some (v, z)) :=
        ⟨(hx.setCell h0I _).setCell h0S _, (hR.far nRI _).far nRS _, by rw [← str_S HRS.out]; simpa using (hS.far (p := ⟨gI, off, none⟩) nSI (S v)).set 0 (.string (x.extract K x.size)), (hI.set off (S v)).far (Ne.symm nSI) _⟩
      have HF := Lib.hid hfin
      clear hfin hR hS hI
      go_enter Tryz.func69, Tryz.ntmps69
      go_wp2_with fail
      refine (HQA.out _ hxs (by omega)).mono ?_
      rintro e w' ⟨rfl, rfl⟩
      go_wp2_with fail
      refine (HPX.out _).mono ?_
      rintro e w' ⟨rfl, rfl⟩
      go_wp2
      go_outline
      go_region
      all_goals
        go_wp2
        go_end0
        exact ⟨rfl, HF.out.1.drew, blk_drew HF.out.2.1, blk_drew HF.out.2.2.1, blk_drew HF.out.2.2.2⟩
    · obtain ⟨X, hX⟩ : ∃ X, x.extract K x.size = X := ⟨_, rfl⟩
      have hXb := HRS.out
      have hXs := HZS.out
      rw [hX] at hXb hXs
      have HRX := Lib.hid hXb
      have HZX := Lib.hid hXs
      clear hXb hXs HRS HZS
      have hp2 := hasPrefix_any X ⟨#[32]⟩
      rw [show bs (⟨#[32]⟩ : ByteArray) = [32] from rfl, HRX.out] at hp2
      by_cases hz : ([32] : Str).isPrefixOf z = true
      rotate_left
      · have hz : ([32] : Str).isPrefixOf z = false := (Bool.not_eq_true _).mp hz
        have hfin : Taken w0 (w.setCell ⟨gR, 0, none⟩ (.bool false)) gR gS gI off cs x none := ⟨hx.setCell h0R _, by simpa using hR.set 0 (.bool false), hS.far (Ne.symm nRS) _, hI.far (Ne.symm nRI) _⟩
        have ht : takeR false (some (v, z)) = none := by simp only [takeR, hz]; rfl
        rw [ht]
        rw [hz] at hp2
        have HP2 := Lib.hid hp2
        have HF := Lib.hid hfin
        clear hfin hR hS hI ht hz hp2
        go_enter Tryz.func69, Tryz.ntmps69
        go_wp2_with fail
        refine (HQA.out _ hxs (by omega)).mono ?_
        rintro e w' ⟨rfl, rfl⟩
        go_wp2_with fail
        refine (HPX.out _).mono ?_
        rintro e w' ⟨rfl, rfl⟩
        go_wp2_with fail
        refine (HP2.out _).mono ?_
        rintro e w' ⟨rfl, rfl⟩
        go_wp2
        refine bodyPost_ret (results_none rfl _ _ _) rfl ?_
        exact ⟨rfl, HF.out⟩
      have hz1 : 1 ≤ z.length := (List.isPrefixOf_iff_prefix.1 hz).length_le
      have ht : takeR false (some (v, z)) = some (v, z.drop 1) := by simp only [takeR, hz]; rfl
      rw [ht]
      rw [hz] at hp2
      have hd : bs (X.extract 1 X.size) = z.drop 1 := by rw [show bs (X.extract 1 X.size) = (bs X).drop 1 from Lib.extract_to_end _ 1, HRX.out]
      have hW1 : Blk ((w.setCell ⟨gI, off, none⟩ (S v)).setCell ⟨gS, 0, none⟩ (.string X)) gS 9 #[.string X] := (by simpa using (hS.far (p := ⟨gI, off, none⟩) nSI (S v)).set 0 (.string X))
      have hfin : Taken w0 ((((w.setCell ⟨gI, off, none⟩ (S v)).setCell ⟨gS, 0, none⟩ (.string X)).setCell ⟨gS, 0, none⟩ (.string (X.extract 1 X.size))).drew) gR gS gI off cs x (some (v, z.drop 1)) :=
        ⟨(((hx.setCell h0I _).setCell h0S _).setCell h0S _).drew, blk_drew (((hR.far nRI _).far nRS _).far nRS _), by rw [← str_S hd]; exact blk_drew (by simpa using hW1.set 0 (.string (X.extract 1 X.size))), blk_drew (((hI.set off (S v)).far (Ne.symm nSI) _).far (Ne.symm nSI) _)⟩
      have HF := Lib.hid hfin
      have HP2 := Lib.hid hp2
      have cW : ((w.setCell ⟨gI, off, none⟩ (S v)).setCell ⟨gS, 0, none⟩ (.string X)).cell? ⟨gS, 0, none⟩ = some (.string X) := hW1.cell 0
      have hz2 : 1 ≤ X.size := by have := HZX.out; omega
      clear hfin hR hS hI ht hz hp2 hd hW1
      go_enter Tryz.func69, Tryz.ntmps69
      go_wp2_with fail
      refine (HQA.out _ hxs (by omega)).mono ?_
      rintro e w' ⟨rfl, rfl⟩
      go_wp2_with fail
      refine (HPX.out _).mono ?_
      rintro e w' ⟨rfl, rfl⟩
      go_wp2_with fail
      refine (HP2.out _).mono ?_
      rintro e w' ⟨rfl, rfl⟩
      go_wp2
      go_region
      all_goals
        go_wp2
        go_end0
        exact ⟨rfl, HF.out⟩
end Go.Proofs.YtcmceeihdhcmnaaGreatDoor

namespace Go.Proofs.YtcmceeihdhcmnaaGreatDoor
open Go.RowKit

/-! ### Rules compared -/
theorem run_eqr (k : Int) (a b c d : ByteArray) (w : World) : (Op.equalIn 10000 23 (.agg #[.int .i64 k, .string a, .string b, .string c, .string d]) (.agg #[.int .i64 k, .string a, .string b, .string c, .string d])).run Tryz.prog w = .ok true w := by
  rw [run_equalIn_agg w 9999 23 _ _ (by kernel_rfl) (by kernel_rfl)]
  go_simp
theorem run_eqlr (k : Int) (a b c d : ByteArray) (w : World) : (binOp .eql 23 (.agg #[.int .i64 k, .string a, .string b, .string c, .string d]) (.agg #[.int .i64 k, .string a, .string b, .string c, .string d])).run Tryz.prog w = .ok (.bool true) w := by
  rw [run_eql_struct, run_eqr]
  rfl
theorem run_neqr (k : Int) (a b c d : ByteArray) (w : World) : (binOp .neq 23 (.agg #[.int .i64 k, .string a, .string b, .string c, .string d]) (.agg #[.int .i64 k, .string a, .string b, .string c, .string d])).run Tryz.prog w = .ok (.bool false) w := by
  rw [run_neq_struct, run_eqr]
  rfl
/-! ### The text of a right rule is short, and is read back -/
theorem esc_le3 (l : Str) : (esc l).length ≤ 3 * l.length := by
  have h1 := List.count_le_length (a := (34 : UInt8)) (l := l)
  have h2 := List.count_le_length (a := (92 : UInt8)) (l := l)
  rw [esc_len]; omega
theorem word_len (k : Int) : (ruWord k).length ≤ 40 := by
  unfold ruWord
  repeat' split
  all_goals decide
theorem quote_le (l : Str) (h : l.length ≤ 1000) : (quoteL l).length ≤ 3002 := by
  have := esc_le3 l
  simp only [quoteL, List.length_append, List.length_cons, List.length_nil]
  omega
theorem path_len {l : Str} (h : pathL l = true) : l.length ≤ 200 := by
  unfold pathL at h
  simp only [Bool.and_eq_true, decide_eq_true_eq] at h
  exact h.2
theorem ite_len (c : Bool) (l : Str) (n : Nat) (h : c = true → l.length ≤ n) : (if c = true then 32 :: l else []).length ≤ n + 1 := by
  cases c
  · exact Nat.zero_le _
  · have := h rfl
    simpa using this
theorem ruText_len {r : Ru} (h : ruErr r = 0) : (ruText r).length ≤ 7000 := by
  have hR := right_of h
  have ho := old_len h
  have h1 := word_len r.kind
  have h2 := path_len hR.key
  have h3 := ite_len (useTo r.kind) r.tt 200 fun e => path_len (hR.to1 e)
  have h4 := ite_len (useOld r.kind) (quoteL r.old) 3002 fun _ => quote_le _ ho.1
  have h5 := ite_len (useNew r.kind) (quoteL r.new) 3002 fun _ => quote_le _ ho.2
  unfold ruText
  simp only [List.length_append, List.length_cons]
  omega
theorem parse_ruText {r : Ru} (h : ruErr r = 0) (hl : (ruText r).length ≤ 4000) : parseRu (ruText r) = (r, 0) := by
  rw [parse_stage (by omega), cand_text (shape_of h)]
  dsimp only
  rw [if_neg (by rw [h]; decide)]
/-! ### The set's own example -/
theorem drop_ok : parseRu [100, 114, 111, 112, 32, 97, 47, 98] = (⟨6, [97, 47, 98], [], [], []⟩, 0) := by
  have h : ruErr ⟨6, [97, 47, 98], [], [], []⟩ = 0 := by decide
  exact parse_ruText (r := ⟨6, [97, 47, 98], [], [], []⟩) h (by decide)
set_option maxRecDepth 100000 in
set_option maxHeartbeats 4000000 in
theorem migrates_any (w : World) (hg : Good w) : Calls Tryz.prog 13 #[] w fun e w' => e = .returned (.bool true) ∧ Ext w w' := by
  have hp := fun W (h : Ext w W) => ParseRule_any ⟨#[100, 114, 111, 112, 32, 97, 47, 98]⟩ W (hg.ext h) (by decide)
  rw [show bs (⟨#[100, 114, 111, 112, 32, 97, 47, 98]⟩ : ByteArray) = [100, 114, 111, 112, 32, 97, 47, 98] from rfl, drop_ok] at hp
  have hq := run_eqlr 6 ⟨#[97, 47, 98]⟩ ⟨#[]⟩ ⟨#[]⟩ ⟨#[]⟩
  go_enter Tryz.func13, Tryz.ntmps13
  go_wp2_with fail
  refine (hp _ (by repeat (first | with_reducible exact Ext.refl _ | with_reducible assumption | with_reducible apply Ext.drewN | with_reducible apply Ext.drew | with_reducible apply Ext.alloc | exact Ext.refl _ | assumption | apply Ext.drewN | apply Ext.drew | apply Ext.alloc))).mono ?_
  rintro e w1 ⟨rfl, hx1⟩
  clear hp
  go_wp2
  go_ret
  exact ⟨rfl, (by repeat (first | with_reducible exact Ext.refl _ | with_reducible assumption | with_reducible apply Ext.drewN | with_reducible apply Ext.drew | with_reducible apply Ext.alloc | ((with_reducible refine Ext.setCell ?_ ?_ _); rotate_left; (first | (dsimp only; omega) | (simp; omega) | skip)) | exact Ext.refl _ | assumption | apply Ext.drewN | apply Ext.drew | apply Ext.alloc | refine Ext.setCell ?_ (by first | (dsimp only; omega) | (simp; omega)) _))⟩
end Go.Proofs.YtcmceeihdhcmnaaGreatDoor

namespace Go.Proofs.YtcmceeihdhcmnaaGreatDoor
open Go.RowKit

set_option maxRecDepth 100000 in
set_option maxHeartbeats 8000000 in
theorem quotedAtV_any (s : ByteArray) (i : Nat) (w : World) (hs : s.size ≤ 2097152) (hi : i ≤ 2097152) :
    Calls Tryz.prog 148 #[.string s, .int .i64 i] w fun e w' => e = .returned (.tuple #[S (qat (bs s) i).1, .int .i64 (qat (bs s) i).2.1, .bool (qat (bs s) i).2.2]) ∧ Ext w w' := by
  obtain ⟨R, hR⟩ : ∃ R, unq ((bs s).drop (i + 1)) = R := ⟨_, rfl⟩
  have hq : qat (bs s) i = qatR s.size R := by rw [qat, hR, bs_length]
  have hst := invQ_start (bs s) (i + 1)
  rw [hR] at hst
  rw [hq]
  have HST := Lib.hid hst
  clear hst hq hR
  go_enter Tryz.func148, Tryz.ntmps148
  go_wp2
  go_loopw [7, 8] (fun v k' wr => ∃ (k : Nat) (done : Str), k' = .int .i64 k ∧ wr.ownsRow w.heap.size 5 1 v done.length (u8s done) ∧ k ≤ 2097153 ∧ (k ≤ s.size ∨ done = []) ∧ done.length ≤ k ∧ InvQ (bs s) R k done ∧ Ext w wr) (fun _ k _ => s.size - (intOf k).toNat)
  case atStart => exact ⟨i + 1, [], by go_num, World.ownsRow_nil _ _ _ _, by omega, .inr rfl, Nat.zero_le _, HST.out, Ext.refl _⟩
  case round =>
    obtain ⟨k, done, rfl, hown, hk2, hk1, hk3, hinv, hxr⟩ := hrel
    have HINV := Lib.hid hinv
    clear hinv
    by_cases hlt : k < s.size
    · by_cases h34 : s[k] = 34
      · have e1 : ((s[k].toNat : Int) == 34) = true := by rw [h34]; rfl
        have hres := invQ_end HINV.out hlt h34
        subst hres
        have hcv := conv_own hown wr (Ext.refl wr)
        have hkk : (k : Int) + 1 ≤ s.size := by omega
        have hkw : IntKind.i64.wrap ((k : Int) + 1) = (k : Int) + 1 := by rw [IntKind.wrap_i64]; omega
        clear h34 hown
        go_wp2
        go_ret3
        refine ⟨?_, hxr⟩
        have hl : s.size - ((bs s).drop (k + 1)).length = k + 1 := by rw [List.length_drop, bs_length]; omega
        simp only [qatR, hl]
        go_num
      have e1 := byte_no h34 34 rfl
      by_cases h92 : s[k] = 92
      · have e2 : ((s[k].toNat : Int) == 92) = true := by rw [h92]; rfl
        by_cases hend : k + 1 = s.size
        · have hres := invQ_last HINV.out hend h92
          subst hres
          have hE : ((k : Int) + 1 == (s.size : Int)) = true := by rw [beq_iff_eq]; omega
          clear h34 h92
          go_wp2
          go_ret3
          exact ⟨rfl, hxr⟩
        have hlt2 : k + 1 < s.size := by omega
        have hE : ((k : Int) + 1 == (s.size : Int)) = false := by rw [beq_eq_false_iff_ne]; omega
        by_cases hok : s[k + 1] = 34 ∨ s[k + 1] = 92
        · have hinv2 := invQ_two HINV.out hlt2 h92 hok
          have HI2 := Lib.hid hinv2
          clear hinv2 h34 h92
          rcases hok with hd | hd
          · have e3 : ((s[k + 1].toNat : Int) != 34) = false := by rw [hd]; rfl
            clear hd
            have HX := Lib.hid hxr
            have hsz := hxr.size
            go_wp2_with (at_builtin; refine wpList_app1 _ _ _ rfl _ _ 180 rfl (.int .u8 0) 1 1 Tryz.underlying180 info_u8 rfl (by decide) (by decide) w.heap.size _ done.length _ rfl hown _ rfl rfl (by simp [Value.oneCell']) (by omega) hsz ?_; intro v' w3 hown3 hx3 _)
            go_roundw
            case rel => exact ⟨k + 1 + 1, done ++ [s[k + 1]], by go_num, by rw [u8s_append, List.length_append]; exact hown3, by omega, .inl (by omega), by rw [List.length_append]; simp; omega, HI2.out, hx3 _ HX.out (Nat.le_refl _)⟩
            case measure => simp [intOf]; omega
          · have e3 : ((s[k + 1].toNat : Int) != 34) = true := by rw [hd]; rfl
            have e4 : ((s[k + 1].toNat : Int) != 92) = false := by rw [hd]; rfl
            clear hd
            have HX := Lib.hid hxr
            have hsz := hxr.size
            go_wp2_with (at_builtin; refine wpList_app1 _ _ _ rfl _ _ 180 rfl (.int .u8 0) 1 1 Tryz.underlying180 info_u8 rfl (by decide) (by decide) w.heap.size _ done.length _ rfl hown _ rfl rfl (by simp [Value.oneCell']) (by omega) hsz ?_; intro v' w3 hown3 hx3 _)
            go_roundw
            case rel => exact ⟨k + 1 + 1, done ++ [s[k + 1]], by go_num, by rw [u8s_append, List.length_append]; exact hown3, by omega, .inl (by omega), by rw [List.length_append]; simp; omega, HI2.out, hx3 _ HX.out (Nat.le_refl _)⟩
            case measure => simp [intOf]; omega
        · have hres := invQ_bad HINV.out hlt2 h92 (fun e => hok (.inl e)) (fun e => hok (.inr e))
          have e3 := byte_ne (fun e => hok (.inl e)) 34 rfl
          have e4 := byte_ne (fun e => hok (.inr e)) 92 rfl
          subst hres
          clear h34 h92 hok
          go_wp2
          go_ret3
          exact ⟨rfl, hxr⟩
      · have e2 := byte_no h92 92 rfl
        have hinv2 := invQ_one HINV.out hlt h34 h92
        have HI2 := Lib.hid hinv2
        clear hinv2 h34 h92
        have HX := Lib.hid hxr
        have hsz := hxr.size
        go_wp2_with (at_builtin; refine wpList_app1 _ _ _ rfl _ _ 180 rfl (.int .u8 0) 1 1 Tryz.underlying180 info_u8 rfl (by decide) (by decide) w.heap.size _ done.length _ rfl hown _ rfl rfl (by simp [Value.oneCell']) (by omega) hsz ?_; intro v' w3 hown3 hx3 _)
        go_roundw
        case rel => exact ⟨k + 1, done ++ [s[k]], by go_num, by rw [u8s_append, List.length_append]; exact hown3, by omega, .inl (by omega), by rw [List.length_append]; simp; omega, HI2.out, hx3 _ HX.out (Nat.le_refl _)⟩
        case measure => simp [intOf]; omega
    · have hres := invQ_out HINV.out (by omega)
      subst hres
      go_wp2
      go_ret3
      exact ⟨rfl, hxr⟩
def blankB (c : UInt8) : Bool := c == 32 || c == 9
theorem isBlank_any (c : UInt8) (w : World) :
    Calls Tryz.prog 147 #[.int .u8 c.toNat] w fun e w' => e = .returned (.bool (blankB c)) ∧ w = w' := by
  have hb : blankB c = (decide ((c.toNat : Int) = 32) || decide ((c.toNat : Int) = 9)) := by
    have h (n : UInt8) (z : Int) (hz : z = n.toNat) : (c == n) = decide ((c.toNat : Int) = z) := by
      rw [Bool.eq_iff_iff, beq_iff_eq, decide_eq_true_iff, ← UInt8.toNat_inj]; omega
    unfold blankB
    rw [h 32 32 rfl, h 9 9 rfl]
  rw [hb]
  by_cases h1 : (c.toNat : Int) = 32 <;> by_cases h2 : (c.toNat : Int) = 9
  all_goals
    have e1 : ((c.toNat : Int) == 32) = decide ((c.toNat : Int) = 32) := rfl
    have e2 : ((c.toNat : Int) == 9) = decide ((c.toNat : Int) = 9) := rfl
    first | rw [decide_eq_true h1] at e1 ⊢ | rw [decide_eq_false h1] at e1 ⊢
    first | rw [decide_eq_true h2] at e2 ⊢ | rw [decide_eq_false h2] at e2 ⊢
    clear h1 h2 hb
    go_enter Tryz.func147, Tryz.ntmps147
    go_wp2
    go_ret
    exact ⟨rfl, rfl⟩
def kindOfL (t : Str) : Int := if t = [111, 114] then 8 else 7
theorem kindOf_any (t : ByteArray) (w : World) :
    Calls Tryz.prog 198 #[.string t] w fun e w' => e = .returned (.int .i64 (kindOfL (bs t))) ∧ w = w' := by
  by_cases h : bs t = [111, 114]
  · have e1 : (t.toList == [111, 114]) = true := by rw [lit_beq, h]; rfl
    have e2 : t = ⟨#[111, 114]⟩ := bs_inj h
    rw [kindOfL, if_pos h]
    clear h
    go_enter Tryz.func198, Tryz.ntmps198
    go_wp2
    go_ret
    exact ⟨rfl, rfl⟩
  · have e1 : (t.toList == [111, 114]) = false := by rw [lit_beq, beq_eq_false_iff_ne]; exact h
    rw [kindOfL, if_neg h]
    clear h
    go_enter Tryz.func198, Tryz.ntmps198
    go_wp2
    go_ret
    exact ⟨rfl, rfl⟩
end Go.Proofs.YtcmceeihdhcmnaaGreatDoor

namespace Go.Proofs.YtcmceeihdhcmnaaGreatDoor
open Go.RowKit

/-! ### A world of which one block alone was written -/
structure ExtX (g : Nat) (w w' : World) : Prop where
  os : w'.os = w.os
  tape : w'.tape = w.tape
  output : w'.output = w.output
  size : w.heap.size ≤ w'.heap.size
  block : ∀ k, k < w.heap.size → k ≠ g → w'.heap[k]? = w.heap[k]?
namespace ExtX
variable {g : Nat} {a b c w w' : World}
theorem refl (g : Nat) (w : World) : ExtX g w w := ⟨rfl, rfl, rfl, Nat.le_refl _, fun _ _ _ => rfl⟩
theorem ofExt (h : Ext a b) : ExtX g a b := ⟨h.os, h.tape, h.output, h.size, fun k hk _ => h.block k hk⟩
theorem trans (h : ExtX g a b) (k : ExtX g b c) : ExtX g a c :=
  ⟨k.os.trans h.os, k.tape.trans h.tape, k.output.trans h.output, Nat.le_trans h.size k.size, fun i hi hg => (k.block i (Nat.lt_of_lt_of_le hi h.size) hg).trans (h.block i hi hg)⟩
theorem setG (h : ExtX g a w) (o : Nat) (u : Value) : ExtX g a (w.setCell ⟨g, o, none⟩ u) :=
  h.trans ⟨rfl, rfl, rfl, by simp [World.setCell], fun k _ hg => by simp only [World.setCell, Array.getElem?_modify]; rw [if_neg (Ne.symm hg)]⟩
theorem set2 (h : ExtX g a w) {p : Addr} (hp : a.heap.size ≤ p.block) (u : Value) : ExtX g a (w.setCell p u) :=
  ⟨h.os, h.tape, h.output, by have := h.size; simpa [World.setCell] using this, fun k hk hg => by
    refine Eq.trans ?_ (h.block k hk hg)
    simp only [World.setCell, Array.getElem?_modify]
    rw [if_neg (by omega)]⟩
theorem alloc (h : ExtX g a w) (o : Obj) : ExtX g a (w.alloc o) := h.trans (ofExt ((Ext.refl w).alloc o))
theorem drew (h : ExtX g a w) : ExtX g a w.drew := h.trans (ofExt ((Ext.refl w).drew))
theorem ext (h : Ext a w) (k : ExtX g w w') (hg : a.heap.size ≤ g) : Ext a w' :=
  ⟨k.os.trans h.os, k.tape.trans h.tape, k.output.trans h.output, Nat.le_trans h.size k.size, fun i hi => (k.block i (Nat.lt_of_lt_of_le hi h.size) (by omega)).trans (h.block i hi)⟩
theorem cell (h : ExtX g a b) {k o : Nat} {v : Value} (hk : k ≠ g) (hc : a.cell? ⟨k, o, none⟩ = some v) : b.cell? ⟨k, o, none⟩ = some v := by
  have hl := lt_of_cell hc
  unfold World.cell? at hc ⊢
  rw [h.block k hl hk]
  exact hc
end ExtX
theorem Blk.extX {g : Nat} {w w' : World} {k : Nat} {t : TypeId} {cs : Array Value} (h : Blk w k t cs) (hx : ExtX g w w') (hk : k ≠ g) : Blk w' k t cs := (hx.block k h.lt hk).trans h

/-! ### The reader -/
/-- the reader: where it is, the next token (kind, place, text), the place of the error -/
structure St where
  p : Nat
  k : Int
  a : Nat
  t : ByteArray
  wr : Int
abbrev rdA (s : ByteArray) (σ : St) : Array Value := #[.string s, .int .i64 σ.p, .int .i64 σ.k, .int .i64 σ.a, .string σ.t, .int .i64 σ.wr]
abbrev Rd (w : World) (g : Nat) (s : ByteArray) (σ : St) : Prop := Blk w g 145 (rdA s σ)
theorem Rd.setP {w : World} {g : Nat} {s : ByteArray} {σ : St} (h : Rd w g s σ) (n : Nat) {z : Int} (hz : z = n) : Rd (w.setCell ⟨g, 1, none⟩ (.int .i64 z)) g s ⟨n, σ.k, σ.a, σ.t, σ.wr⟩ := by
  subst hz; exact h.set 1 _
theorem Rd.setW {w : World} {g : Nat} {s : ByteArray} {σ : St} (h : Rd w g s σ) (z : Int) : Rd (w.setCell ⟨g, 5, none⟩ (.int .i64 z)) g s ⟨σ.p, σ.k, σ.a, σ.t, z⟩ := h.set 5 _
theorem Rd.setT {w : World} {g : Nat} {s : ByteArray} {σ : St} (h : Rd w g s σ) (k : Int) (a : Nat) (t : ByteArray) : Rd (((w.setCell ⟨g, 2, none⟩ (.int .i64 k)).setCell ⟨g, 3, none⟩ (.int .i64 a)).setCell ⟨g, 4, none⟩ (.string t)) g s ⟨σ.p, k, a, t, σ.wr⟩ := ((h.set 2 _).set 3 _).set 4 _
def isF (σ : St) (k : Int) (t : Str) : Bool := decide (σ.wr < 0) && decide (σ.k = k) && decide (bs σ.t = t)
theorem ieq (a b : Int) : (a == b) = decide (a = b) := by
  by_cases h : a = b
  · rw [decide_eq_true h, beq_iff_eq]; exact h
  · rw [decide_eq_false h, beq_eq_false_iff_ne]; exact h
theorem is_any (g : Nat) (s : ByteArray) (σ : St) (k : Int) (t : ByteArray) (w : World) (h : Rd w g s σ) :
    Calls Tryz.prog 149 #[.pointer (some ⟨g, 0, none⟩), .int .i64 k, .string t] w fun e w' => e = .returned (.bool (isF σ k (bs t))) ∧ w = w' := by
  obtain ⟨p, sk, a, st, wr⟩ := σ
  have c := h.cell
  unfold isF
  dsimp only
  by_cases h1 : wr < 0
  · by_cases h2 : sk = k
    · by_cases h3 : bs st = bs t
      · have e3 : (st.toList == t.toList) = true := by rw [eqE, decide_eq_true h3]
        subst h2
        rw [decide_eq_true h1, decide_eq_true rfl, decide_eq_true h3]
        clear h3 h
        go_enter Tryz.func149, Tryz.ntmps149
        go_wp2
        go_ret
        exact ⟨rfl, rfl⟩
      · have e3 : (st.toList == t.toList) = false := by rw [eqE, decide_eq_false h3]
        subst h2
        rw [decide_eq_true h1, decide_eq_true rfl, decide_eq_false h3]
        clear h3 h
        go_enter Tryz.func149, Tryz.ntmps149
        go_wp2
        go_ret
        exact ⟨rfl, rfl⟩
    · have e2 : (sk == k) = false := by rw [ieq, decide_eq_false h2]
      rw [decide_eq_true h1, decide_eq_false h2]
      clear h2 h
      go_enter Tryz.func149, Tryz.ntmps149
      go_wp2
      go_ret
      exact ⟨rfl, rfl⟩
  · rw [decide_eq_false h1]
    clear h
    go_enter Tryz.func149, Tryz.ntmps149
    go_wp2
    go_ret
    exact ⟨rfl, rfl⟩
def failF (σ : St) (a : Int) : St := if σ.wr < 0 then { σ with wr := a } else σ
theorem fail_any (g : Nat) (s : ByteArray) (σ : St) (a : Int) (w : World) (h : Rd w g s σ) :
    Calls Tryz.prog 101 #[.pointer (some ⟨g, 0, none⟩), .int .i64 a] w fun e w' => e = .returned (.tuple #[]) ∧ Rd w' g s (failF σ a) ∧ ExtX g w w' := by
  obtain ⟨p, sk, a0, st, wr⟩ := σ
  have c := h.cell
  have f := h.free
  unfold failF
  dsimp only
  by_cases h1 : wr < 0
  · rw [if_pos h1]
    have hfin : Rd (w.setCell ⟨g, 5, none⟩ (.int .i64 a)) g s ⟨p, sk, a0, st, a⟩ := by simpa using h.set 5 (.int .i64 a)
    have HF := Lib.hid hfin
    clear h hfin
    go_enter Tryz.func101, Tryz.ntmps101
    go_wp2
    refine bodyPost_end (results_none rfl _ _ _) rfl ?_
    exact ⟨rfl, HF.out, (ExtX.refl g w).setG _ _⟩
  · rw [if_neg h1]
    have HF := Lib.hid h
    clear h
    go_enter Tryz.func101, Tryz.ntmps101
    go_wp2
    refine bodyPost_end (results_none rfl _ _ _) rfl ?_
    exact ⟨rfl, HF.out, ExtX.refl g w⟩
end Go.Proofs.YtcmceeihdhcmnaaGreatDoor
