/- Contracts of outref2: inner, Of, NameOf, PathOf, ValueOf. Contracts of outref2: ValueOf, Number, VersionText. Contracts of outref2: VersionError. Contract of outref2.ReadVersion. Plain law: the reference's order of words is the program's. Contract of outref2.CompareOf, at right versions. Contract of outref2.NextOf. Plain law: ver.Parse reads what ver.Print writes. What the proofs of all rows of this seat share: the package variables out of the row's list, arguments that stay as they were, the row's last step behind a world that has only grown. -/
import Derived.Test.YtghhjlcbcojcnaaGreatDoorRn02
import Derived.Test.YtghhjlcbcojcnaaGreatDoorRn05
import Derived.Test.YtghhjlcbcojcnaaGreatDoorRn03
import Derived.Test.YtghhjlcbcojcnaaGreatDoorRn06
import Derived.Test.YtghhjlcbcojcnaaGreatDoorRn04
import Derived.Deep.RegionHeld3
import Derived.Test.YtghhjlcbcojcnaaGreatDoorCards
import Derived.Test.YtghhjlcbcojcnaaGreatDoorTie
import Derived.ProofKit
import Derived.OpenShut
import Derived.Deep.DeepHandedRow
import Derived.Deep.DeepWitnessRowRef
import Derived.Lib.LaidTab
import Derived.Lib.LaidIn
import Derived.Lib.SmallJoins
import Derived.Stop.LaidErr
import Derived.LaidSub
import Derived.SizedLaws

namespace Go.Proofs.YtghhjlcbcojcnaaGreatDoor
open Go.RowKit

theorem u8_all (p : UInt8 → Bool) (h : (List.range 256).all (fun n => p (UInt8.ofNat n)) = true) (c : UInt8) : p c = true := by
  have h1 := List.all_eq_true.1 h c.toNat (List.mem_range.2 c.toNat_lt)
  simpa using h1
def ofL (l cs : Str) : Bool := l.all (cs.contains ·)
theorem indexByte_out {c : UInt8} {l : Str} (h : l.contains c = false) : Lib.indexByte l c < 0 := by
  rw [indexByte_none c l (by simpa using h)]; decide
theorem indexByte_in {c : UInt8} {l : Str} (h : l.contains c = true) : ¬ Lib.indexByte l c < 0 := by
  rcases first_cut c l with h1 | ⟨a, r, ha, rfl⟩
  · exact absurd h (by simpa using h1)
  · rw [indexByte_app c r a ha]; omega
theorem trim_empty (l cs : Str) (h : ofL l cs = true) : Lib.trimS l cs = [] := by
  unfold Lib.trimS Lib.trimRightS Lib.trimLeftS
  have h1 : ∀ x ∈ l.reverse, cs.contains x = true := fun x hx => by
    have := List.all_eq_true.1 h x (by simpa using hx)
    exact this
  rw [(while_all (fun x => cs.contains x) l.reverse h1).2]
  rfl
set_option maxHeartbeats 400000 in
theorem inner_any (s cs : ByteArray) (w : World) (hs : s.size ≤ 2097152) :
    Calls Tryz.prog 161 #[.string s, .string cs] w fun e w' => e = .returned (.bool (ofL (bs s) (bs cs))) ∧ w = w' := by
  go_enter Tryz.func161, Tryz.ntmps161
  go_wp2
  go_loop [8] (fun i => ∃ k : Nat, k ≤ s.size ∧ i = .int .i64 k ∧ (s.data.toList.take k).all (fun c => (bs cs).contains c) = true) (fun i => s.size - (intOf i).toNat)
  case atStart => exact ⟨0, Nat.zero_le _, rfl, by simp⟩
  case round =>
    obtain ⟨k, hk, rfl, hall⟩ := hrel
    have HALL := Lib.hid hall
    clear hall
    by_cases hlt : k < s.size
    · have hfa := all_false_of (fun c => (bs cs).contains c) s k hlt
      have hsu := all_take_succ (fun c => (bs cs).contains c) s k hlt
      have HFA := Lib.hid hfa
      have HSU := Lib.hid hsu
      clear hfa hsu
      go_wp2_with fail
      refine (indexByte_any cs s[k] _).mono ?_
      rintro e w' ⟨rfl, rfl⟩
      cases hp : (bs cs).contains s[k]
      · have hn := indexByte_out hp
        have HP := Lib.hid hp
        clear hp
        go_wp2
        go_ret
        refine ⟨ret_bool ?_, rfl⟩
        unfold ofL
        exact (HFA.out HP.out).symm
      · have hn := indexByte_in hp
        have HP := Lib.hid hp
        clear hp
        go_wp2
        go_round
        case rel => exact ⟨k + 1, by omega, by go_num, by rw [HSU.out, HALL.out, HP.out]; rfl⟩
        case measure => simp [intOf]; omega
    · obtain rfl : k = s.size := by omega
      go_wp2
      go_ret
      refine ⟨ret_bool ?_, rfl⟩
      rw [take_size] at HALL
      exact HALL.out.symm
def asciiB (l : Str) : Bool := l.all fun c => decide (c.toNat < 128)
theorem ascii_at {l : Str} (h : asciiB l = true) : ∀ (j : Nat) b, l[j]? = some b → b.toNat < 128 := fun j b hb => by
  have := List.all_eq_true.1 h b (List.mem_of_getElem? hb)
  simpa using this
set_option maxHeartbeats 400000 in
theorem Of_any (s cs : ByteArray) (w : World) (hs : s.size ≤ 2097152) (hcs : cs.size ≤ 1000) (ha : asciiB (bs cs) = true) :
    Calls Tryz.prog 92 #[.string s, .string cs] w fun e w' => e = .returned (.bool (ofL (bs s) (bs cs))) ∧ Ext w w' := by
  have hasc := ascii_at ha
  have HASC := Lib.hid hasc
  clear hasc
  go_enter Tryz.func92, Tryz.ntmps92
  go_wp2_with fail
  refine (trim_any s cs _ hs hcs HASC.out).mono ?_
  rintro e w1 ⟨rfl, hx1⟩
  by_cases ht : Lib.trimS (bs s) (bs cs) = []
  · have HT := Lib.hid ht
    rw [ht]
    clear ht
    go_wp2_with fail
    refine (inner_any s cs _ hs).mono ?_
    rintro e w' ⟨rfl, rfl⟩
    go_wp2
    go_ret
    exact ⟨rfl, hx1⟩
  · have hf : ofL (bs s) (bs cs) = false := by
      cases h : ofL (bs s) (bs cs)
      · rfl
      · exact absurd (trim_empty _ _ h) ht
    have HF := Lib.hid hf
    clear hf
    go_wp2
    go_ret
    exact ⟨ret_bool HF.out.symm, hx1⟩

def smallS : Str := [97, 98, 99, 100, 101, 102, 103, 104, 105, 106, 107, 108, 109, 110, 111, 112, 113, 114, 115, 116, 117, 118, 119, 120, 121, 122]
def greatS : Str := [65, 66, 67, 68, 69, 70, 71, 72, 73, 74, 75, 76, 77, 78, 79, 80, 81, 82, 83, 84, 85, 86, 87, 88, 89, 90]
def digitS : Str := [48, 49, 50, 51, 52, 53, 54, 55, 56, 57]
theorem part_set (c : UInt8) : (smallS ++ greatS ++ digitS ++ [45, 46, 95]).contains c = partB c := eq_of_beq (u8_all (fun c => (smallS ++ greatS ++ digitS ++ [45, 46, 95]).contains c == partB c) (by decide +kernel) c)
theorem of_set {p : UInt8 → Bool} {cs : Str} (h : ∀ c, cs.contains c = p c) (l : Str) : ofL l cs = l.all p := by
  unfold ofL
  congr 1
  funext c
  exact h c
theorem of_part (s : ByteArray) (w : World) (hs : s.size ≤ 2097152) :
    Calls Tryz.prog 92 #[.string s, .string ⟨#[97, 98, 99, 100, 101, 102, 103, 104, 105, 106, 107, 108, 109, 110, 111, 112, 113, 114, 115, 116, 117, 118, 119, 120, 121, 122, 65, 66, 67, 68, 69, 70, 71, 72, 73, 74, 75, 76, 77, 78, 79, 80, 81, 82, 83, 84, 85, 86, 87, 88, 89, 90, 48, 49, 50, 51, 52, 53, 54, 55, 56, 57, 45, 46, 95]⟩] w fun e w' => e = .returned (.bool ((bs s).all partB)) ∧ Ext w w' :=
  (Of_any s ⟨#[97, 98, 99, 100, 101, 102, 103, 104, 105, 106, 107, 108, 109, 110, 111, 112, 113, 114, 115, 116, 117, 118, 119, 120, 121, 122, 65, 66, 67, 68, 69, 70, 71, 72, 73, 74, 75, 76, 77, 78, 79, 80, 81, 82, 83, 84, 85, 86, 87, 88, 89, 90, 48, 49, 50, 51, 52, 53, 54, 55, 56, 57, 45, 46, 95]⟩ w hs (by decide) (by decide)).mono fun _ _ ⟨h, k⟩ => ⟨by rw [h]; exact ret_bool (of_set part_set (bs s)), k⟩
theorem partL_eq (l : Str) : partL l = ((l != []) && (l != [46]) && (l != [46, 46]) && decide (l.length ≤ 40) && l.all partB) := by
  unfold partL eachL
  cases l with
  | nil => simp
  | cons x r =>
    have : decide (0 < (x :: r).length) = true := by simp
    rw [this]
    have h2 : ((x :: r) != ([] : Str)) = true := rfl
    rw [h2]
    generalize (x :: r).all partB = a
    generalize decide ((x :: r).length ≤ 40) = b
    generalize ((x :: r) != [46]) = c
    generalize ((x :: r) != [46, 46]) = d
    cases a <;> cases b <;> cases c <;> cases d <;> rfl
theorem tl_beq (s : ByteArray) (l : Str) : (s.toList == l) = (bs s == l) := by rw [ByteArray.toList_eq]
set_option maxHeartbeats 2000000 in
theorem PathOf_any (s : ByteArray) (w : World) (hg : Good w) (hs : s.size ≤ 2097152) :
    Calls Tryz.prog 32 #[.string s] w fun e w' => e = .returned (.bool (pathL (bs s))) ∧ Ext w w' := by
  go_enter Tryz.func32, Tryz.ntmps32
  by_cases h200 : 200 < s.size
  · have hn : pathL (bs s) = false := by
      unfold pathL
      rw [bs_length, decide_eq_false (by omega)]; simp
    have HN := Lib.hid hn
    clear hn
    go_wp2
    go_ret
    exact ⟨ret_bool HN.out.symm, Ext.refl _⟩
  go_wp2_with fail
  refine (split_any 47 s _ hg hs).mono ?_
  rintro e w1 ⟨b, xs, rfl, hb0, hst, hxs, hx⟩
  have HXS := Lib.hid hxs
  have hcell := hst.cell
  have HC := Lib.hid hcell
  clear hcell
  have hlen := pieces_le hxs
  clear hxs
  go_wp2
  go_loopw [11] (fun i wr => ∃ k : Nat, k ≤ xs.length ∧ i = .int .i64 k ∧ (xs.take k).all (fun x => partL (bs x)) = true ∧ Ext w1 wr) (fun i _ => xs.length - (intOf i).toNat)
  case atStart => exact ⟨0, Nat.zero_le _, rfl, by simp, Ext.refl _⟩
  case round =>
    obtain ⟨k, hk, rfl, hall, hxr⟩ := hrel
    have HALL := Lib.hid hall
    clear hall
    by_cases hlt : k < xs.length
    · have hk1 := hxr.cell (HC.out k hlt)
      have hsz := piece_le HXS.out hlt
      have hne := allS_false partL xs k hlt
      have HNE := Lib.hid hne
      clear hne
      have hsu := allS_succ partL xs k hlt HALL.out
      have HSU := Lib.hid hsu
      clear hsu
      generalize xs[k] = x at *
      have hpl := partL_eq (bs x)
      have HPL := Lib.hid hpl
      clear hpl
      have hbad : partL (bs x) = false → pathL (bs s) = false := fun h => by
        unfold pathL
        rw [← HXS.out, HNE.out h]; rfl
      have HBAD := Lib.hid hbad
      clear hbad
      cases e1 : (bs x == ([] : Str))
      rotate_left
      · have hz : x.size = 0 := by rw [← bs_length, eq_of_beq e1]; rfl
        have hi := emp_bool hz
        have HP := Lib.hid (HBAD.out (by rw [HPL.out, bne, e1]; rfl))
        clear e1
        go_wp2
        go_ret
        exact ⟨ret_bool HP.out.symm, hx.trans hxr⟩
      have hz : 0 < x.size := by
        rcases Nat.eq_zero_or_pos x.size with h | h
        · rw [bs_nil h] at e1; cases e1
        · exact h
      have hi := nemp_bool hz
      cases e2 : (bs x == [46])
      rotate_left
      · have t2 : (x.toList == [46]) = true := by rw [tl_beq]; exact e2
        have HP := Lib.hid (HBAD.out (by rw [HPL.out, bne, bne, e2]; simp))
        clear e1 e2
        go_wp2
        go_ret
        exact ⟨ret_bool HP.out.symm, hx.trans hxr⟩
      have t2 : (x.toList == [46]) = false := by rw [tl_beq]; exact e2
      cases e3 : (bs x == [46, 46])
      rotate_left
      · have t3 : (x.toList == [46, 46]) = true := by rw [tl_beq]; exact e3
        have HP := Lib.hid (HBAD.out (by rw [HPL.out, bne, bne, bne, e3]; simp))
        clear e1 e2 e3
        go_wp2
        go_ret
        exact ⟨ret_bool HP.out.symm, hx.trans hxr⟩
      have t3 : (x.toList == [46, 46]) = false := by rw [tl_beq]; exact e3
      by_cases h40 : 40 < x.size
      · have HP := Lib.hid (HBAD.out (by rw [HPL.out, bs_length, decide_eq_false (by omega : ¬ x.size ≤ 40)]; simp))
        clear e1 e2 e3
        go_wp2
        go_ret
        exact ⟨ret_bool HP.out.symm, hx.trans hxr⟩
      have hgood : partL (bs x) = (bs x).all partB := by
        rw [HPL.out, bne, bne, bne, e1, e2, e3, bs_length, decide_eq_true (by omega : x.size ≤ 40)]; simp
      have HG := Lib.hid hgood
      clear hgood e1 e2 e3
      go_wp2_with fail
      refine (of_part x _ (by omega)).mono ?_
      rintro e w2 ⟨rfl, hx2⟩
      cases hn : (bs x).all partB
      · have HP := Lib.hid (HBAD.out (HG.out.trans hn))
        clear hn
        go_wp2
        go_ret
        exact ⟨ret_bool HP.out.symm, (hx.trans hxr).trans hx2⟩
      · have HP := Lib.hid (HG.out.trans hn)
        clear hn
        go_wp2
        go_roundw
        case rel => exact ⟨k + 1, by omega, by go_num, HSU.out HP.out, hxr.trans hx2⟩
        case measure => simp [intOf]; omega
    · obtain rfl : k = xs.length := by omega
      go_wp2
      go_ret
      refine ⟨ret_bool ?_, hx.trans hxr⟩
      unfold pathL
      rw [← HXS.out, allS_true partL xs HALL.out, bs_length]
      simp
      omega
end Go.Proofs.YtghhjlcbcojcnaaGreatDoor

namespace Go.Proofs.YtghhjlcbcojcnaaGreatDoor
open Go.RowKit

set_option maxHeartbeats 1000000 in
theorem ValueOf_any (s : ByteArray) (w : World) (hs : s.size ≤ 2097152) :
    Calls Tryz.prog 34 #[.string s] w fun e w' => e = .returned (.bool (valueL (bs s))) ∧ w = w' := by
  go_enter Tryz.func34, Tryz.ntmps34
  go_wp2
  go_loop [6] (fun i => ∃ k : Nat, k ≤ s.size ∧ i = .int .i64 k ∧ (s.data.toList.take k).all valueB = true) (fun i => s.size - (intOf i).toNat)
  case atStart => exact ⟨0, Nat.zero_le _, rfl, by simp⟩
  case round =>
    obtain ⟨k, hk, rfl, hall⟩ := hrel
    have HALL := Lib.hid hall
    clear hall
    by_cases hlt : k < s.size
    · have hfa := all_false_of valueB s k hlt
      have hsu := all_take_succ valueB s k hlt
      have HFA := Lib.hid hfa
      have HSU := Lib.hid hsu
      clear hfa hsu
      by_cases h1 : s[k].toNat < 32
      · have h1' : ((s[k].toNat : Nat) : Int) < 32 := by omega
        have hv : valueB s[k] = false := by simp [valueB]; omega
        have HV := Lib.hid (HFA.out hv)
        clear hv h1
        go_wp2
        go_ret
        exact ⟨ret_bool (by rw [valueL, show (bs s).all valueB = false from HV.out]; rfl), rfl⟩
      · have h1' : ¬ ((s[k].toNat : Nat) : Int) < 32 := by omega
        by_cases h2 : 126 < s[k].toNat
        · have h2' : (126 : Int) < ((s[k].toNat : Nat) : Int) := by omega
          have hv : valueB s[k] = false := by simp [valueB]; omega
          have HV := Lib.hid (HFA.out hv)
          clear hv h1 h2
          go_wp2
          go_ret
          exact ⟨ret_bool (by rw [valueL, show (bs s).all valueB = false from HV.out]; rfl), rfl⟩
        · have h2' : ¬ (126 : Int) < ((s[k].toNat : Nat) : Int) := by omega
          have hv : valueB s[k] = true := by simp [valueB]; omega
          have HV := Lib.hid hv
          clear hv h1 h2
          go_wp2
          go_round
          case rel => exact ⟨k + 1, by omega, by go_num, by rw [HSU.out, HALL.out, HV.out]; rfl⟩
          case measure => simp [intOf]; omega
    · obtain rfl : k = s.size := by omega
      go_wp2
      go_ret
      refine ⟨ret_bool ?_, rfl⟩
      rw [take_size] at HALL
      rw [valueL, show (bs s).all valueB = true from HALL.out, bs_length]
      simp
      omega

end Go.Proofs.YtghhjlcbcojcnaaGreatDoor

namespace Go.Proofs.YtghhjlcbcojcnaaGreatDoor
open Go.RowKit

structure V4 where
  a1 : Int
  a2 : Int
  a3 : Int
  a : ByteArray
def V4.err (v : V4) : Int := checkV v.a1 v.a2 v.a3 (bs v.a)
/-- versions in a slice, at the head of a block -/
structure VerS (w : World) (b : Nat) (l : List V4) : Prop where
  c0 : ∀ k (h : k < l.length), w.cell? ⟨b, k * 4, none⟩ = some (.int .i64 l[k].a1)
  c1 : ∀ k (h : k < l.length), w.cell? ⟨b, k * 4 + 1, none⟩ = some (.int .i64 l[k].a2)
  c2 : ∀ k (h : k < l.length), w.cell? ⟨b, k * 4 + 2, none⟩ = some (.int .i64 l[k].a3)
  c3 : ∀ k (h : k < l.length), w.cell? ⟨b, k * 4 + 3, none⟩ = some (.string l[k].a)
theorem VerS.ext {w w' : World} {b : Nat} {l : List V4} (h : VerS w b l) (hx : Ext w w') : VerS w' b l :=
  ⟨fun k hk => hx.cell (h.c0 k hk), fun k hk => hx.cell (h.c1 k hk), fun k hk => hx.cell (h.c2 k hk), fun k hk => hx.cell (h.c3 k hk)⟩
end Go.Proofs.YtghhjlcbcojcnaaGreatDoor

namespace Go.Proofs.YtghhjlcbcojcnaaGreatDoor
open Go.RowKit

theorem VerS.one {w : World} {b : Nat} {a1 a2 a3 : Int} {a : ByteArray} (h0 : w.cell? ⟨b, 0, none⟩ = some (.int .i64 a1)) (h1 : w.cell? ⟨b, 1, none⟩ = some (.int .i64 a2)) (h2 : w.cell? ⟨b, 2, none⟩ = some (.int .i64 a3)) (h3 : w.cell? ⟨b, 3, none⟩ = some (.string a)) : VerS w b [⟨a1, a2, a3, a⟩] := by
  constructor
  all_goals intro k hk
  all_goals obtain rfl : k = 0 := by simpa using hk
  · exact h0
  · exact h1
  · exact h2
  · exact h3
end Go.Proofs.YtghhjlcbcojcnaaGreatDoor

namespace Go.Proofs.YtghhjlcbcojcnaaGreatDoor

end Go.Proofs.YtghhjlcbcojcnaaGreatDoor

namespace Go.Proofs.YtghhjlcbcojcnaaGreatDoor
open Go.RowKit

end Go.Proofs.YtghhjlcbcojcnaaGreatDoor

namespace Go.Proofs.YtghhjlcbcojcnaaGreatDoor
open Go.RowKit

end Go.Proofs.YtghhjlcbcojcnaaGreatDoor

namespace Go.Proofs.YtghhjlcbcojcnaaGreatDoor

end Go.Proofs.YtghhjlcbcojcnaaGreatDoor

namespace Go.Proofs.YtghhjlcbcojcnaaGreatDoor
open Go.ChangeShapes Go.WideShapes Go.ChangeAt Go.RowKit Go.WideElems

theorem own : ownKnob Tryz.prog.godebug = none := by kernel_rfl
theorem laidOut : laidOutB Tryz.prog = true := by kernel_rfl
theorem stays {H : Type} {enc : TypeId × Value → H} {W W' : World} {sp : Nat → Bool} : ∀ (ts : List TypeId) (vs : List Value) (ds : List (DataW H)) (ps : List MemPlace),
    (∀ t ∈ ts, Tryz.prog.readableRec t = true ∧ t < Tryz.prog.types.size) → DataW.TrodAll enc Tryz.prog W 0 (fun _ => true) true ts vs ds ps → (∀ p ∈ ps, W.sameAt W' p) → (∀ p ∈ ps, sp p.block = true) →
    DataW.TrodAll enc Tryz.prog W' 0 sp true ts vs ds ps
  | [], vs, ds, ps, _, h, _, _ => by
    obtain ⟨rfl, rfl, rfl⟩ := trodAll_nil h
    exact trodAll_mk0
  | t :: ts, vs, ds, ps, hr, h, hs, hp => by
    obtain ⟨v0, vs0, d0, ds0, p0, q0, rfl, rfl, rfl, h0, r0⟩ := trodAll_cons h
    exact trodAll_cons_mk (Trod_stays laidOut (hr t (by simp)).1 (hr t (by simp)).2 h0 (fun p hm => hs p (List.mem_append_left _ hm)) (fun p hm => hp p (List.mem_append_left _ hm)))
      (stays ts vs0 ds0 q0 (fun t ht => hr t (by simp [ht])) r0 (fun p hm => hs p (List.mem_append_right _ hm)) (fun p hm => hp p (List.mem_append_right _ hm)))

set_option maxRecDepth 100000 in
/-- The row's last step, where nothing that was there has turned, and the call answers true. -/
theorem post_true {H : Type} {enc : TypeId × Value → H} {f : Func} {s : ChangeSpec} {apart fresh handsOn again : Bool} {W W' : World} {args : Array Value} {ds gs : List (DataW H)} {before : List MemPlace}
    (hW : DataW.Whole enc Tryz.prog f.params.toList s.vars apart W args.toList ds gs before) (hvars : s.vars = []) (hrt : f.resultTypes = #[4])
    (hr : ∀ t ∈ f.params.toList, Tryz.prog.readableRec t = true ∧ t < Tryz.prog.types.size)
    (hres : (s.fn H (ds ++ gs)).results = [.lit (.bool true)]) (hargs : (s.fn H (ds ++ gs)).args = ds) (hv : (s.fn H (ds ++ gs)).vars = []) (hb : Ext W W') :
    s.post enc Tryz.prog f apart fresh handsOn again W args (.bool true) W' := by
  have hlt : ∀ p ∈ before, p.block < W.heap.size := fun p hp => hW.lt p hp
  have hW' := hW
  obtain ⟨p, q, hA, hV, rfl, hz, hn⟩ := hW'
  rw [hvars] at hV
  obtain ⟨rfl, rfl⟩ := trodVars_none hV
  have hsame : ∀ x ∈ p, W.sameAt W' x := fun x hx => Below.same hb (hlt x (by simp [hx]))
  have hT : ∀ sp : Nat → Bool, (∀ x ∈ p ++ [], sp x.block = true) → DataW.TrodAll enc Tryz.prog W' 0 sp true f.params.toList args.toList (s.fn H (ds ++ [])).args p := fun sp hs => by
    rw [hargs]
    exact stays _ _ _ _ hr hA hsame (fun x hx => hs x (by simp [hx]))
  have hR : ∀ (b : Nat) (sp : Nat → Bool) (hd : Bool), DataW.TrodAll enc Tryz.prog W' b sp hd f.resultTypes.toList ((Value.bool true).resultList f.resultTypes.size) (s.fn H (ds ++ [])).results [] := fun b sp hd => by
    rw [hres, hrt]
    exact trodAll_mk1 (shut_bool Tryz.underlying4 true)
  have hVV : ∀ sp : Nat → Bool, DataW.TrodVars enc Tryz.prog W' sp s.vars (s.fn H (ds ++ [])).vars [] := fun sp => by
    rw [hvars, hv]
    exact rfl
  refine ⟨ds, [], p ++ [], [], p, [], hW, hR _ _ _, hT _ (fun x hx => by simpa using hlt x hx), hVV _, World.keptBut_mono (fun x hx => ⟨hx, .inr (by simpa using hx)⟩) (Below.frame hb (· ∈ p ++ [])), fun _ => ?_⟩
  refine ⟨?_, _, _, ([] ++ p) ++ [], ⟨[] ++ p, [], trodAll_append (hT _ (fun _ _ => rfl)) (hR _ _ _), hVV _, rfl, ?_, ?_⟩, ?_⟩
  · intro j t r h1 h2
    rw [hrt] at h1 h2
    match j with
    | 0 =>
      obtain rfl : 4 = t := by simpa using h1
      obtain rfl : Value.bool true = r := by simpa [Value.resultList] using h2
      exact okWide_bool_mk Tryz.underlying4 true
    | j + 1 => simp at h1
  · intro b off hp
    have hin : MemPlace.cell b off ∈ p ++ [] := by simpa using hp
    rw [Below.frozen hb (hlt _ hin)]
    exact hz b off hin
  · intro ha
    simpa using hn ha
  · intro x hx _
    simpa using hx
end Go.Proofs.YtghhjlcbcojcnaaGreatDoor
