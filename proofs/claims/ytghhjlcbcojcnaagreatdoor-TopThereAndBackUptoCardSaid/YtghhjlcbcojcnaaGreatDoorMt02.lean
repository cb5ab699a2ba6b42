/- Contracts of ver.IsPath, isEarly, Check. Contracts of ver.text. Contracts of ver.Check, Print. A region that draws its order: a quiet beginning in a class of worlds, then a tail in one forced order. Plain laws: decimal numbers and their texts; the order of words. Plain laws: the order of words of early versions, and of versions. -/
import Derived.Test.YtghhjlcbcojcnaaGreatDoorMt01
import Derived.StillTail
import Derived.Lib.AtoiAll
import Derived.Lib.Small
import Derived.Lib.Bytealg

namespace Go.Proofs.YtghhjlcbcojcnaaGreatDoor
open Go.RowKit

/-! ### A predicate along a list of strings -/
theorem allS_succ (p : Str → Bool) (xs : List ByteArray) (k : Nat) (h : k < xs.length) (h1 : (xs.take k).all (fun x => p (bs x)) = true) (h2 : p (bs xs[k]) = true) : (xs.take (k + 1)).all (fun x => p (bs x)) = true := by
  rw [List.take_succ_eq_append_getElem h, List.all_append, h1]
  simp [h2]
theorem allS_false (p : Str → Bool) (xs : List ByteArray) (k : Nat) (h : k < xs.length) (h2 : p (bs xs[k]) = false) : (xs.map bs).all p = false := by
  rw [List.all_eq_false]
  exact ⟨bs xs[k], List.mem_map.2 ⟨xs[k], List.getElem_mem h, rfl⟩, by simp [h2]⟩
theorem allS_true (p : Str → Bool) (xs : List ByteArray) (h1 : (xs.take xs.length).all (fun x => p (bs x)) = true) : (xs.map bs).all p = true := by
  rw [List.take_length] at h1
  rw [List.all_map]; exact h1

/-- pieces of a text are no longer than it -/
theorem splitC_le (c : UInt8) : ∀ (l p : Str), p ∈ splitC c l → p.length ≤ l.length
  | [], p, h => by simp [splitC] at h; simp [h]
  | x :: r, p, h => by
    unfold splitC at h
    by_cases hx : x = c
    · rw [if_pos hx] at h
      rcases List.mem_cons.1 h with e | e
      · simp [e]
      · have := splitC_le c r p e; simp; omega
    · rw [if_neg hx] at h
      cases hs : splitC c r with
      | nil => exact absurd hs (splitC_ne c r)
      | cons q t =>
        rw [hs] at h
        rcases List.mem_cons.1 h with e | e
        · have := splitC_le c r q (by rw [hs]; simp)
          rw [e]; simp; omega
        · have := splitC_le c r p (by rw [hs]; simp [e]); simp; omega
theorem piece_le {c : UInt8} {s : ByteArray} {xs : List ByteArray} (h : xs.map bs = splitC c (bs s)) {k : Nat} (hk : k < xs.length) : xs[k].size ≤ s.size := by
  rw [← bs_length, ← bs_length]
  exact splitC_le c _ _ (by rw [← h]; exact List.mem_map.2 ⟨_, List.getElem_mem hk, rfl⟩)

theorem splitC_length_le (c : UInt8) : ∀ l : Str, (splitC c l).length ≤ l.length + 1
  | [] => by simp [splitC]
  | x :: r => by
    have := splitC_length_le c r
    unfold splitC
    split
    · simp; omega
    · split <;> simp_all; omega
theorem pieces_le {c : UInt8} {s : ByteArray} {xs : List ByteArray} (h : xs.map bs = splitC c (bs s)) : xs.length ≤ s.size + 1 := by
  have h1 := splitC_length_le c (bs s)
  rw [← h, List.length_map, bs_length] at h1
  exact h1

def pathL (l : Str) : Bool := (splitC 47 l).all partL && decide (l.length ≤ 200)
set_option maxHeartbeats 400000 in
theorem IsPath_any (s : ByteArray) (w : World) (hg : Good w) (hs : s.size ≤ 2097152) :
    Calls Tryz.prog 31 #[.string s] w fun e w' => e = .returned (.bool (pathL (bs s))) ∧ Ext w w' := by
  go_enter Tryz.func31, Tryz.ntmps31
  go_wp2_with fail
  refine (split_any 47 s _ hg hs).mono ?_
  rintro e w1 ⟨b, xs, rfl, hb0, hst, hxs, hx⟩
  have HXS := Lib.hid hxs
  have hcell := hst.cell
  have HC := Lib.hid hcell
  clear hcell
  have hlen := pieces_le hxs
  clear hxs
  go_wp2
  go_loop [8] (fun i => ∃ k : Nat, k ≤ xs.length ∧ i = .int .i64 k ∧ (xs.take k).all (fun x => partL (bs x)) = true) (fun i => xs.length - (intOf i).toNat)
  case atStart => exact ⟨0, Nat.zero_le _, rfl, by simp⟩
  case round =>
    obtain ⟨k, hk, rfl, hall⟩ := hrel
    have HALL := Lib.hid hall
    clear hall
    by_cases hlt : k < xs.length
    · have hk1 := HC.out k hlt
      have hsz := piece_le HXS.out hlt
      go_wp2_with fail
      refine (isPart_any xs[k] _ (by omega)).mono ?_
      rintro e w' ⟨rfl, rfl⟩
      cases hp : partL (bs xs[k])
      · go_wp2
        go_ret
        refine ⟨ret_bool ?_, hx⟩
        unfold pathL
        rw [← HXS.out, allS_false partL xs k hlt hp]
        rfl
      · go_wp2
        go_round
        case rel => exact ⟨k + 1, by omega, by go_num, allS_succ _ _ _ hlt HALL.out hp⟩
        case measure => simp [intOf]; omega
    · obtain rfl : k = xs.length := by omega
      go_wp2
      go_ret
      refine ⟨ret_bool ?_, hx⟩
      unfold pathL
      rw [← HXS.out, allS_true partL xs HALL.out, bs_length]
      simp
      omega

def earlyWordL (l : Str) : Bool := eachL wordB l 10 && !(numeralL l && (l.headD 0 == 48) && (l != [48]))
def earlyL (l : Str) : Bool := (splitC 46 l).all earlyWordL && decide (l.length ≤ 40)
theorem cast_beq (a : UInt8) (n : Nat) (h : n < 256) : (((a.toNat : Nat) : Int) == (n : Int)) = (a == UInt8.ofNat n) := by
  rw [Bool.eq_iff_iff, beq_iff_eq, beq_iff_eq]
  constructor
  · intro e
    apply UInt8.toNat_inj.1
    rw [UInt8.toNat_ofNat']
    omega
  · rintro rfl
    rw [UInt8.toNat_ofNat']
    omega
theorem ew_bad {x : ByteArray} {h0 : 0 < x.size} (hh : (bs x).headD 0 = x[0]) (hn : numeralL (bs x) = true) (h1 : (x[0].toNat : Int) = 48) (h2 : (!x.toList == [48]) = true) : earlyWordL (bs x) = false := by
  have h3 : x[0] = 48 := UInt8.toNat_inj.1 (by show x[0].toNat = 48; omega)
  rw [ByteArray.toList_eq] at h2
  have h4 : (bs x != [48]) = true := h2
  rw [earlyWordL, hh, h3, hn, h4]
  simp
theorem ew_good1 {x : ByteArray} (hp : eachL wordB (bs x) 10 = true) (h2 : (!x.toList == [48]) = false) : earlyWordL (bs x) = true := by
  rw [ByteArray.toList_eq] at h2
  have h4 : (bs x != [48]) = false := h2
  rw [earlyWordL, hp, h4]
  simp
theorem ew_good2 {x : ByteArray} {h0 : 0 < x.size} (hp : eachL wordB (bs x) 10 = true) (hh : (bs x).headD 0 = x[0]) (h1 : ¬ (x[0].toNat : Int) = 48) : earlyWordL (bs x) = true := by
  have h3 : (x[0] == 48) = false := by
    rw [beq_eq_false_iff_ne]
    intro e
    rw [e] at h1
    exact h1 rfl
  rw [earlyWordL, hp, hh, h3]
  simp
set_option maxHeartbeats 1000000 in
theorem isEarly_any (s : ByteArray) (w : World) (hg : Good w) (hs : s.size ≤ 2097152) :
    Calls Tryz.prog 96 #[.string s] w fun e w' => e = .returned (.bool (earlyL (bs s))) ∧ Ext w w' := by
  go_enter Tryz.func96, Tryz.ntmps96
  go_wp2_with fail
  refine (split_any 46 s _ hg hs).mono ?_
  rintro e w1 ⟨b, xs, rfl, hb0, hst, hxs, hx⟩
  have HXS := Lib.hid hxs
  have hcell := hst.cell
  have HC := Lib.hid hcell
  clear hcell
  have hlen := pieces_le hxs
  clear hxs
  go_wp2
  go_loop [8] (fun i => ∃ k : Nat, k ≤ xs.length ∧ i = .int .i64 k ∧ (xs.take k).all (fun x => earlyWordL (bs x)) = true) (fun i => xs.length - (intOf i).toNat)
  case atStart => exact ⟨0, Nat.zero_le _, rfl, by simp⟩
  case round =>
    obtain ⟨k, hk, rfl, hall⟩ := hrel
    have HALL := Lib.hid hall
    clear hall
    by_cases hlt : k < xs.length
    · have hk1 := HC.out k hlt
      have hsz := piece_le HXS.out hlt
      have hne : earlyWordL (bs xs[k]) = false → (xs.map bs).all earlyWordL = false := allS_false earlyWordL xs k hlt
      have HNE := Lib.hid hne
      clear hne
      have hsu := allS_succ earlyWordL xs k hlt HALL.out
      have HSU := Lib.hid hsu
      clear hsu
      generalize xs[k] = x at *
      go_wp2_with fail
      refine (each_list _ _ x 10 _ (by omega) isEarly1_pred).mono ?_
      rintro e w' ⟨rfl, rfl⟩
      cases hp : eachL wordB (bs x) 10
      · go_wp2
        go_ret
        refine ⟨ret_bool ?_, hx⟩
        unfold earlyL
        rw [← HXS.out, HNE.out (by rw [earlyWordL, hp]; rfl)]
        rfl
      · have h0 := eachL_pos hp
        have hh := head_bs x h0
        have HH := Lib.hid hh
        clear hh
        go_wp2_with fail
        refine (isNumeral_any x _ (by omega)).mono ?_
        rintro e w' ⟨rfl, rfl⟩
        cases hn : numeralL (bs x)
        · go_wp2
          go_round
          case rel => exact ⟨k + 1, by omega, by go_num, HSU.out (by rw [earlyWordL, hp, hn]; rfl)⟩
          case measure => simp [intOf]; omega
        · go_wp2
          · go_ret
            refine ⟨ret_bool ?_, hx⟩
            unfold earlyL
            rw [← HXS.out, HNE.out (ew_bad HH.out hn (by assumption) (by assumption))]
            rfl
          · go_round
            case rel => exact ⟨k + 1, by omega, by go_num, HSU.out (ew_good1 hp (by assumption))⟩
            case measure => simp [intOf]; omega
          · go_round
            case rel => exact ⟨k + 1, by omega, by go_num, HSU.out (ew_good2 hp HH.out (by assumption))⟩
            case measure => simp [intOf]; omega
    · obtain rfl : k = xs.length := by omega
      go_wp2
      go_ret
      refine ⟨ret_bool ?_, hx⟩
      unfold earlyL
      rw [← HXS.out, allS_true earlyWordL xs HALL.out, bs_length]
      simp
      omega
end Go.Proofs.YtghhjlcbcojcnaaGreatDoor

namespace Go.Proofs.YtghhjlcbcojcnaaGreatDoor
open Go.RowKit

def inNum (n : Int) : Bool := decide (0 ≤ n ∧ n ≤ 999999)
def textL (ma mi pa : Int) (e : Str) : Str := Lib.itoa ma ++ [46] ++ Lib.itoa mi ++ [46] ++ Lib.itoa pa ++ (if e = [] then [] else 45 :: e)
end Go.Proofs.YtghhjlcbcojcnaaGreatDoor

namespace Go.Proofs.YtghhjlcbcojcnaaGreatDoor
open Go.RowKit

theorem outside_num (n : Int) (w : World) :
    Calls Tryz.prog 95 #[.int .i64 n, .int .i64 0, .int .i64 999999] w fun e w' => e = .returned (.bool (!inNum n)) ∧ w = w' :=
  (outside_any n 0 999999 w).mono fun _ _ ⟨h, k⟩ => ⟨by
    rw [h]
    refine ret_bool ?_
    unfold inNum
    rw [← decide_not, decide_eq_decide]
    omega, k⟩
/-- The error of a version: 3 ErrRange, 2 ErrForm, 0 none. -/
def checkV (ma mi pa : Int) (e : Str) : Int := if (inNum ma && inNum mi && inNum pa) = false then 3 else if (!e.isEmpty && !earlyL e) = true then 2 else 0
set_option maxHeartbeats 1000000 in
theorem Check_any (ma mi pa : Int) (ea : ByteArray) (w : World) (hg : Good w) (hs : ea.size ≤ 2097152) :
    Calls Tryz.prog 28 #[.agg #[.int .i64 ma, .int .i64 mi, .int .i64 pa, .string ea]] w fun e w' => e = .returned (.int .i64 (checkV ma mi pa (bs ea))) ∧ Ext w w' := by
  have i0 : ∀ w, (Instr.index 130 (.agg #[.int .i64 ma, .int .i64 mi, .int .i64 pa]) (.int .i64 0)).run Tryz.prog w = .ok (.int .i64 ma) w := fun _ => by kernel_rfl
  have i1 : ∀ w, (Instr.index 130 (.agg #[.int .i64 ma, .int .i64 mi, .int .i64 pa]) (.int .i64 1)).run Tryz.prog w = .ok (.int .i64 mi) w := fun _ => by kernel_rfl
  have i2 : ∀ w, (Instr.index 130 (.agg #[.int .i64 ma, .int .i64 mi, .int .i64 pa]) (.int .i64 2)).run Tryz.prog w = .ok (.int .i64 pa) w := fun _ => by kernel_rfl
  go_enter Tryz.func28, Tryz.ntmps28
  go_wp2
  go_loop [12] (fun i => (i = .int .i64 0 ∨ (i = .int .i64 1 ∧ inNum ma = true) ∨ (i = .int .i64 2 ∧ inNum ma = true ∧ inNum mi = true) ∨ (i = .int .i64 3 ∧ inNum ma = true ∧ inNum mi = true ∧ inNum pa = true))) (fun i => 3 - (intOf i).toNat)
  case atStart => exact .inl rfl
  case round =>
    rcases hrel with rfl | ⟨rfl, h1⟩ | ⟨rfl, h1, h2⟩ | ⟨rfl, h1, h2, h3⟩
    · go_wp2_with fail
      refine (outside_num _ _).mono ?_
      rintro e w' ⟨rfl, rfl⟩
      cases h1 : inNum ma
      · go_wp2
        go_ret
        exact ⟨ret_int (by rw [checkV, h1]; rfl), (by repeat (first | with_reducible exact Ext.refl _ | with_reducible assumption | with_reducible apply Ext.drewN | with_reducible apply Ext.drew | with_reducible apply Ext.alloc | exact Ext.refl _ | assumption | apply Ext.drewN | apply Ext.drew | apply Ext.alloc))⟩
      · go_wp2
        go_round
        case rel => exact .inr (.inl ⟨rfl, h1⟩)
        case measure => decide
    · go_wp2_with fail
      refine (outside_num _ _).mono ?_
      rintro e w' ⟨rfl, rfl⟩
      cases h2 : inNum mi
      · go_wp2
        go_ret
        exact ⟨ret_int (by rw [checkV, h1, h2]; rfl), (by repeat (first | with_reducible exact Ext.refl _ | with_reducible assumption | with_reducible apply Ext.drewN | with_reducible apply Ext.drew | with_reducible apply Ext.alloc | exact Ext.refl _ | assumption | apply Ext.drewN | apply Ext.drew | apply Ext.alloc))⟩
      · go_wp2
        go_round
        case rel => exact .inr (.inr (.inl ⟨rfl, h1, h2⟩))
        case measure => decide
    · go_wp2_with fail
      refine (outside_num _ _).mono ?_
      rintro e w' ⟨rfl, rfl⟩
      cases h3 : inNum pa
      · go_wp2
        go_ret
        exact ⟨ret_int (by rw [checkV, h1, h2, h3]; rfl), (by repeat (first | with_reducible exact Ext.refl _ | with_reducible assumption | with_reducible apply Ext.drewN | with_reducible apply Ext.drew | with_reducible apply Ext.alloc | exact Ext.refl _ | assumption | apply Ext.drewN | apply Ext.drew | apply Ext.alloc))⟩
      · go_wp2
        go_round
        case rel => exact .inr (.inr (.inr ⟨rfl, h1, h2, h3⟩))
        case measure => decide
    · have H1 := Lib.hid h1
      have H2 := Lib.hid h2
      have H3 := Lib.hid h3
      clear h1 h2 h3
      rcases Nat.eq_zero_or_pos ea.size with h0 | h0
      · have he := emp_of_size h0
        have hi : ea.toList.isEmpty = true := by rw [he]; rfl
        go_wp2
        go_ret
        exact ⟨ret_int (by rw [checkV, H1.out, H2.out, H3.out, bs_nil h0]; rfl), (by repeat (first | with_reducible exact Ext.refl _ | with_reducible assumption | with_reducible apply Ext.drewN | with_reducible apply Ext.drew | with_reducible apply Ext.alloc | exact Ext.refl _ | assumption | apply Ext.drewN | apply Ext.drew | apply Ext.alloc))⟩
      · have he := nemp_of_size h0
        have hi := nemp_bool h0
        have hb : (bs ea).isEmpty = false := by rw [ByteArray.toList_eq] at hi; exact hi
        have HB := Lib.hid hb
        clear hb
        go_wp2_with fail
        refine (isEarly_any _ _ (hg.ext (by repeat (first | with_reducible exact Ext.refl _ | with_reducible assumption | with_reducible apply Ext.drewN | with_reducible apply Ext.drew | with_reducible apply Ext.alloc | exact Ext.refl _ | assumption | apply Ext.drewN | apply Ext.drew | apply Ext.alloc))) hs).mono ?_
        rintro e w1 ⟨rfl, hx1⟩
        cases h4 : earlyL (bs ea)
        · go_wp2
          go_ret
          exact ⟨ret_int (by rw [checkV, H1.out, H2.out, H3.out, HB.out, h4]; rfl), Ext.trans (by repeat (first | with_reducible exact Ext.refl _ | with_reducible assumption | with_reducible apply Ext.drewN | with_reducible apply Ext.drew | with_reducible apply Ext.alloc | exact Ext.refl _ | assumption | apply Ext.drewN | apply Ext.drew | apply Ext.alloc)) hx1⟩
        · go_wp2
          go_ret
          exact ⟨ret_int (by rw [checkV, H1.out, H2.out, H3.out, HB.out, h4]; rfl), Ext.trans (by repeat (first | with_reducible exact Ext.refl _ | with_reducible assumption | with_reducible apply Ext.drewN | with_reducible apply Ext.drew | with_reducible apply Ext.alloc | exact Ext.refl _ | assumption | apply Ext.drewN | apply Ext.drew | apply Ext.alloc)) hx1⟩
theorem checkV_ok {ma mi pa : Int} {e : Str} (h : checkV ma mi pa e = 0) : (0 ≤ ma ∧ ma ≤ 999999) ∧ (0 ≤ mi ∧ mi ≤ 999999) ∧ (0 ≤ pa ∧ pa ≤ 999999) ∧ (e = [] ∨ earlyL e = true) := by
  unfold checkV at h
  split at h
  · cases h
  · rename_i h1
    split at h
    · cases h
    · rename_i h2
      have h1' : (inNum ma && inNum mi && inNum pa) = true := by cases hX : (inNum ma && inNum mi && inNum pa) with | false => exact absurd hX h1 | true => rfl
      simp only [Bool.and_eq_true, inNum, decide_eq_true_eq] at h1'
      refine ⟨h1'.1.1, h1'.1.2, h1'.2, ?_⟩
      by_cases h3 : e = []
      · exact .inl h3
      · refine .inr ?_
        cases h4 : earlyL e
        · exact absurd (by rw [h4]; simpa using h3) h2
        · rfl
end Go.Proofs.YtghhjlcbcojcnaaGreatDoor

namespace Go.Proofs.YtghhjlcbcojcnaaGreatDoor
open Go.RowKit
section
variable {P : Program} {ops : Array Oper} {md : Region.Mode} {C : World → Prop}

/-- So many operations, each below n and quiet, in whatever order is picked; then L. -/
def anyT (P : Program) (md : Region.Mode) (ops : Array Oper) (C : World → Prop) (n : Nat) (L : Array Bool → Act → Prop) : Nat → Array Bool → Act → Prop
  | 0, listed, a => L listed a
  | f + 1, listed, a => Region.ready md ops listed ≠ [] ∧ ∀ i ∈ Region.ready md ops listed, i < n ∧ qOp P ops C i (anyT P md ops C n L f (listed.setIfInBounds i true)) a

theorem wpAny_of_anyT {n g : Nat} {L : Array Bool → Act → Prop} {Q : Exit → Act → World → Prop} (hL : ∀ listed a w, C w → L listed a → wpAny P md ops Q g listed a w) :
    ∀ (f : Nat) (listed : Array Bool) (a : Act) (w : World), C w → anyT P md ops C n L f listed a → wpAny P md ops Q (f + g) listed a w := by
  intro f
  induction f with
  | zero => intro listed a w hw h; rw [Nat.zero_add]; exact hL _ _ _ hw h
  | succ f ih =>
    intro listed a w hw h
    rw [show f + 1 + g = (f + g) + 1 by omega]
    exact ⟨fun h0 => absurd h0 h.1, fun i hi => wpOp_of_qOp hw (fun a' w' hw' h' => ih _ a' w' hw' h') (h.2 i hi).2⟩

theorem anyT_first {n i : Nat} {oi : Oper} {v : Value} {L : Array Bool → Act → Prop} (hi : ops[i]? = some oi) (hsel : ∀ (j : Nat) (o : Oper) cs b, ops[j]? = some o → o.op ≠ .select cs b)
    (hs : Region.sinkB md ops n = true) (hc : Region.chainB md ops n = true) (hn : n < ops.size) (hin : i < n) (hdone : ∀ listed a, L listed a → ∀ j ∈ Region.ready md ops listed, n ≤ j) :
    ∀ (f : Nat) (listed : Array Bool) (a : Act), HeadInv md ops n listed →
      (∀ j oj, ops[j]? = some oj → j ≠ i → listed.getD j true = false → (∀ e ∈ oj.after, Region.binds md e = true → e.on ≠ i) → oi.apart ops oj = true) →
      i ∈ Region.ready md ops listed → YieldsIn P ops C oi v a →
      anyT P md ops C n L f (listed.setIfInBounds i true) (a.put oi.dst v) → anyT P md ops C n L (f + 1) listed a := by
  intro f
  induction f with
  | zero =>
    intro listed a inv _ hr hy H
    refine ⟨(fun h => by rw [h] at hr; cases hr), fun j hj => ?_⟩
    have hjn : j < n := Nat.lt_of_not_le fun h => tail_waits hs hc hn inv _ i rfl hin (mem_ready.1 hr).1 j h hj
    refine ⟨hjn, ?_⟩
    rcases Nat.decEq j i with hji | hji
    · have := hdone _ _ H j (ready_mono hj hji); omega
    · subst hji; exact hy.qOp hi H
  | succ f ih =>
    intro listed a inv hfree hr hy H
    have hun := (mem_ready.1 hr).1
    refine ⟨(fun h => by rw [h] at hr; cases hr), fun j hj => ?_⟩
    have hjn : j < n := Nat.lt_of_not_le fun h => tail_waits hs hc hn inv _ i rfl hin hun j h hj
    refine ⟨hjn, ?_⟩
    rcases Nat.decEq j i with hji | hji
    · have h1 := (H.2 j (ready_mono hj hji)).2
      obtain ⟨hjun, oj, hoj, hall⟩ := mem_ready.1 hj
      have hnot : ∀ e ∈ oj.after, Region.binds md e = true → e.on ≠ i := fun e he hb heq => by
        have h3 := hall e he hb
        rw [heq, getD_both hun] at h3
        cases h3
      have h2 := qOp_put hoj (hfree j oj hoj hji hjun hnot) (fun cs b => hsel i oi cs b hi) (fun cs b => hsel j oj cs b hoj) hy h1
      refine qOp_mono (fun a' h3 => ih (listed.setIfInBounds j true) a' (inv.set hj hjn) (fun k ok hk hki hku hno => hfree k ok hk hki ?_ hno) (ready_mono hr (Ne.symm hji)) h3.1 ?_) h2
      · rcases Nat.decEq j k with hjk | hjk
        · rw [getD_set_ne true hjk] at hku; exact hku
        · subst hjk; exact hjun
      · rw [Array.setIfInBounds_comm _ _ hji]; exact h3.2
    · subst hji; exact hy.qOp hi H

theorem anyT_lex {n g : Nat} {Lq : Act → Prop} (hsel : Region.noSelect ops = true) (hs : Region.sinkB md ops n = true) (hc : Region.chainB md ops n = true) (hn : n < ops.size) :
    ∀ (l : List Oper) (k : Nat) (listed : Array Bool) (a : Act), (∀ j, j < l.length → l[j]? = ops[k + j]?) → k + l.length = n → HeadInv md ops n listed →
      Region.lexHead md ops g l.length k listed = true → wpQuiet P ops C Lq l a →
      anyT P md ops C n (fun listed' a' => Region.seqB md ops g n listed' = true ∧ Lq a') l.length listed a := by
  intro l
  induction l with
  | nil =>
    intro k listed a _ hk _ hB h
    obtain rfl : k = n := by simpa using hk
    exact ⟨by simpa [Region.lexHead] using hB, h⟩
  | cons o l ih =>
    intro k listed a hl hk inv hB h
    have h0 : ops[k]? = some o := by simpa using (hl 0 (by simp)).symm
    simp only [List.length_cons, Region.lexHead, Bool.and_eq_true] at hB hk
    obtain ⟨⟨hr, hf⟩, hB'⟩ := hB
    have hr' : k ∈ Region.ready md ops listed := by simpa using hr
    have hst : qOp P ops C k (wpQuiet P ops C Lq l) a := by unfold qOp; simp only [h0]; exact h
    obtain ⟨v, hy, hK⟩ := yieldsIn_of_qOp h0 hst
    exact anyT_first h0 (Region.noSelect_spec hsel) hs hc hn (by omega) (fun listed' a' hL => seqB_ready hL.1) l.length listed a inv (Region.free_spec h0 hf) hr' hy
      (ih (k + 1) _ _ (fun j hj => by have := hl (j + 1) (by simp; omega); simpa [Nat.add_assoc, Nat.add_comm 1 j] using this) (by omega) (inv.set hr' (by omega)) hB' hK)

theorem wp_region_tail {id : Nat} {Q : Exit → Act → World → Prop} {a : Act} {w : World} {l : List Oper} (n : Nat) (hm : P.follows .mixedOrders = true) (hB : Region.lexTailB .any l.toArray n = true) (hC : C { w with drawn := w.drawn + 1 })
    (h : wpQuiet P l.toArray C (fun a' => ∀ w', C w' → wpList P l.toArray Q (l.drop n) a' w') (l.take n) a) : (Code.region id l.toArray true).wp P Q a w := by
  simp only [Region.lexTailB, Bool.and_eq_true, decide_eq_true_eq] at hB
  obtain ⟨⟨⟨⟨hsel, hn⟩, hs⟩, hc⟩, hlex⟩ := hB
  have hn' : n < l.length := by simpa using hn
  have htl : (l.take n).length = n := by simp; omega
  have inv0 : HeadInv .any l.toArray n (Array.replicate l.toArray.size false) :=
    ⟨by simp, (fun j oj _ hl => by rw [getD_replicate_false] at hl; cases hl), fun t _ ht => getD_in (by simpa using ht) (getD_replicate_false _ _)⟩
  have H := anyT_lex (md := .any) (C := C) (g := l.toArray.size - n) hsel hs hc hn (l.take n) 0 _ a (fun j hj => by
    rw [htl] at hj
    simp [hj]) (by simpa using htl) inv0 (by rw [htl]; exact hlex) h
  refine wp_region_any hm ?_
  have H2 := wpAny_of_anyT (Q := Q) (g := l.toArray.size - n) (fun listed a' w' hw' hL => by
    have H3 := wpAny_of_seq (md := .any) (Q' := Q) (l.drop n) n listed a' w' (fun j => by simp [List.getElem?_drop]) (by simpa using hL.1) (hL.2 w' hw')
    simpa using H3) _ _ _ _ hC H
  rw [htl, show n + (l.toArray.size - n) = l.toArray.size by omega] at H2
  exact H2
theorem wp_region_ext_tail {id : Nat} {Q : Exit → Act → World → Prop} {a : Act} {w : World} {l : List Oper} (n : Nat) (hm : P.follows .mixedOrders = true) (hB : Region.lexTailB .any l.toArray n = true)
    (h : wpQuiet P l.toArray (Ext w) (fun a' => ∀ w', Ext w w' → wpList P l.toArray Q (l.drop n) a' w') (l.take n) a) : (Code.region id l.toArray true).wp P Q a w :=
  wp_region_tail (C := Ext w) n hm hB ((Ext.refl w).drewN 1) h
end
end Go.Proofs.YtghhjlcbcojcnaaGreatDoor

namespace Go.Proofs.YtghhjlcbcojcnaaGreatDoor

def decVal (l : Str) : Nat := l.foldl (fun a c => a * 10 + (c.toNat - 48)) 0
theorem foldl_dec (l : Str) : ∀ a : Nat, l.foldl (fun a c => a * 10 + (c.toNat - 48)) a = a * 10 ^ l.length + decVal l := by
  induction l with
  | nil => intro a; simp [decVal]
  | cons c l ih =>
    intro a
    have h1 := ih (a * 10 + (c.toNat - 48))
    have h2 := ih (0 * 10 + (c.toNat - 48))
    simp only [List.foldl_cons, List.length_cons, decVal] at h1 h2 ⊢
    rw [h1, h2, Nat.pow_succ, Nat.zero_mul, Nat.zero_add, Nat.add_mul, Nat.mul_assoc, Nat.mul_comm 10, Nat.add_assoc]
theorem decVal_cons (c : UInt8) (l : Str) : decVal (c :: l) = (c.toNat - 48) * 10 ^ l.length + decVal l := by
  have := foldl_dec l (0 * 10 + (c.toNat - 48))
  simp only [Nat.zero_mul, Nat.zero_add] at this
  rw [← this]
  simp [decVal]
theorem digit_bounds {c : UInt8} (h : digitB c = true) : 48 ≤ c.toNat ∧ c.toNat ≤ 57 := by simpa [digitB] using h
theorem decVal_lt : ∀ l : Str, l.all digitB = true → decVal l < 10 ^ l.length
  | [], _ => by simp [decVal]
  | c :: l, h => by
    simp only [List.all_cons, Bool.and_eq_true] at h
    have h1 := decVal_lt l h.2
    have h2 := digit_bounds h.1
    rw [decVal_cons, List.length_cons, Nat.pow_succ]
    have : (c.toNat - 48) * 10 ^ l.length ≤ 9 * 10 ^ l.length := Nat.mul_le_mul_right _ (by omega)
    omega
theorem parse_digits : ∀ (l : Str) (k acc : Nat), l.all digitB = true → acc < 10 ^ k → k + l.length ≤ 18 → Lib.parseUint10 acc l = .ok (acc * 10 ^ l.length + decVal l)
  | [], _, acc, _, _, _ => by simp [Lib.parseUint10, decVal]
  | c :: l, k, acc, h, hk, hl => by
    simp only [List.all_cons, Bool.and_eq_true] at h
    have h2 := digit_bounds h.1
    simp only [List.length_cons] at hl
    have hp : (10 : Nat) ^ k ≤ 10 ^ 17 := Nat.pow_le_pow_right (by decide) (by omega)
    have hp2 : (10 : Nat) ^ 17 = 100000000000000000 := by decide
    have hs : acc * 10 + (c.toNat - 48) < 10 ^ (k + 1) := by rw [Nat.pow_succ]; omega
    unfold Lib.parseUint10
    rw [if_pos h2, if_neg (by omega), if_neg (by omega), parse_digits l (k + 1) _ h.2 hs (by omega), decVal_cons, List.length_cons, Nat.pow_succ]
    rw [Nat.add_mul, Nat.mul_assoc, Nat.mul_comm 10, Nat.add_assoc]
theorem atoi_digits (l : Str) (h : l.all digitB = true) (h0 : 0 < l.length) (hl : l.length ≤ 18) : Lib.atoiAll l = .ok (decVal l) := by
  cases l with
  | nil => simp at h0
  | cons c r =>
    have hc : digitB c = true := by simp only [List.all_cons, Bool.and_eq_true] at h; exact h.1
    have h2 := digit_bounds hc
    have h3 := parse_digits (c :: r) 0 0 h (by decide) (by omega)
    have h4 := decVal_lt (c :: r) h
    have h5 : (10 : Nat) ^ (c :: r).length ≤ 10 ^ 18 := Nat.pow_le_pow_right (by decide) hl
    have h6 : (10 : Nat) ^ 18 = 1000000000000000000 := by decide
    rw [Nat.zero_mul, Nat.zero_add] at h3
    unfold Lib.atoiAll
    simp only [Lib.parseMag]
    have e1 : ¬ (c.toNat = 43 ∨ c.toNat = 45) := by omega
    have e2 : ¬ c.toNat = 45 := by omega
    rw [if_neg e1, if_neg (by simp), h3]
    simp only [e2, not_false_eq_true, true_and, false_and, if_false]
    rw [if_neg (by omega)]

/-! ### itoa -/
end Go.Proofs.YtghhjlcbcojcnaaGreatDoor

namespace Go.Proofs.YtghhjlcbcojcnaaGreatDoor

/-- compareWords -/
def cmpWordL (a b : Str) : Int :=
  if (numeralL a && numeralL b) = true then (if a.length = b.length then Lib.compareBytes a b else Lib.compareInt a.length b.length)
  else if numeralL a = true then -1 else if numeralL b = true then 1 else Lib.compareBytes a b
/-- word by word, then by how many -/
def cmpWordsL (f : Str → Str → Int) : List Str → List Str → Int
  | x :: xs, y :: ys => if f x y = 0 then cmpWordsL f xs ys else f x y
  | xs, ys => Lib.compareInt xs.length ys.length
theorem compareInt_succ (a b : Nat) : Lib.compareInt ((a + 1 : Nat) : Int) ((b + 1 : Nat) : Int) = Lib.compareInt a b := by
  unfold Lib.compareInt
  by_cases h1 : (a : Int) < b
  · rw [if_pos h1, if_pos (by omega)]
  · rw [if_neg h1, if_neg (by omega)]
    by_cases h2 : (a : Int) > b
    · rw [if_pos h2, if_pos (by omega)]
    · rw [if_neg h2, if_neg (by omega)]
theorem cmpWords_end (f : Str → Str → Int) : ∀ (xs ys : List Str), (∀ j (h1 : j < xs.length) (h2 : j < ys.length), f xs[j] ys[j] = 0) → cmpWordsL f xs ys = Lib.compareInt xs.length ys.length
  | [], ys, _ => by cases ys <;> rfl
  | x :: xs, [], _ => rfl
  | x :: xs, y :: ys, h => by
    have h0 : f x y = 0 := h 0 (by simp) (by simp)
    unfold cmpWordsL
    rw [if_pos h0, cmpWords_end f xs ys (fun j h1 h2 => h (j + 1) (by simpa using h1) (by simpa using h2))]
    simp only [List.length_cons]
    rw [compareInt_succ]
theorem cmpWords_at (f : Str → Str → Int) : ∀ (xs ys : List Str) (k : Nat) (h1 : k < xs.length) (h2 : k < ys.length), (∀ j (hj : j < k), f xs[j] ys[j] = 0) → f xs[k] ys[k] ≠ 0 → cmpWordsL f xs ys = f xs[k] ys[k]
  | x :: xs, y :: ys, 0, _, _, _, h => by unfold cmpWordsL; rw [if_neg (by simpa using h)]; rfl
  | x :: xs, y :: ys, k + 1, h1, h2, h0, h => by
    have hz : f x y = 0 := h0 0 (by omega)
    unfold cmpWordsL
    rw [if_pos hz]
    exact cmpWords_at f xs ys k (by simpa using h1) (by simpa using h2) (fun j hj => h0 (j + 1) (by omega)) (by simpa using h)
/-- compareEarly -/
def cmpEarlyL (a b : Str) : Int :=
  if a = b then 0 else if a = [] then 1 else if b = [] then -1 else cmpWordsL cmpWordL (splitC 46 a) (splitC 46 b)
/-- ver.Order -/
def orderL (a1 a2 a3 : Int) (a : Str) (b1 b2 b3 : Int) (b : Str) : Int := firstI [Lib.compareInt a1 b1, Lib.compareInt a2 b2, Lib.compareInt a3 b3, cmpEarlyL a b]
end Go.Proofs.YtghhjlcbcojcnaaGreatDoor
