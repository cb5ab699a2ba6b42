/- Plain law: ver.Parse reads what ver.Print writes. Contract of outlaw2.versions. What the proofs of all rows of this seat share: the package variables out of the row's list, arguments that stay as they were, the row's last step behind a world that has only grown. -/
import Derived.Test.YtcmceeihdhcmnaaGreatDoorRm09
import Derived.Test.YtcmceeihdhcmnaaGreatDoorRm04
import Derived.Test.YtcmceeihdhcmnaaGreatDoorCards
import Derived.Test.YtcmceeihdhcmnaaGreatDoorTie
import Derived.Test.YtcmceeihdhcmnaaGreatDoorRm03
import Derived.ProofKit
import Derived.OpenShut
import Derived.Deep.DeepHandedRow
import Derived.Deep.DeepWitnessRowRef
import Derived.Lib.LaidTab
import Derived.Lib.LaidIn
import Derived.Lib.SmallJoins
import Derived.Stop.LaidErr
import Derived.LaidSub
import Derived.SizedLaws

namespace Go.Proofs.YtcmceeihdhcmnaaGreatDoor

theorem itoa_dec {n : Int} (h : 0 ≤ n) : Lib.itoa n = Lib.decDigits n.toNat := by unfold Lib.itoa; rw [if_neg (by omega)]
theorem digit_ne {l : Str} (h : l.all digitB = true) (c : UInt8) (hc : digitB c = false) : c ∉ l := fun hm => by
  have := List.all_eq_true.1 h c hm
  rw [hc] at this; cases this
theorem num_itoa {n : Int} (h0 : 0 ≤ n) (h1 : n ≤ 999999) : numOk (Lib.itoa n) = true ∧ numV (Lib.itoa n) = n ∧ (45 : UInt8) ∉ Lib.itoa n ∧ (46 : UInt8) ∉ Lib.itoa n := by
  rw [itoa_dec h0]
  obtain ⟨d1, d2⟩ := decDigits_all n.toNat
  obtain ⟨d3, d4⟩ := decDigits_len n.toNat 5 (by omega)
  have hok : numOk (Lib.decDigits n.toNat) = true := by
    unfold numOk eachL
    rw [d1, decide_eq_true d3, decide_eq_true (by omega : (Lib.decDigits n.toNat).length ≤ 9)]
    by_cases hh : (Lib.decDigits n.toNat).headD 0 = 48
    · have hz := decDigits_head _ hh
      rw [hz, show Lib.decDigits 0 = [48] by rw [Lib.decDigits, dif_pos (by decide)]; rfl]
      rfl
    · have : ((Lib.decDigits n.toNat).headD 0 == 48) = false := by rw [beq_eq_false_iff_ne]; exact hh
      rw [this]; rfl
  refine ⟨hok, ?_, digit_ne d1 45 (by decide), digit_ne d1 46 (by decide)⟩
  rw [numV, if_pos hok, d2]
  omega
theorem parse_text {ma mi pa : Int} {e : Str} (h : checkV ma mi pa e = 0) : parseV (textL ma mi pa e) = ((ma, mi, pa, e), 0) := by
  obtain ⟨⟨a1, a2⟩, ⟨b1, b2⟩, ⟨c1, c2⟩, _⟩ := checkV_ok h
  obtain ⟨x1, x2, x3, x4⟩ := num_itoa a1 a2
  obtain ⟨y1, y2, y3, y4⟩ := num_itoa b1 b2
  obtain ⟨z1, z2, z3, z4⟩ := num_itoa c1 c2
  have hn : (45 : UInt8) ∉ Lib.itoa ma ++ [46] ++ Lib.itoa mi ++ [46] ++ Lib.itoa pa := by simp [x3, y3, z3]
  have hsp : splitC 46 (Lib.itoa ma ++ [46] ++ Lib.itoa mi ++ [46] ++ Lib.itoa pa) = [Lib.itoa ma, Lib.itoa mi, Lib.itoa pa] := by
    rw [show Lib.itoa ma ++ [46] ++ Lib.itoa mi ++ [46] ++ Lib.itoa pa = Lib.itoa ma ++ 46 :: (Lib.itoa mi ++ 46 :: Lib.itoa pa) by simp, splitC_app _ _ _ x4, splitC_app _ _ _ y4, splitC_none _ _ z4]
  have hcut : cutC 45 (textL ma mi pa e) = (Lib.itoa ma ++ [46] ++ Lib.itoa mi ++ [46] ++ Lib.itoa pa, e, !e.isEmpty) := by
    unfold textL
    cases e with
    | nil => rw [if_pos rfl, List.append_nil, cutC_none _ _ hn]; rfl
    | cons c r => rw [if_neg (by simp), cutC_app _ _ _ hn]; rfl
  have h1 : splitC 46 (cutC 45 (textL ma mi pa e)).1 = [Lib.itoa ma, Lib.itoa mi, Lib.itoa pa] := by rw [hcut]; exact hsp
  have h2 : ((cutC 45 (textL ma mi pa e)).2.2 && (cutC 45 (textL ma mi pa e)).2.1.isEmpty) = false := by rw [hcut]; cases e <;> rfl
  rw [parse_ok h1 h2 x1 y1 z1, x2, y2, z2, hcut, if_pos h]
end Go.Proofs.YtcmceeihdhcmnaaGreatDoor

namespace Go.Proofs.YtcmceeihdhcmnaaGreatDoor
open Go.RowKit

theorem one_check : checkV 1 0 0 [] = 0 := by decide
theorem one_text : printV 1 0 0 [] = [49, 46, 48, 46, 48] := by
  rw [printV, if_pos one_check, textL]
  have h1 : Lib.itoa 1 = [49] := by rw [itoa_dec (by decide), show (1 : Int).toNat = 1 from rfl, Lib.decDigits, dif_pos (by decide)]; rfl
  have h0 : Lib.itoa 0 = [48] := by rw [itoa_dec (by decide), show (0 : Int).toNat = 0 from rfl, Lib.decDigits, dif_pos (by decide)]; rfl
  rw [h1, h0]
  rfl
set_option maxHeartbeats 400000 in
theorem versions_any (w : World) (hg : GoodN w) : Calls Tryz.prog 24 #[] w fun e w' => e = .returned (.bool true) ∧ Ext w w' := by
  go_enter Tryz.func24, Tryz.ntmps24
  go_wp2_with fail
  refine (Print_any 1 0 0 ⟨#[]⟩ _ hg (by decide)).mono ?_
  rw [show bs ⟨#[]⟩ = ([] : Str) from rfl, one_text, one_check]
  rintro e w1 ⟨rfl, hx1⟩
  go_wp2
  go_ret
  exact ⟨rfl, hx1⟩
end Go.Proofs.YtcmceeihdhcmnaaGreatDoor

namespace Go.Proofs.YtcmceeihdhcmnaaGreatDoor
open Go.ChangeShapes Go.WideShapes Go.ChangeAt Go.RowKit Go.WideElems

theorem own : ownKnob Tryz.prog.godebug = none := by kernel_rfl
theorem laidOut : laidOutB Tryz.prog = true := by kernel_rfl
theorem stays {H : Type} {enc : TypeId × Value → H} {W W' : World} {sp : Nat → Bool} : ∀ (ts : List TypeId) (vs : List Value) (ds : List (DataW H)) (ps : List MemPlace),
    (∀ t ∈ ts, Tryz.prog.readableRec t = true ∧ t < Tryz.prog.types.size) → DataW.TrodAll enc Tryz.prog W 0 (fun _ => true) true ts vs ds ps → (∀ p ∈ ps, W.sameAt W' p) → (∀ p ∈ ps, sp p.block = true) →
    DataW.TrodAll enc Tryz.prog W' 0 sp true ts vs ds ps
  | [], vs, ds, ps, _, h, _, _ => by
    obtain ⟨rfl, rfl, rfl⟩ := trodAll_nil h
    exact trodAll_mk0
  | t :: ts, vs, ds, ps, hr, h, hs, hp => by
    obtain ⟨v0, vs0, d0, ds0, p0, q0, rfl, rfl, rfl, h0, r0⟩ := trodAll_cons h
    exact trodAll_cons_mk (Trod_stays laidOut (hr t (by simp)).1 (hr t (by simp)).2 h0 (fun p hm => hs p (List.mem_append_left _ hm)) (fun p hm => hp p (List.mem_append_left _ hm)))
      (stays ts vs0 ds0 q0 (fun t ht => hr t (by simp [ht])) r0 (fun p hm => hs p (List.mem_append_right _ hm)) (fun p hm => hp p (List.mem_append_right _ hm)))

set_option maxRecDepth 100000 in
/-- The row's last step, where nothing that was there has turned, and the call answers true. -/
theorem post_true {H : Type} {enc : TypeId × Value → H} {f : Func} {s : ChangeSpec} {apart fresh handsOn again : Bool} {W W' : World} {args : Array Value} {ds gs : List (DataW H)} {before : List MemPlace}
    (hW : DataW.Whole enc Tryz.prog f.params.toList s.vars apart W args.toList ds gs before) (hvars : s.vars = []) (hrt : f.resultTypes = #[4])
    (hr : ∀ t ∈ f.params.toList, Tryz.prog.readableRec t = true ∧ t < Tryz.prog.types.size)
    (hres : (s.fn H (ds ++ gs)).results = [.lit (.bool true)]) (hargs : (s.fn H (ds ++ gs)).args = ds) (hv : (s.fn H (ds ++ gs)).vars = []) (hb : Ext W W') :
    s.post enc Tryz.prog f apart fresh handsOn again W args (.bool true) W' := by
  have hlt : ∀ p ∈ before, p.block < W.heap.size := fun p hp => hW.lt p hp
  have hW' := hW
  obtain ⟨p, q, hA, hV, rfl, hz, hn⟩ := hW'
  rw [hvars] at hV
  obtain ⟨rfl, rfl⟩ := trodVars_none hV
  have hsame : ∀ x ∈ p, W.sameAt W' x := fun x hx => Below.same hb (hlt x (by simp [hx]))
  have hT : ∀ sp : Nat → Bool, (∀ x ∈ p ++ [], sp x.block = true) → DataW.TrodAll enc Tryz.prog W' 0 sp true f.params.toList args.toList (s.fn H (ds ++ [])).args p := fun sp hs => by
    rw [hargs]
    exact stays _ _ _ _ hr hA hsame (fun x hx => hs x (by simp [hx]))
  have hR : ∀ (b : Nat) (sp : Nat → Bool) (hd : Bool), DataW.TrodAll enc Tryz.prog W' b sp hd f.resultTypes.toList ((Value.bool true).resultList f.resultTypes.size) (s.fn H (ds ++ [])).results [] := fun b sp hd => by
    rw [hres, hrt]
    exact trodAll_mk1 (shut_bool Tryz.underlying4 true)
  have hVV : ∀ sp : Nat → Bool, DataW.TrodVars enc Tryz.prog W' sp s.vars (s.fn H (ds ++ [])).vars [] := fun sp => by
    rw [hvars, hv]
    exact rfl
  refine ⟨ds, [], p ++ [], [], p, [], hW, hR _ _ _, hT _ (fun x hx => by simpa using hlt x hx), hVV _, World.keptBut_mono (fun x hx => ⟨hx, .inr (by simpa using hx)⟩) (Below.frame hb (· ∈ p ++ [])), fun _ => ?_⟩
  refine ⟨?_, _, _, ([] ++ p) ++ [], ⟨[] ++ p, [], trodAll_append (hT _ (fun _ _ => rfl)) (hR _ _ _), hVV _, rfl, ?_, ?_⟩, ?_⟩
  · intro j t r h1 h2
    rw [hrt] at h1 h2
    match j with
    | 0 =>
      obtain rfl : 4 = t := by simpa using h1
      obtain rfl : Value.bool true = r := by simpa [Value.resultList] using h2
      exact okWide_bool_mk Tryz.underlying4 true
    | j + 1 => simp at h1
  · intro b off hp
    have hin : MemPlace.cell b off ∈ p ++ [] := by simpa using hp
    rw [Below.frozen hb (hlt _ hin)]
    exact hz b off hin
  · intro ha
    simpa using hn ha
  · intro x hx _
    simpa using hx
end Go.Proofs.YtcmceeihdhcmnaaGreatDoor
