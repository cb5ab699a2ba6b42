/- Plain law: ver.Parse reads what ver.Print writes. -/
import Derived.Test.YtncagihilplliaaGreatDoorVerJ
namespace Go.Proofs.YtncagihilplliaaGreatDoor

theorem itoa_dec {n : Int} (h : 0 ≤ n) : Lib.itoa n = Lib.decDigits n.toNat := by unfold Lib.itoa; rw [if_neg (by omega)]
theorem digit_ne {l : Str} (h : l.all digitB = true) (c : UInt8) (hc : digitB c = false) : c ∉ l := fun hm => by
  have := List.all_eq_true.1 h c hm
  rw [hc] at this; cases this
theorem num_itoa {n : Int} (h0 : 0 ≤ n) (h1 : n ≤ 999999) : numOk (Lib.itoa n) = true ∧ numV (Lib.itoa n) = n ∧ (45 : UInt8) ∉ Lib.itoa n ∧ (46 : UInt8) ∉ Lib.itoa n := by
  rw [itoa_dec h0]
  obtain ⟨d1, d2⟩ := decDigits_all n.toNat
  obtain ⟨d3, d4⟩ := decDigits_len n.toNat 5 (by omega)
  have hok : numOk (Lib.decDigits n.toNat) = true := by
    unfold numOk eachL
    rw [d1, decide_eq_true d3, decide_eq_true (by omega : (Lib.decDigits n.toNat).length ≤ 9)]
    by_cases hh : (Lib.decDigits n.toNat).headD 0 = 48
    · have hz := decDigits_head _ hh
      rw [hz, show Lib.decDigits 0 = [48] by rw [Lib.decDigits, dif_pos (by decide)]; rfl]
      rfl
    · have : ((Lib.decDigits n.toNat).headD 0 == 48) = false := by rw [beq_eq_false_iff_ne]; exact hh
      rw [this]; rfl
  refine ⟨hok, ?_, digit_ne d1 45 (by decide), digit_ne d1 46 (by decide)⟩
  rw [numV, if_pos hok, d2]
  omega
theorem parse_text {ma mi pa : Int} {e : Str} (h : checkV ma mi pa e = 0) : parseV (textL ma mi pa e) = ((ma, mi, pa, e), 0) := by
  obtain ⟨⟨a1, a2⟩, ⟨b1, b2⟩, ⟨c1, c2⟩, _⟩ := checkV_ok h
  obtain ⟨x1, x2, x3, x4⟩ := num_itoa a1 a2
  obtain ⟨y1, y2, y3, y4⟩ := num_itoa b1 b2
  obtain ⟨z1, z2, z3, z4⟩ := num_itoa c1 c2
  have hn : (45 : UInt8) ∉ Lib.itoa ma ++ [46] ++ Lib.itoa mi ++ [46] ++ Lib.itoa pa := by simp [x3, y3, z3]
  have hsp : splitC 46 (Lib.itoa ma ++ [46] ++ Lib.itoa mi ++ [46] ++ Lib.itoa pa) = [Lib.itoa ma, Lib.itoa mi, Lib.itoa pa] := by
    rw [show Lib.itoa ma ++ [46] ++ Lib.itoa mi ++ [46] ++ Lib.itoa pa = Lib.itoa ma ++ 46 :: (Lib.itoa mi ++ 46 :: Lib.itoa pa) by simp, splitC_app _ _ _ x4, splitC_app _ _ _ y4, splitC_none _ _ z4]
  have hcut : cutC 45 (textL ma mi pa e) = (Lib.itoa ma ++ [46] ++ Lib.itoa mi ++ [46] ++ Lib.itoa pa, e, !e.isEmpty) := by
    unfold textL
    cases e with
    | nil => rw [if_pos rfl, List.append_nil, cutC_none _ _ hn]; rfl
    | cons c r => rw [if_neg (by simp), cutC_app _ _ _ hn]; rfl
  have h1 : splitC 46 (cutC 45 (textL ma mi pa e)).1 = [Lib.itoa ma, Lib.itoa mi, Lib.itoa pa] := by rw [hcut]; exact hsp
  have h2 : ((cutC 45 (textL ma mi pa e)).2.2 && (cutC 45 (textL ma mi pa e)).2.1.isEmpty) = false := by rw [hcut]; cases e <;> rfl
  rw [parse_ok h1 h2 x1 y1 z1, x2, y2, z2, hcut, if_pos h]
end Go.Proofs.YtncagihilplliaaGreatDoor
