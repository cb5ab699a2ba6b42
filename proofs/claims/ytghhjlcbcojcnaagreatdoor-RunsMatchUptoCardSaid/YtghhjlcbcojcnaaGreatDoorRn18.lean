/- Contract of migrate.quoted. Plain law: the program's reading of a rule, stage by stage; the index of a word. -/
import Derived.Test.YtghhjlcbcojcnaaGreatDoorRn17
import Derived.Test.YtghhjlcbcojcnaaGreatDoorRn15

namespace Go.Proofs.YtghhjlcbcojcnaaGreatDoor
open Go.RowKit

/-- migrate.quoted -/
def qresR : Option (Str × Str) → Str × Str × Bool
  | none => ([], [], false)
  | some (t, z) => (t, z, true)
set_option maxRecDepth 100000 in
set_option maxHeartbeats 8000000 in
theorem quoted_any (s : ByteArray) (w : World) (hs : s.size ≤ 2097152) :
    Calls Tryz.prog 86 #[.string s] w fun e w' => e = .returned (.tuple #[S (qresR (quotedL (bs s))).1, S (qresR (quotedL (bs s))).2.1, .bool (qresR (quotedL (bs s))).2.2]) ∧ Ext w w' := by
  rcases Nat.eq_zero_or_pos s.size with h0 | h0
  · have he : quotedL (bs s) = none := by rw [bs_nil h0]; rfl
    have hi := emp_bool h0
    rw [he]
    clear he
    go_enter Tryz.func86, Tryz.ntmps86
    go_wp2
    go_ret3
    exact ⟨rfl, Ext.refl _⟩
  have hi := nemp_bool h0
  have hd := drop_cons s 0 h0
  rw [List.drop_zero] at hd
  by_cases hc : s[0] = 34
  rotate_left
  · have he : quotedL (bs s) = none := by
      rw [hd]
      unfold quotedL
      split
      · rename_i e; injection e with e _; exact absurd e hc
      · rfl
    have e1 := byte_ne hc 34 rfl
    rw [he]
    clear he hd hc
    go_enter Tryz.func86, Tryz.ntmps86
    go_wp2
    go_ret3
    exact ⟨rfl, Ext.refl _⟩
  have e0 : ((s[0].toNat : Int) != 34) = false := by rw [hc]; rfl
  obtain ⟨R, hR⟩ : ∃ R, unq ((bs s).drop 1) = R := ⟨_, rfl⟩
  have hq : quotedL (bs s) = R := by rw [hd, hc, ← hR]; rfl
  have hst := invQ_start (bs s) 1
  rw [hR] at hst
  rw [hq]
  have HST := Lib.hid hst
  clear hst hq hR hd hc
  go_enter Tryz.func86, Tryz.ntmps86
  go_wp2
  go_loopw [5, 6] (fun v k' wr => ∃ (k : Nat) (done : Str), k' = .int .i64 k ∧ wr.ownsRow w.heap.size 5 1 v done.length (u8s done) ∧ k ≤ s.size ∧ done.length ≤ k ∧ InvQ (bs s) R k done ∧ Ext w wr) (fun _ k _ => s.size - (intOf k).toNat)
  case atStart => exact ⟨1, [], rfl, World.ownsRow_nil _ _ _ _, by omega, Nat.zero_le _, HST.out, Ext.refl _⟩
  case round =>
    obtain ⟨k, done, rfl, hown, hk1, hk3, hinv, hxr⟩ := hrel
    have HINV := Lib.hid hinv
    clear hinv
    by_cases hlt : k < s.size
    · by_cases h34 : s[k] = 34
      · have e1 : ((s[k].toNat : Int) == 34) = true := by rw [h34]; rfl
        have hres := invQ_end HINV.out hlt h34
        subst hres
        have hcv := conv_own hown wr.drew ((Ext.refl wr).drew)
        have hkk : (k : Int) + 1 ≤ s.size := by omega
        have hkw : IntKind.i64.wrap ((k : Int) + 1) = (k : Int) + 1 := by rw [IntKind.wrap_i64]; omega
        clear h34 hown
        go_wp2
        go_outline
        go_region
        all_goals
          go_wp2
          go_ret3
          have hd2 : Value.string (s.extract (k + 1) s.size) = S ((bs s).drop (k + 1)) := str_S (Lib.extract_to_end s (k + 1))
          refine ⟨?_, hxr.drew⟩
          show Ending.returned (.tuple #[S done, .string (s.extract (k + 1) s.size), .bool true]) = _
          rw [hd2]
          rfl
      have e1 := byte_no h34 34 rfl
      by_cases h92 : s[k] = 92
      · have e2 : ((s[k].toNat : Int) == 92) = true := by rw [h92]; rfl
        by_cases hend : k + 1 = s.size
        · have hres := invQ_last HINV.out hend h92
          subst hres
          have hE : ((k : Int) + 1 == (s.size : Int)) = true := by rw [beq_iff_eq]; omega
          clear h34 h92
          go_wp2
          go_ret3
          exact ⟨rfl, hxr⟩
        have hlt2 : k + 1 < s.size := by omega
        have hE : ((k : Int) + 1 == (s.size : Int)) = false := by rw [beq_eq_false_iff_ne]; omega
        by_cases hok : s[k + 1] = 34 ∨ s[k + 1] = 92
        · have hinv2 := invQ_two HINV.out hlt2 h92 hok
          have HI2 := Lib.hid hinv2
          clear hinv2 h34 h92
          rcases hok with hd | hd
          · have e3 : ((s[k + 1].toNat : Int) != 34) = false := by rw [hd]; rfl
            clear hd
            have HX := Lib.hid hxr
            have hsz := hxr.size
            go_wp2_with (at_builtin; refine wpList_app1 _ _ _ rfl _ _ 214 rfl (.int .u8 0) 1 1 Tryz.underlying214 info_u8 rfl (by decide) (by decide) w.heap.size _ done.length _ rfl hown _ rfl rfl (by simp [Value.oneCell']) (by omega) hsz ?_; intro v' w3 hown3 hx3 _)
            go_roundw
            case rel => exact ⟨k + 1 + 1, done ++ [s[k + 1]], by go_num, by rw [u8s_append, List.length_append]; exact hown3, by omega, by rw [List.length_append]; simp; omega, HI2.out, hx3 _ HX.out (Nat.le_refl _)⟩
            case measure => simp [intOf]; omega
          · have e3 : ((s[k + 1].toNat : Int) != 34) = true := by rw [hd]; rfl
            have e4 : ((s[k + 1].toNat : Int) != 92) = false := by rw [hd]; rfl
            clear hd
            have HX := Lib.hid hxr
            have hsz := hxr.size
            go_wp2_with (at_builtin; refine wpList_app1 _ _ _ rfl _ _ 214 rfl (.int .u8 0) 1 1 Tryz.underlying214 info_u8 rfl (by decide) (by decide) w.heap.size _ done.length _ rfl hown _ rfl rfl (by simp [Value.oneCell']) (by omega) hsz ?_; intro v' w3 hown3 hx3 _)
            go_roundw
            case rel => exact ⟨k + 1 + 1, done ++ [s[k + 1]], by go_num, by rw [u8s_append, List.length_append]; exact hown3, by omega, by rw [List.length_append]; simp; omega, HI2.out, hx3 _ HX.out (Nat.le_refl _)⟩
            case measure => simp [intOf]; omega
        · have hres := invQ_bad HINV.out hlt2 h92 (fun e => hok (.inl e)) (fun e => hok (.inr e))
          have e3 := byte_ne (fun e => hok (.inl e)) 34 rfl
          have e4 := byte_ne (fun e => hok (.inr e)) 92 rfl
          subst hres
          clear h34 h92 hok
          go_wp2
          go_ret3
          exact ⟨rfl, hxr⟩
      · have e2 := byte_no h92 92 rfl
        have hinv2 := invQ_one HINV.out hlt h34 h92
        have HI2 := Lib.hid hinv2
        clear hinv2 h34 h92
        have HX := Lib.hid hxr
        have hsz := hxr.size
        go_wp2_with (at_builtin; refine wpList_app1 _ _ _ rfl _ _ 214 rfl (.int .u8 0) 1 1 Tryz.underlying214 info_u8 rfl (by decide) (by decide) w.heap.size _ done.length _ rfl hown _ rfl rfl (by simp [Value.oneCell']) (by omega) hsz ?_; intro v' w3 hown3 hx3 _)
        go_roundw
        case rel => exact ⟨k + 1, done ++ [s[k]], by go_num, by rw [u8s_append, List.length_append]; exact hown3, by omega, by rw [List.length_append]; simp; omega, HI2.out, hx3 _ HX.out (Nat.le_refl _)⟩
        case measure => simp [intOf]; omega
    · have hres := invQ_out HINV.out (by omega)
      subst hres
      go_wp2
      go_ret3
      exact ⟨rfl, hxr⟩
end Go.Proofs.YtghhjlcbcojcnaaGreatDoor

namespace Go.Proofs.YtghhjlcbcojcnaaGreatDoor
open Go.RowKit

def candO (k : Int) (key rest : Str) : Option Ru :=
  if (!(qresR (quotedL rest)).2.2 || !([32] : Str).isPrefixOf (qresR (quotedL rest)).2.1) = true then none
  else if (!(qresR (quotedL ((qresR (quotedL rest)).2.1.drop 1))).2.2 || !(qresR (quotedL ((qresR (quotedL rest)).2.1.drop 1))).2.1.isEmpty) = true then none
  else some ⟨k, key, [], (qresR (quotedL rest)).1, (qresR (quotedL ((qresR (quotedL rest)).2.1.drop 1))).1⟩
def candN (k : Int) (key rest : Str) : Option Ru :=
  if (!(qresR (quotedL rest)).2.2 || !(qresR (quotedL rest)).2.1.isEmpty) = true then none else some ⟨k, key, [], [], (qresR (quotedL rest)).1⟩
def candB (f : Bool) (k : Int) (key rest : Str) (more T O N : Bool) : Option Ru :=
  if (!f || decide (k < 1)) = true then none
  else if (key.isEmpty || (more != (T || O || N))) = true then none
  else if T = true then (if (rest.isEmpty || rest.contains 32) = true then none else some ⟨k, key, rest, [], []⟩)
  else if O = true then candO k key rest
  else if N = true then candN k key rest
  else if rest.isEmpty = true then some ⟨k, key, [], [], []⟩ else none
theorem candN_eq (k : Int) (key rest : Str) : candN k key rest = (match quotedL rest with | some (n, []) => some ⟨k, key, [], [], n⟩ | _ => none) := by
  unfold candN
  cases quotedL rest with
  | none => rfl
  | some x =>
    obtain ⟨n, z⟩ := x
    cases z <;> rfl
theorem candO_eq (k : Int) (key rest : Str) : candO k key rest = (match quotedL rest with
    | some (o, 32 :: r) => (match quotedL r with
      | some (n, []) => some ⟨k, key, [], o, n⟩
      | _ => none)
    | _ => none) := by
  unfold candO
  cases quotedL rest with
  | none => rfl
  | some x =>
    obtain ⟨o, z⟩ := x
    cases z with
    | nil => rfl
    | cons c r =>
      by_cases hc : c = 32
      · subst hc
        simp only [qresR, List.drop_succ_cons, List.drop_zero]
        cases quotedL r with
        | none => rfl
        | some y =>
          obtain ⟨n, z2⟩ := y
          cases z2 <;> rfl
      · have h1 : ([32] : Str).isPrefixOf (c :: r) = false := by
          have : ((32 : UInt8) == c) = false := by rw [beq_eq_false_iff_ne]; exact fun e => hc e.symm
          simp [List.isPrefixOf, this]
        rw [if_pos (by simp only [qresR, h1]; rfl)]
        split
        · rename_i heq
          injection heq with h
          injection h with _ h
          injection h with h _
          exact absurd h hc
        · rfl
theorem cand_stage {s a b : Str} {f : Bool} {key rest : Str} {more : Bool} (h1 : cutC 32 s = (a, b, f)) (h2 : cutC 32 b = (key, rest, more)) :
    candP s = candB f (ruKind a) key rest more (useTo (ruKind a)) (useOld (ruKind a)) (useNew (ruKind a)) := by
  unfold candP candB
  rw [h1]
  dsimp only
  rw [h2]
  dsimp only
  rw [candO_eq, candN_eq]
  rfl
theorem parse_stage {s : Str} (h : ¬ 4000 < s.length) : parseRu s = (match candP s with | none => (zeroR, 8) | some r => if ruErr r ≠ 0 then (zeroR, ruErr r) else (r, 0)) := by
  unfold parseRu
  rw [if_neg h]
  rfl
/-- the reading behind its candidate -/
def endRu : Option Ru → Ru × Int
  | none => (zeroR, 8)
  | some r => if ruErr r ≠ 0 then (zeroR, ruErr r) else (r, 0)
theorem parse_end {s a b : Str} {f : Bool} {key rest : Str} {more : Bool} (h : ¬ 4000 < s.length) (h1 : cutC 32 s = (a, b, f)) (h2 : cutC 32 b = (key, rest, more)) :
    parseRu s = endRu (candB f (ruKind a) key rest more (useTo (ruKind a)) (useOld (ruKind a)) (useNew (ruKind a))) := by
  rw [parse_stage h, cand_stage h1 h2]
  cases candB f (ruKind a) key rest more (useTo (ruKind a)) (useOld (ruKind a)) (useNew (ruKind a)) <;> rfl
theorem kind_class {k : Int} (h1 : 1 ≤ k) (h8 : k ≤ 8) : (useTo k = true ∧ useOld k = false ∧ useNew k = false) ∨ (useTo k = false ∧ useOld k = false ∧ useNew k = true) ∨ (useTo k = false ∧ useOld k = false ∧ useNew k = false) ∨ (useTo k = false ∧ useOld k = true ∧ useNew k = true) := by
  rcases kind_cases h1 h8 with rfl | rfl | rfl | rfl | rfl | rfl | rfl | rfl <;> decide
theorem idx_words (x : ByteArray) : Lib.idxOfS (ruWords.take 9) x = ruKind (bs x) := by
  have e : ∀ (y : ByteArray), (y = x) = (bs x = bs y) := fun y => propext ⟨fun h => by rw [h], fun h => bs_inj h.symm⟩
  show Lib.idxFromS ruWords x 0 = _
  unfold ruWords ruKind
  simp only [Lib.idxFromS, e]
  rfl
theorem index_words (b : Nat) (x : ByteArray) (w : World) (h : Strs w b ruWords) :
    Calls Tryz.prog 84 #[.slice (some ⟨b, 0, none⟩) 9 9, .string x] w fun e w' => e = .returned (.int .i64 (ruKind (bs x))) ∧ w = w' := by
  refine (Tryz.slices_Index_string b 0 9 9 ruWords x w (by decide) (by decide) (fun j hj => ?_)).mono fun e w' ⟨h1, h2⟩ => ⟨by rw [h1, idx_words], h2.symm⟩
  rw [Nat.zero_add, h.cell j hj, List.getD_eq_getElem?_getD, List.getElem?_eq_getElem hj]; rfl
end Go.Proofs.YtghhjlcbcojcnaaGreatDoor
