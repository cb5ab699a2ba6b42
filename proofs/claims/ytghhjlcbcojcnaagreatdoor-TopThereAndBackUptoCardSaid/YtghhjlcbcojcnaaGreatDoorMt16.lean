/- Plain law: the program's reading of a rule, stage by stage; the index of a word. -/
import Derived.Test.YtghhjlcbcojcnaaGreatDoorMt15

namespace Go.Proofs.YtghhjlcbcojcnaaGreatDoor
open Go.RowKit

def candO (k : Int) (key rest : Str) : Option Ru :=
  if (!(qresR (quotedL rest)).2.2 || !([32] : Str).isPrefixOf (qresR (quotedL rest)).2.1) = true then none
  else if (!(qresR (quotedL ((qresR (quotedL rest)).2.1.drop 1))).2.2 || !(qresR (quotedL ((qresR (quotedL rest)).2.1.drop 1))).2.1.isEmpty) = true then none
  else some ⟨k, key, [], (qresR (quotedL rest)).1, (qresR (quotedL ((qresR (quotedL rest)).2.1.drop 1))).1⟩
def candN (k : Int) (key rest : Str) : Option Ru :=
  if (!(qresR (quotedL rest)).2.2 || !(qresR (quotedL rest)).2.1.isEmpty) = true then none else some ⟨k, key, [], [], (qresR (quotedL rest)).1⟩
def candB (f : Bool) (k : Int) (key rest : Str) (more T O N : Bool) : Option Ru :=
  if (!f || decide (k < 1)) = true then none
  else if (key.isEmpty || (more != (T || O || N))) = true then none
  else if T = true then (if (rest.isEmpty || rest.contains 32) = true then none else some ⟨k, key, rest, [], []⟩)
  else if O = true then candO k key rest
  else if N = true then candN k key rest
  else if rest.isEmpty = true then some ⟨k, key, [], [], []⟩ else none
theorem candN_eq (k : Int) (key rest : Str) : candN k key rest = (match quotedL rest with | some (n, []) => some ⟨k, key, [], [], n⟩ | _ => none) := by
  unfold candN
  cases quotedL rest with
  | none => rfl
  | some x =>
    obtain ⟨n, z⟩ := x
    cases z <;> rfl
theorem candO_eq (k : Int) (key rest : Str) : candO k key rest = (match quotedL rest with
    | some (o, 32 :: r) => (match quotedL r with
      | some (n, []) => some ⟨k, key, [], o, n⟩
      | _ => none)
    | _ => none) := by
  unfold candO
  cases quotedL rest with
  | none => rfl
  | some x =>
    obtain ⟨o, z⟩ := x
    cases z with
    | nil => rfl
    | cons c r =>
      by_cases hc : c = 32
      · subst hc
        simp only [qresR, List.drop_succ_cons, List.drop_zero]
        cases quotedL r with
        | none => rfl
        | some y =>
          obtain ⟨n, z2⟩ := y
          cases z2 <;> rfl
      · have h1 : ([32] : Str).isPrefixOf (c :: r) = false := by
          have : ((32 : UInt8) == c) = false := by rw [beq_eq_false_iff_ne]; exact fun e => hc e.symm
          simp [List.isPrefixOf, this]
        rw [if_pos (by simp only [qresR, h1]; rfl)]
        split
        · rename_i heq
          injection heq with h
          injection h with _ h
          injection h with h _
          exact absurd h hc
        · rfl
theorem cand_stage {s a b : Str} {f : Bool} {key rest : Str} {more : Bool} (h1 : cutC 32 s = (a, b, f)) (h2 : cutC 32 b = (key, rest, more)) :
    candP s = candB f (ruKind a) key rest more (useTo (ruKind a)) (useOld (ruKind a)) (useNew (ruKind a)) := by
  unfold candP candB
  rw [h1]
  dsimp only
  rw [h2]
  dsimp only
  rw [candO_eq, candN_eq]
  rfl
theorem parse_stage {s : Str} (h : ¬ 4000 < s.length) : parseRu s = (match candP s with | none => (zeroR, 8) | some r => if ruErr r ≠ 0 then (zeroR, ruErr r) else (r, 0)) := by
  unfold parseRu
  rw [if_neg h]
  rfl
/-- the reading behind its candidate -/
def endRu : Option Ru → Ru × Int
  | none => (zeroR, 8)
  | some r => if ruErr r ≠ 0 then (zeroR, ruErr r) else (r, 0)
theorem parse_end {s a b : Str} {f : Bool} {key rest : Str} {more : Bool} (h : ¬ 4000 < s.length) (h1 : cutC 32 s = (a, b, f)) (h2 : cutC 32 b = (key, rest, more)) :
    parseRu s = endRu (candB f (ruKind a) key rest more (useTo (ruKind a)) (useOld (ruKind a)) (useNew (ruKind a))) := by
  rw [parse_stage h, cand_stage h1 h2]
  cases candB f (ruKind a) key rest more (useTo (ruKind a)) (useOld (ruKind a)) (useNew (ruKind a)) <;> rfl
theorem kind_class {k : Int} (h1 : 1 ≤ k) (h8 : k ≤ 8) : (useTo k = true ∧ useOld k = false ∧ useNew k = false) ∨ (useTo k = false ∧ useOld k = false ∧ useNew k = true) ∨ (useTo k = false ∧ useOld k = false ∧ useNew k = false) ∨ (useTo k = false ∧ useOld k = true ∧ useNew k = true) := by
  rcases kind_cases h1 h8 with rfl | rfl | rfl | rfl | rfl | rfl | rfl | rfl <;> decide
theorem idx_words (x : ByteArray) : Lib.idxOfS (ruWords.take 9) x = ruKind (bs x) := by
  have e : ∀ (y : ByteArray), (y = x) = (bs x = bs y) := fun y => propext ⟨fun h => by rw [h], fun h => bs_inj h.symm⟩
  show Lib.idxFromS ruWords x 0 = _
  unfold ruWords ruKind
  simp only [Lib.idxFromS, e]
  rfl
theorem index_words (b : Nat) (x : ByteArray) (w : World) (h : Strs w b ruWords) :
    Calls Tryz.prog 84 #[.slice (some ⟨b, 0, none⟩) 9 9, .string x] w fun e w' => e = .returned (.int .i64 (ruKind (bs x))) ∧ w = w' := by
  refine (Tryz.slices_Index_string b 0 9 9 ruWords x w (by decide) (by decide) (fun j hj => ?_)).mono fun e w' ⟨h1, h2⟩ => ⟨by rw [h1, idx_words], h2.symm⟩
  rw [Nat.zero_add, h.cell j hj, List.getD_eq_getElem?_getD, List.getElem?_eq_getElem hj]; rfl
end Go.Proofs.YtghhjlcbcojcnaaGreatDoor
