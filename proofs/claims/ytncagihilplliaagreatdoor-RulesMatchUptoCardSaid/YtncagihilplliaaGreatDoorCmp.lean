/- Plain laws: the order of words of early versions, and of versions. -/
import Derived.Test.YtncagihilplliaaGreatDoorNum
import Derived.Test.YtncagihilplliaaGreatDoorVerB
import Derived.Lib.Bytealg
namespace Go.Proofs.YtncagihilplliaaGreatDoor

/-- compareWords -/
def cmpWordL (a b : Str) : Int :=
  if (numeralL a && numeralL b) = true then (if a.length = b.length then Lib.compareBytes a b else Lib.compareInt a.length b.length)
  else if numeralL a = true then -1 else if numeralL b = true then 1 else Lib.compareBytes a b
/-- word by word, then by how many -/
def cmpWordsL (f : Str → Str → Int) : List Str → List Str → Int
  | x :: xs, y :: ys => if f x y = 0 then cmpWordsL f xs ys else f x y
  | xs, ys => Lib.compareInt xs.length ys.length
theorem compareInt_succ (a b : Nat) : Lib.compareInt ((a + 1 : Nat) : Int) ((b + 1 : Nat) : Int) = Lib.compareInt a b := by
  unfold Lib.compareInt
  by_cases h1 : (a : Int) < b
  · rw [if_pos h1, if_pos (by omega)]
  · rw [if_neg h1, if_neg (by omega)]
    by_cases h2 : (a : Int) > b
    · rw [if_pos h2, if_pos (by omega)]
    · rw [if_neg h2, if_neg (by omega)]
theorem cmpWords_end (f : Str → Str → Int) : ∀ (xs ys : List Str), (∀ j (h1 : j < xs.length) (h2 : j < ys.length), f xs[j] ys[j] = 0) → cmpWordsL f xs ys = Lib.compareInt xs.length ys.length
  | [], ys, _ => by cases ys <;> rfl
  | x :: xs, [], _ => rfl
  | x :: xs, y :: ys, h => by
    have h0 : f x y = 0 := h 0 (by simp) (by simp)
    unfold cmpWordsL
    rw [if_pos h0, cmpWords_end f xs ys (fun j h1 h2 => h (j + 1) (by simpa using h1) (by simpa using h2))]
    simp only [List.length_cons]
    rw [compareInt_succ]
theorem cmpWords_at (f : Str → Str → Int) : ∀ (xs ys : List Str) (k : Nat) (h1 : k < xs.length) (h2 : k < ys.length), (∀ j (hj : j < k), f xs[j] ys[j] = 0) → f xs[k] ys[k] ≠ 0 → cmpWordsL f xs ys = f xs[k] ys[k]
  | x :: xs, y :: ys, 0, _, _, _, h => by unfold cmpWordsL; rw [if_neg (by simpa using h)]; rfl
  | x :: xs, y :: ys, k + 1, h1, h2, h0, h => by
    have hz : f x y = 0 := h0 0 (by omega)
    unfold cmpWordsL
    rw [if_pos hz]
    exact cmpWords_at f xs ys k (by simpa using h1) (by simpa using h2) (fun j hj => h0 (j + 1) (by omega)) (by simpa using h)
/-- compareEarly -/
def cmpEarlyL (a b : Str) : Int :=
  if a = b then 0 else if a = [] then 1 else if b = [] then -1 else cmpWordsL cmpWordL (splitC 46 a) (splitC 46 b)
/-- ver.Order -/
def orderL (a1 a2 a3 : Int) (a : Str) (b1 b2 b3 : Int) (b : Str) : Int := firstI [Lib.compareInt a1 b1, Lib.compareInt a2 b2, Lib.compareInt a3 b3, cmpEarlyL a b]
end Go.Proofs.YtncagihilplliaaGreatDoor
