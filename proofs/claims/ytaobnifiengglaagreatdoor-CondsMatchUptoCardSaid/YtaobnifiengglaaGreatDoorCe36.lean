/- Plain law: strictly ordered lists with the same members are one list; what a condition uses. Plain law: whether a condition holds. A condition among the arguments. Plain law: how long a condition's text is; joined texts. -/
import Derived.Test.YtaobnifiengglaaGreatDoorCe28
import Derived.Test.YtaobnifiengglaaGreatDoorCe33
import Derived.Test.YtaobnifiengglaaGreatDoorCe19
import Derived.Test.YtaobnifiengglaaGreatDoorCe30
import Derived.Test.YtaobnifiengglaaGreatDoorCe35
import Derived.Test.YtaobnifiengglaaGreatDoorCe14

namespace Go.Proofs.YtaobnifiengglaaGreatDoor

theorem strict_ext {α : Type} {lt : α → α → Prop} (irr : ∀ a, ¬ lt a a) (tr : ∀ a b c, lt a b → lt b c → lt a c) : ∀ {a b : List α}, a.Pairwise lt → b.Pairwise lt → (∀ x, x ∈ a ↔ x ∈ b) → a = b
  | [], [], _, _, _ => rfl
  | [], y :: b, _, _, h => absurd ((h y).2 (by simp)) (by simp)
  | x :: a, [], _, _, h => absurd ((h x).1 (by simp)) (by simp)
  | x :: a, y :: b, ha, hb, h => by
    obtain ⟨ha1, ha2⟩ := List.pairwise_cons.1 ha
    obtain ⟨hb1, hb2⟩ := List.pairwise_cons.1 hb
    have hxy : x = y := by
      rcases List.mem_cons.1 ((h x).1 (by simp)) with e | hx
      · exact e
      · rcases List.mem_cons.1 ((h y).2 (by simp)) with e | hy
        · exact e.symm
        · exact absurd (tr _ _ _ (ha1 y hy) (hb1 x hx)) (irr x)
    subst hxy
    rw [strict_ext irr tr ha2 hb2 fun z => ⟨fun hz => ?_, fun hz => ?_⟩]
    · rcases List.mem_cons.1 ((h z).1 (by simp [hz])) with rfl | h2
      · exact absurd (ha1 _ hz) (irr _)
      · exact h2
    · rcases List.mem_cons.1 ((h z).2 (by simp [hz])) with rfl | h2
      · exact absurd (hb1 _ hz) (irr _)
      · exact h2
/-- an ordered list without its doubles -/
def oneEach {α : Type} [DecidableEq α] : List α → List α
  | [] => []
  | [a] => [a]
  | a :: b :: l => if a = b then oneEach (b :: l) else a :: oneEach (b :: l)
theorem oneEach_mem {α : Type} [DecidableEq α] : ∀ (l : List α) (x : α), x ∈ oneEach l ↔ x ∈ l
  | [], _ => Iff.rfl
  | [a], _ => Iff.rfl
  | a :: b :: l, x => by
    rw [oneEach]
    by_cases h : a = b
    · rw [if_pos h, oneEach_mem (b :: l) x]
      subst h
      simp
    · rw [if_neg h, List.mem_cons, oneEach_mem (b :: l) x, List.mem_cons (a := x) (b := a)]
theorem oneEach_strict {α : Type} [DecidableEq α] {le lt : α → α → Prop} (hlt : ∀ a b, le a b → a ≠ b → lt a b) (htr : ∀ a b c, lt a b → le b c → lt a c) : ∀ (l : List α), l.Pairwise le → (oneEach l).Pairwise lt
  | [], _ => List.Pairwise.nil
  | [a], _ => List.pairwise_singleton _ _
  | a :: b :: l, h => by
    obtain ⟨h1, h2⟩ := List.pairwise_cons.1 h
    have ih := oneEach_strict hlt htr (b :: l) h2
    rw [oneEach]
    by_cases e : a = b
    · rw [if_pos e]; exact ih
    · rw [if_neg e]
      refine List.pairwise_cons.2 ⟨fun x hx => ?_, ih⟩
      have hab := hlt a b (h1 b (by simp)) e
      rcases List.mem_cons.1 ((oneEach_mem (b :: l) x).1 hx) with rfl | hx
      · exact hab
      · exact htr a b x hab ((List.pairwise_cons.1 h2).1 x hx)

/-! ### What a condition uses -/
abbrev wFactS : Str := [102, 97, 99, 116, 32]
abbrev wSettingS : Str := [115, 101, 116, 116, 105, 110, 103, 32]
def useOf (c : Cd) : List Str := if c.kind = 2 ∨ c.kind = 5 then [wFactS ++ bs c.name] else if c.kind = 3 ∨ c.kind = 4 then [wSettingS ++ bs c.name] else []
/-- all of them, in the order of the parts -/
def useAll (c : Cd) : List Str := (prt 0 c).flatMap fun p => useOf p.1
end Go.Proofs.YtaobnifiengglaaGreatDoor

namespace Go.Proofs.YtaobnifiengglaaGreatDoor

/-- by its facts and settings, as functions of a name -/
def verIn (x s : Str) : Bool := decide ((pV s).2 = 0) && hasL (parseR x).1 (pV s).1
mutual
def holdsC (F S : Str → Option Str) : Cd → Bool
  | .mk k n x l =>
    if k = 2 then decide (F (bs n) = some (bs x))
    else if k = 3 then decide (S (bs n) = some (bs x))
    else if k = 4 then (S (bs n)).isSome
    else if k = 5 then (match F (bs n) with | some s => verIn (bs x) s | none => false)
    else if k = 6 then !((holdsCs F S l).headD false)
    else if k = 7 then (holdsCs F S l).all id
    else if k = 8 then (holdsCs F S l).any id
    else true
def holdsCs (F S : Str → Option Str) : List Cd → List Bool | [] => [] | c :: l => holdsC F S c :: holdsCs F S l
end
theorem holds_map (F S : Str → Option Str) : ∀ l : List Cd, holdsCs F S l = l.map (holdsC F S)
  | [] => by simp [holdsCs]
  | c :: l => by simp [holdsCs, holds_map F S l]
theorem holds_all (F S : Str → Option Str) (n x : ByteArray) (l : List Cd) : holdsC F S (.mk 7 n x l) = !(l.any fun c => !holdsC F S c) := by
  have h : holdsC F S (.mk 7 n x l) = (holdsCs F S l).all id := by unfold holdsC; rfl
  rw [h, holds_map]
  generalize holdsC F S = f
  rw [List.all_map]
  clear h
  induction l with
  | nil => rfl
  | cons a l ih =>
    rw [List.all_cons, List.any_cons, ih]
    show (f a && _) = _
    cases f a <;> simp
theorem holds_some (F S : Str → Option Str) (n x : ByteArray) (l : List Cd) : holdsC F S (.mk 8 n x l) = l.any fun c => holdsC F S c := by
  have h : holdsC F S (.mk 8 n x l) = (holdsCs F S l).any id := by unfold holdsC; rfl
  rw [h, holds_map]
  generalize holdsC F S = f
  simp [List.any_map]
end Go.Proofs.YtaobnifiengglaaGreatDoor

namespace Go.Proofs.YtaobnifiengglaaGreatDoor
open Go.ChangeShapes Go.WideShapes Go.ChangeAt Go.RowKit Go.WideElems Go.Joins

theorem StrC.le {m m' : Nat} (hm : m ≤ m') {c : Cd} (h : StrC m c) : StrC m' c := by
  induction h with
  | mk k n x l hn hx _ ih => exact .mk k n x l (by omega) (by omega) ih
instance : Inhabited Cd := ⟨zeroC⟩
theorem bulk_mem {H : Type} {n : Nat} {D : Nat → DataW H} {i : Nat} (h : i < n) : Rows.uptoBulk (D i) ≤ Rows.uptoBulkAll ((List.range n).map D) := by
  suffices ∀ l : List Nat, i ∈ l → Rows.uptoBulk (D i) ≤ Rows.uptoBulkAll (l.map D) from this _ (List.mem_range.2 h)
  intro l
  induction l with
  | nil => intro h; cases h
  | cons a l ih =>
    intro h
    simp only [List.map_cons, Rows.uptoBulkAll]
    rcases List.mem_cons.1 h with rfl | h
    · omega
    · have := ih h; omega
set_option maxRecDepth 100000 in
theorem opens_cond (H : Type) (enc : TypeId × Value → H) (W : World) : ∀ (N fuel : Nat) (cs : List Value) (x : DataW H × List MemPlace), DataW.trod enc Tryz.prog W 0 (fun _ => true) true fuel 61 cs = some x → Rows.uptoBulk x.1 ≤ N →
    ∃ c : Cd, CdIn (fun _ => True) W c (.agg cs.toArray) ∧ cnt c ≤ Rows.uptoBulk x.1 ∧ StrC (Rows.uptoBulk x.1) c := by
  intro N
  induction N with
  | zero =>
    intro fuel cs x h hb
    obtain ⟨y0, y1, y2, y3, n, rfl, hl, h0, h1, h2, h3⟩ := trod_struct4 Tryz.underlying61 h
    simp only [Rows.uptoBulk, Rows.uptoBulkAll] at hb
    omega
  | succ N ih =>
    intro fuel cs x h hb
    obtain ⟨y0, y1, y2, y3, n, rfl, hl, h0, h1, h2, h3⟩ := trod_struct4 Tryz.underlying61 h
    have hc : Tryz.prog.cellsOf 61 = 4 := by kernel_rfl
    have ci : Tryz.prog.cellsOf 3 = 1 := by kernel_rfl
    have cst : Tryz.prog.cellsOf 9 = 1 := by kernel_rfl
    have csl : Tryz.prog.cellsOf 59 = 1 := by kernel_rfl
    rw [hc] at hl
    match cs, hl with
    | [c0, c1, c2, c3], _ =>
      dsimp only at h0 h1 h2 h3
      rw [ci] at h0
      rw [cst] at h1 h2
      rw [csl] at h3
      obtain ⟨k, e0, b0⟩ := opens_int Tryz.underlying3 H enc W n _ _ h0
      obtain ⟨nm, e1, b1⟩ := opens_string Tryz.underlying9 H enc W n _ _ h1
      obtain ⟨vl, e2, b2⟩ := opens_string Tryz.underlying9 H enc W n _ _ h2
      simp at e0 e1 e2
      subst e0 e1 e2
      rcases Deep.open_slice Tryz.underlying59 h3 with ⟨e3, rfl⟩ | ⟨a, len, cap, m, n', D, Pl, e3, _, hlc, _, hm, rfl, hx⟩
      · simp at e3
        subst e3
        refine ⟨.mk k nm vl [], CdIn.leaf _ W k nm vl, ?_, ?_⟩
        · simp only [cnt_leaf, Rows.uptoBulk, Rows.uptoBulkAll]; omega
        · refine .mk _ _ _ _ ?_ ?_ (fun _ h => by cases h)
          all_goals (simp only [Rows.uptoBulk, Rows.uptoBulkAll] at b0 b1 b2 ⊢; omega)
      · have e3 : c3 = .slice (some a) len cap := by simpa using e3
        subst e3
        have hlm : len ≤ m := by rw [hm]; split <;> omega
        simp only [Rows.uptoBulk, Rows.uptoBulkAll] at hb
        have each : ∀ i, i < len → ∃ c : Cd, (cnt c ≤ Rows.uptoBulk (D i) ∧ StrC (Rows.uptoBulk (D i)) c) ∧ ∃ ecs : List Value, CdIn (fun _ => True) W c (.agg ecs.toArray) ∧ W.cells? 0 (a.add (i * 4)) 4 = some ecs := fun i hi => by
          obtain ⟨cs', g1, g2⟩ := hx i (by omega)
          have hbi := bulk_mem (D := D) hi
          obtain ⟨c, g3, g4, g5⟩ := ih n' cs' _ g2 (by dsimp only; omega)
          rw [hc] at g1
          exact ⟨c, ⟨g4, g5⟩, cs', g3, g1⟩
        obtain ⟨F, hF⟩ := Deep.choose_lt each
        have hrow : 0 < len → ∃ b off, a = ⟨b, off, none⟩ := fun hp => by
          obtain ⟨_, ecs0, _, hc0⟩ := hF 0 hp
          obtain ⟨_, hl0, hcell0⟩ := World.cells?_some hc0
          obtain ⟨b, off, spot⟩ := a
          have g0 := hcell0 0 (by decide)
          have hv : ecs0[0]? = some ecs0[0] := List.getElem?_eq_getElem (by omega)
          rw [hv] at g0
          have hspot : spot = none := by
            have := World.cell?_spot g0
            simpa [Addr.add] using this
          exact ⟨b, off, by rw [hspot]⟩
        obtain ⟨b, off, hab⟩ : ∃ b off, 0 < len → a = ⟨b, off, none⟩ := by
          rcases Nat.eq_zero_or_pos len with e | e
          · exact ⟨0, 0, fun h => by omega⟩
          · obtain ⟨b, off, h⟩ := hrow e; exact ⟨b, off, fun _ => h⟩
        have hcell : ∀ i, i < len → ∃ e0 e1 e2 e3 : Value, CdIn (fun _ => True) W (F i) (.agg #[e0, e1, e2, e3]) ∧ W.cell? ⟨b, off + i * 4, none⟩ = some e0 ∧ W.cell? ⟨b, off + i * 4 + 1, none⟩ = some e1 ∧ W.cell? ⟨b, off + i * 4 + 2, none⟩ = some e2 ∧ W.cell? ⟨b, off + i * 4 + 3, none⟩ = some e3 := fun i hi => by
          obtain ⟨_, ecs, hR, hcs⟩ := hF i hi
          rw [hab (by omega)] at hcs
          obtain ⟨_, hl1, hcl⟩ := World.cells?_some hcs
          have g : ∀ j, j < 4 → W.cell? ⟨b, off + i * 4 + j, none⟩ = ecs[j]? := fun j hj => by
            have := hcl j hj
            rwa [Deep.add_add, add_plain, ← Nat.add_assoc] at this
          match ecs, hl1, hR, g with
          | [e0, e1, e2, e3], _, hR, g => exact ⟨e0, e1, e2, e3, hR, g 0 (by decide), g 1 (by decide), g 2 (by decide), g 3 (by decide)⟩
        have hlen : ((List.range len).map F).length = len := by simp
        have u : ∀ i, i < len → ∀ j, j < 4 → W.cell? ⟨b, off + i * 4 + j, none⟩ = some ((W.cell? ⟨b, off + i * 4 + j, none⟩).getD z0) := fun i hi j hj => by
          obtain ⟨e0, e1, e2, e3, _, k0, k1, k2, k3⟩ := hcell i hi
          rcases (show j = 0 ∨ j = 1 ∨ j = 2 ∨ j = 3 by omega) with rfl | rfl | rfl | rfl
          · rw [show off + i * 4 + 0 = off + i * 4 from rfl, k0]; rfl
          · rw [k1]; rfl
          · rw [k2]; rfl
          · rw [k3]; rfl
        refine ⟨.mk k nm vl ((List.range len).map F), ?_, ?_, ?_⟩
        · have := CdIn.mk (P := fun _ => True) (w := W) k nm vl ((List.range len).map F) (some a) cap b off (fun i => (W.cell? ⟨b, off + i * 4 + 0, none⟩).getD z0) (fun i => (W.cell? ⟨b, off + i * 4 + 1, none⟩).getD z0) (fun i => (W.cell? ⟨b, off + i * 4 + 2, none⟩).getD z0) (fun i => (W.cell? ⟨b, off + i * 4 + 3, none⟩).getD z0)
            (fun h => by rw [hab (by simpa using h)]) (fun _ => trivial) (fun j hj => u j (by simpa using hj) 0 (by decide)) (fun j hj => u j (by simpa using hj) 1 (by decide)) (fun j hj => u j (by simpa using hj) 2 (by decide)) (fun j hj => u j (by simpa using hj) 3 (by decide))
            (fun j hj => by
              obtain ⟨e0, e1, e2, e3, hR, k0, k1, k2, k3⟩ := hcell j (by simpa using hj)
              rw [show off + j * 4 + 0 = off + j * 4 from rfl, k0, k1, k2, k3]
              simpa using hR)
          rwa [hlen] at this
        · have := bulkAll_le (H := H) (n := len) (D := D) (bk := fun i => cnt (F i)) fun i hi => (hF i hi).1.1
          have hs : ∀ l : List Nat, cnts (l.map F) = (l.map fun i => cnt (F i)).sum := fun l => by
            induction l with
            | nil => rfl
            | cons a l ih => simp only [List.map_cons, cnts, List.sum_cons, ih]
          rw [cnt_mk, hs]
          simp only [Rows.uptoBulk, Rows.uptoBulkAll]
          omega
        · refine .mk _ _ _ _ ?_ ?_ (fun c hc => ?_)
          · simp only [Rows.uptoBulk, Rows.uptoBulkAll] at b0 b1 b2 ⊢; omega
          · simp only [Rows.uptoBulk, Rows.uptoBulkAll] at b0 b1 b2 ⊢; omega
          · obtain ⟨i, hi, rfl⟩ := List.mem_map.1 hc
            have hi := List.mem_range.1 hi
            refine StrC.le ?_ (hF i hi).1.2
            have := bulk_mem (D := D) hi
            simp only [Rows.uptoBulk, Rows.uptoBulkAll]
            omega
end Go.Proofs.YtaobnifiengglaaGreatDoor

namespace Go.Proofs.YtaobnifiengglaaGreatDoor

theorem joinT_eq (w : Str) : ∀ T : List Str, joinT w T = Lib.join T (32 :: (w ++ [32]))
  | [] => rfl
  | [a] => (Lib.join_one _ _).symm
  | a :: b :: l => by
    rw [joinT, joinT_eq w (b :: l), Lib.join_cons, Lib.join_cons]
    simp [Lib.joinTail]
theorem pathL_len {l : Str} (h : pathL l = true) : l.length ≤ 200 := by
  unfold pathL at h
  simp only [Bool.and_eq_true, decide_eq_true_eq] at h
  exact h.2
theorem part_sizes {k : Int} {n x : Str} {m : Nat} (h : partErr k n x m = 0) : n.length ≤ 200 ∧ x.length ≤ 1000 := by
  have hk := part_kind h
  have hf := part_form h
  obtain ⟨f1, f2, _, _⟩ := form_leaf hf
  by_cases hn : namedK k = true
  · unfold partErr at h
    rw [if_neg (by omega), if_neg (by rw [hf]; decide), if_neg (by rw [hn]; decide)] at h
    by_cases hx : (!(if k = 3 ∨ k = 4 then pathL n else nameL n)) = true
    · rw [if_pos hx] at h; cases h
    · rw [if_neg hx] at h
      have h1 : n.length ≤ 200 := by
        by_cases h34 : k = 3 ∨ k = 4
        · rw [if_pos h34] at hx; exact pathL_len (by simpa using hx)
        · rw [if_neg h34] at hx
          have hx : nameL n = true := by simpa using hx
          unfold nameL eachL at hx
          simp only [Bool.and_eq_true, decide_eq_true_eq] at hx
          omega
      by_cases hv : (!valueL x) = true
      · rw [if_pos hv] at h; cases h
      · have hv : valueL x = true := by simpa using hv
        unfold valueL at hv
        simp only [Bool.and_eq_true, decide_eq_true_eq] at hv
        exact ⟨h1, hv.2⟩
  · have hn : namedK k = false := by simpa using hn
    rw [f1 hn, f2 (by unfold valuedK; rw [hn]; rfl)]
    exact ⟨Nat.zero_le _, Nat.zero_le _⟩
theorem part_range {n x : Str} {m : Nat} (h : partErr 5 n x m = 0) : (parseR x).2 = 0 := by
  have hf := part_form h
  unfold partErr at h
  rw [if_neg (by decide), if_neg (by rw [hf]; decide), if_neg (by decide)] at h
  by_cases hx : (!(if (5 : Int) = 3 ∨ (5 : Int) = 4 then pathL n else nameL n)) = true
  · rw [if_pos hx] at h; cases h
  · rw [if_neg hx] at h
    by_cases hv : (!valueL x) = true
    · rw [if_pos hv] at h; cases h
    · rw [if_neg hv, if_pos rfl] at h
      exact h
theorem joinT_len (w : Str) (hw : w.length ≤ 3) : ∀ T : List Str, (joinT w T).length ≤ (T.map fun t => t.length + 5).sum
  | [] => Nat.zero_le _
  | [a] => by simp [joinT]
  | a :: b :: l => by
    have := joinT_len w hw (b :: l)
    rw [joinT, List.map_cons, List.sum_cons]
    simp only [List.length_append, List.length_cons]
    omega
theorem groupT_len (w : Str) (hw : w.length ≤ 3) : ∀ T : List Str, (groupT w T).length ≤ 10 + (T.map fun t => t.length + 5).sum
  | [] => by simp [groupT]; omega
  | [a] => by simp [groupT]; omega
  | a :: b :: l => by
    have := joinT_len w hw (a :: b :: l)
    rw [groupT]
    simp only [List.length_append, List.length_cons, List.length_nil]
    omega
theorem ct_len : ∀ (m : Nat) (c : Cd), OkD m c → (ctL c).length + 5 ≤ 3000 * cnt c := by
  have leaf : ∀ (k : Int) (n x : ByteArray) (l : List Cd), partErr k (bs n) (bs x) l.length = 0 → k < 6 → (ctL (.mk k n x l)).length + 5 ≤ 3000 * cnt (.mk k n x l) := fun k n x l h hk => by
    have h1 := (part_kind h).1
    obtain ⟨s1, s2⟩ := part_sizes h
    have hq := quote_len (bs x)
    have hc := cnt_pos (.mk k n x l)
    unfold ctL
    by_cases e1 : k = 1
    · rw [if_pos e1]; simp [wAlways]; omega
    rw [if_neg e1]
    by_cases e2 : k = 2
    · rw [if_pos e2]; simp only [List.length_append, List.length_cons, wFact, List.length_nil]; omega
    rw [if_neg e2]
    by_cases e3 : k = 3
    · rw [if_pos e3]; simp only [List.length_append, List.length_cons, wSetting, List.length_nil]; omega
    rw [if_neg e3]
    by_cases e4 : k = 4
    · rw [if_pos e4]; simp only [List.length_append, List.length_cons, wHas, List.length_nil]; omega
    rw [if_neg e4]
    have e5 : k = 5 := by omega
    rw [if_pos e5]; simp only [List.length_append, List.length_cons, wVersion, wIn, List.length_nil]; omega
  intro m
  induction m with
  | zero =>
    intro c h
    obtain ⟨k, n, x, l⟩ := c
    exact leaf k n x l h.1 h.2
  | succ m ih =>
    intro c h
    obtain ⟨k, n, x, l⟩ := c
    by_cases hk : k < 6
    · exact leaf k n x l h.1 hk
    · have hp := part_kind h.1
      have hf := form_leaf (part_form h.1)
      have hsum : ∀ l : List Cd, (∀ c ∈ l, OkD m c) → ((ctsL l).map fun t => t.length + 5).sum ≤ 3000 * cnts l := fun l => by
        induction l with
        | nil => intro _; simp [ctsL]
        | cons c l ihl =>
          intro hl
          have h1 := ih c (hl c (by simp))
          have h2 := ihl fun c hc => hl c (List.mem_cons_of_mem _ hc)
          simp only [ctsL, List.map_cons, List.sum_cons, cnts]
          omega
      have hs := hsum l h.2
      unfold ctL cnt
      rw [if_neg (by omega), if_neg (by omega), if_neg (by omega), if_neg (by omega), if_neg (by omega)]
      by_cases e6 : k = 6
      · rw [if_pos e6]
        have hl1 := hf.2.2.2 e6
        match l, hl1 with
        | [c], _ =>
          simp only [ctsL, List.map_cons, List.map_nil, List.sum_cons, List.sum_nil] at hs ⊢
          simp only [List.headD_cons, List.length_append, List.length_cons, wNot, List.length_nil]
          omega
      · rw [if_neg e6]
        have := groupT_len (if k = 8 then wOr else wAnd) (by split <;> decide) (ctsL l)
        omega
end Go.Proofs.YtaobnifiengglaaGreatDoor
