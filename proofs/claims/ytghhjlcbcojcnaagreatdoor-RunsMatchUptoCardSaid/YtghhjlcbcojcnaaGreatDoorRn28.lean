/- Plain law: tables of settings that rules change. -/
import Derived.Test.YtghhjlcbcojcnaaGreatDoorRn26
import Derived.Test.YtghhjlcbcojcnaaGreatDoorRn15

namespace Go.Proofs.YtghhjlcbcojcnaaGreatDoor

/-! ### Tables and their keys -/
abbrev Tb := Str → Option Str
def FinT (f : Tb) : Prop := ∃ L : List Str, ∀ x, x ∈ L ↔ (f x).isSome = true
open Classical in
/-- a table's keys in order -/
noncomputable def keysOf (f : Tb) : List Str := if h : FinT f then inOrder h.choose else []
theorem keysOf_strict (f : Tb) : (keysOf f).Pairwise (· < ·) := by
  unfold keysOf
  split
  · exact inOrder_strict _
  · exact .nil
theorem mem_keysOf {f : Tb} (h : FinT f) (x : Str) : x ∈ keysOf f ↔ (f x).isSome = true := by
  unfold keysOf
  rw [dif_pos h, inOrder_mem]
  exact h.choose_spec x
theorem keysOf_eq {f : Tb} {L : List Str} (hs : L.Pairwise (· < ·)) (hm : ∀ x, x ∈ L ↔ (f x).isSome = true) : L = keysOf f :=
  strict_ext (lt := (· < ·)) strLt_irrefl (fun _ _ _ => strLt_trans) hs (keysOf_strict f) fun x => by rw [hm, mem_keysOf ⟨L, hm⟩]
def setT (f : Tb) (k v : Str) : Tb := fun x => if x = k then some v else f x
def delT (f : Tb) (k : Str) : Tb := fun x => if x = k then none else f x

/-! ### Keys below a key -/
def underL (x key : Str) : Bool := x == key || belowL x key
def newKey (key tt x : Str) : Str := tt ++ x.drop key.length
/-- the key that a new key was -/
def oldKey (key tt x : Str) : Option Str := if x = tt then some key else if belowL x tt = true then some (key ++ x.drop tt.length) else none
theorem below_iff {x key : Str} : belowL x key = true ↔ ∃ r, x = key ++ 47 :: r := by
  unfold belowL
  rw [List.isPrefixOf_iff_prefix]
  constructor
  · rintro ⟨r, hr⟩; exact ⟨r, by rw [← hr]; simp⟩
  · rintro ⟨r, hr⟩; exact ⟨r, by rw [hr]; simp⟩
theorem under_iff {x key : Str} : underL x key = true ↔ ∃ r, x = key ++ r ∧ (r = [] ∨ ∃ q, r = 47 :: q) := by
  unfold underL
  rw [Bool.or_eq_true, below_iff, beq_iff_eq]
  constructor
  · rintro (h | ⟨r, h⟩)
    · exact ⟨[], by rw [h]; simp, .inl rfl⟩
    · exact ⟨47 :: r, h, .inr ⟨r, rfl⟩⟩
  · rintro ⟨r, h, rfl | ⟨q, rfl⟩⟩
    · exact .inl (by rw [h]; simp)
    · exact .inr ⟨q, h⟩
theorem newKey_app (key tt r : Str) : newKey key tt (key ++ r) = tt ++ r := by simp [newKey]
theorem oldKey_app (key tt r : Str) (h : r = [] ∨ ∃ q, r = 47 :: q) : oldKey key tt (tt ++ r) = some (key ++ r) := by
  unfold oldKey
  rcases h with rfl | ⟨q, rfl⟩
  · simp
  · rw [if_neg (by intro e; have := congrArg List.length e; simp at this), if_pos (below_iff.2 ⟨q, rfl⟩)]
    simp
theorem oldKey_new {key tt y : Str} (h : underL y key = true) : oldKey key tt (newKey key tt y) = some y := by
  obtain ⟨r, rfl, hr⟩ := under_iff.1 h
  rw [newKey_app, oldKey_app _ _ _ hr]
theorem oldKey_some {key tt x y : Str} (h : oldKey key tt x = some y) : underL y key = true ∧ newKey key tt y = x ∧ underL x tt = true := by
  unfold oldKey at h
  by_cases h1 : x = tt
  · rw [if_pos h1] at h
    cases h
    subst h1
    exact ⟨by simp [underL], by simp [newKey], by simp [underL]⟩
  · rw [if_neg h1] at h
    by_cases h2 : belowL x tt = true
    · rw [if_pos h2] at h
      obtain ⟨r, rfl⟩ := below_iff.1 h2
      cases h
      refine ⟨under_iff.2 ⟨47 :: r, by simp, .inr ⟨r, rfl⟩⟩, by simp [newKey], under_iff.2 ⟨47 :: r, rfl, .inr ⟨r, rfl⟩⟩⟩
    · rw [if_neg h2] at h; cases h
theorem oldKey_eq {key tt x y : Str} (h : underL y key = true) : oldKey key tt x = some y ↔ x = newKey key tt y :=
  ⟨fun e => (oldKey_some e).2.1.symm, fun e => by rw [e]; exact oldKey_new h⟩
theorem newKey_len {key tt y : Str} : (newKey key tt y).length ≤ tt.length + y.length := by simp [newKey]

/-- what is moved, but for keys that are left -/
def movedT (f : Tb) (key tt : Str) (left : Str → Bool) : Tb := fun x => (oldKey key tt x).bind fun y => if left y = true then none else f y
def cutT (f : Tb) (key : Str) : Tb := fun x => if underL x key = true then none else f x
def moveT (f : Tb) (key tt : Str) : Tb := fun x => (movedT f key tt (fun _ => false) x).or (cutT f key x)
theorem movedT_start (f : Tb) (key tt : Str) (left : Str → Bool) (h : ∀ x, left x = (f x).isSome) : movedT f key tt left = fun _ => none := by
  funext x
  unfold movedT
  cases oldKey key tt x with
  | none => rfl
  | some y =>
    simp only [Option.bind_some, h]
    cases f y <;> rfl
theorem movedT_far {f : Tb} {key tt y : Str} {left : Str → Bool} (h : underL y key = false) : movedT f key tt (fun z => left z && !(z == y)) = movedT f key tt left := by
  funext x
  unfold movedT
  cases ho : oldKey key tt x with
  | none => rfl
  | some z =>
    have hne : z ≠ y := fun e => by rw [← e, (oldKey_some ho).1] at h; cases h
    have : (z == y) = false := by simpa using hne
    simp only [Option.bind_some, this, Bool.not_false, Bool.and_true]
theorem movedT_step {f : Tb} {key tt y v : Str} {left : Str → Bool} (h : underL y key = true) (hv : f y = some v) :
    movedT f key tt (fun z => left z && !(z == y)) = setT (movedT f key tt left) (newKey key tt y) v := by
  funext x
  unfold movedT setT
  by_cases e : x = newKey key tt y
  · rw [if_pos e, e, oldKey_new h]
    simp [hv]
  · rw [if_neg e]
    dsimp only
    cases ho : oldKey key tt x with
    | none => rfl
    | some z =>
      have hne : z ≠ y := fun e2 => e ((oldKey_eq h).1 (by rw [ho, e2]))
      have : (z == y) = false := by simpa using hne
      simp only [Option.bind_some, this, Bool.not_false, Bool.and_true]
theorem movedT_end {f : Tb} {key tt : Str} {left : Str → Bool} (h : ∀ x, left x = false) : movedT f key tt left = movedT f key tt (fun _ => false) := by
  have : left = fun _ => false := funext h
  rw [this]
/-- the table from which what has come is taken out -/
def leftT (f : Tb) (key : Str) (left : Str → Bool) : Tb := fun x => if (underL x key && !left x) = true then none else f x
theorem leftT_start (f : Tb) (key : Str) (left : Str → Bool) (h : ∀ x, left x = (f x).isSome) : leftT f key left = f := by
  funext x
  unfold leftT
  rw [h]
  cases hf : f x <;> simp
theorem leftT_far {f : Tb} {key y : Str} {left : Str → Bool} (h : underL y key = false) : leftT f key (fun z => left z && !(z == y)) = leftT f key left := by
  funext x
  unfold leftT
  by_cases e : x = y
  · subst e; simp [h]
  · have : (x == y) = false := by simpa using e
    simp [this]
theorem leftT_step {f : Tb} {key y : Str} {left : Str → Bool} (h : underL y key = true) : leftT f key (fun z => left z && !(z == y)) = delT (leftT f key left) y := by
  funext x
  unfold leftT delT
  by_cases e : x = y
  · subst e; simp [h]
  · have : (x == y) = false := by simpa using e
    simp [this, e]
theorem leftT_end {f : Tb} {key : Str} {left : Str → Bool} (h : ∀ x, left x = false) : leftT f key left = cutT f key := by
  funext x
  unfold leftT cutT
  simp [h]

/-! ### What a rule does -/
def doF (r : Ru) (f : Tb) : Tb :=
  if r.kind = 1 then (match f r.key with | some v => setT (delT f r.key) r.tt v | none => f)
  else if r.kind = 2 then moveT f r.key r.tt
  else if r.kind = 3 then (match f r.key with | some v => setT f r.tt v | none => f)
  else if r.kind = 4 then setT f r.key r.new
  else if r.kind = 5 then (match f r.key with | some _ => f | none => setT f r.key r.new)
  else if r.kind = 6 then delT f r.key
  else match f r.key with
    | none => f
    | some v => if v = r.old then setT f r.key r.new else if v = r.new ∧ r.kind = 8 then setT f r.key r.old else f
def badT (f : Tb) (key tt : Str) : Prop := ∃ y, (f y).isSome = true ∧ underL y key = true ∧ pathL (newKey key tt y) = false
def offT (f : Tb) : Prop := ∃ x, (f x).isSome = true ∧ pathL x = false
open Classical in
noncomputable def doE (r : Ru) (f : Tb) : Int := if r.kind = 2 ∧ badT f r.key r.tt then 5 else if 2000 < (keysOf (doF r f)).length then 4 else 0
open Classical in
noncomputable def refE (r : Ru) (f : Tb) : Int := if offT (doF r f) then 5 else if 2000 < (keysOf (doF r f)).length then 4 else 0
/-- right keys and values -/
def Okt (f : Tb) : Prop := ∀ x v, f x = some v → pathL x = true ∧ valueL v = true
theorem right_vals {r : Ru} (h : ruErr r = 0) : valueL r.old = true ∧ valueL r.new = true := by
  unfold ruErr at h
  by_cases h1 : r.kind < 1 ∨ 8 < r.kind
  · rw [if_pos h1] at h; omega
  rw [if_neg h1] at h
  by_cases h2 : (!pathL r.key || useTo r.kind && !pathL r.tt) = true
  · rw [if_pos h2] at h; omega
  rw [if_neg h2] at h
  by_cases h3 : (!useTo r.kind && !r.tt.isEmpty || !useOld r.kind && !r.old.isEmpty || !useNew r.kind && !r.new.isEmpty || !valueL r.old || !valueL r.new) = true
  · rw [if_pos h3] at h; omega
  simp only [Bool.or_eq_true, Bool.and_eq_true, Bool.not_eq_true', not_or, not_and, Bool.not_eq_false] at h3
  exact ⟨h3.1.2, h3.2⟩
theorem okt_set {f : Tb} {k v : Str} (h : Okt f) (hk : pathL k = true) (hv : valueL v = true) : Okt (setT f k v) := fun x u hx => by
  unfold setT at hx
  by_cases e : x = k
  · rw [if_pos e] at hx; cases hx; subst e; exact ⟨hk, hv⟩
  · rw [if_neg e] at hx; exact h x u hx
theorem okt_del {f : Tb} {k : Str} (h : Okt f) : Okt (delT f k) := fun x u hx => by
  unfold delT at hx
  by_cases e : x = k
  · rw [if_pos e] at hx; cases hx
  · rw [if_neg e] at hx; exact h x u hx
theorem moved_some {f : Tb} {key tt x v : Str} (h : movedT f key tt (fun _ => false) x = some v) : ∃ y, underL y key = true ∧ f y = some v ∧ newKey key tt y = x := by
  unfold movedT at h
  cases ho : oldKey key tt x with
  | none => rw [ho] at h; cases h
  | some y =>
    rw [ho] at h
    simp only [Option.bind_some, Bool.false_eq_true, if_false] at h
    exact ⟨y, (oldKey_some ho).1, h, (oldKey_some ho).2.1⟩
theorem okt_move {f : Tb} {key tt : Str} (h : Okt f) (hb : ¬ badT f key tt) : Okt (moveT f key tt) := fun x u hx => by
  unfold moveT at hx
  cases hm : movedT f key tt (fun _ => false) x with
  | some v =>
    rw [hm] at hx
    cases hx
    obtain ⟨y, h1, h2, h3⟩ := moved_some hm
    refine ⟨?_, (h y _ h2).2⟩
    cases hp : pathL x with
    | true => rfl
    | false => exact absurd ⟨y, by rw [h2]; rfl, h1, by rw [h3]; exact hp⟩ hb
  | none =>
    rw [hm] at hx
    simp only [Option.none_or, cutT] at hx
    by_cases e : underL x key = true
    · rw [if_pos e] at hx; cases hx
    · rw [if_neg e] at hx; exact h x u hx
theorem okt_do {r : Ru} {f : Tb} (h : Okt f) (hr : ruErr r = 0) (hb : ¬ (r.kind = 2 ∧ badT f r.key r.tt)) : Okt (doF r f) := by
  have hR := right_of hr
  obtain ⟨vo, vn⟩ := right_vals hr
  unfold doF
  by_cases h1 : r.kind = 1
  · rw [if_pos h1]
    have ht := hR.to1 (by rw [h1]; rfl)
    cases hf : f r.key with
    | none => exact h
    | some v => exact okt_set (okt_del h) ht (h _ _ hf).2
  rw [if_neg h1]
  by_cases h2 : r.kind = 2
  · rw [if_pos h2]
    exact okt_move h fun e => hb ⟨h2, e⟩
  rw [if_neg h2]
  by_cases h3 : r.kind = 3
  · rw [if_pos h3]
    have ht := hR.to1 (by rw [h3]; rfl)
    cases hf : f r.key with
    | none => exact h
    | some v => exact okt_set h ht (h _ _ hf).2
  rw [if_neg h3]
  by_cases h4 : r.kind = 4
  · rw [if_pos h4]; exact okt_set h hR.key vn
  rw [if_neg h4]
  by_cases h5 : r.kind = 5
  · rw [if_pos h5]
    cases hf : f r.key with
    | none => exact okt_set h hR.key vn
    | some _ => exact h
  rw [if_neg h5]
  by_cases h6 : r.kind = 6
  · rw [if_pos h6]; exact okt_del h
  rw [if_neg h6]
  cases hf : f r.key with
  | none => exact h
  | some v =>
    dsimp only
    split
    · exact okt_set h hR.key vn
    · split
      · exact okt_set h hR.key vo
      · exact h
theorem moveT_new {f : Tb} {key tt y : Str} (h : underL y key = true) (hs : (f y).isSome = true) : (moveT f key tt (newKey key tt y)).isSome = true := by
  unfold moveT movedT
  rw [oldKey_new h]
  simp only [Option.bind_some, Bool.false_eq_true, if_false]
  cases hf : f y with
  | none => rw [hf] at hs; cases hs
  | some v => rfl
theorem refE_eq {r : Ru} {f : Tb} (h : Okt f) (hr : ruErr r = 0) : refE r f = doE r f := by
  unfold refE doE
  by_cases hb : r.kind = 2 ∧ badT f r.key r.tt
  · rw [if_pos hb, if_pos]
    obtain ⟨h2, y, hy, hu, hp⟩ := hb
    refine ⟨newKey r.key r.tt y, ?_, hp⟩
    unfold doF
    rw [if_neg (by omega), if_pos h2]
    exact moveT_new hu hy
  · rw [if_neg hb, if_neg]
    rintro ⟨x, hx, hp⟩
    cases hf : doF r f x with
    | none => rw [hf] at hx; cases hx
    | some v => rw [(okt_do h hr hb x v hf).1] at hp; cases hp

/-! ### What rules do -/
noncomputable def runE : List Ru → Tb → Int
  | [], _ => 0
  | r :: l, f => if doE r f = 0 then runE l (doF r f) else doE r f
def runF (l : List Ru) (f : Tb) : Tb := l.foldl (fun g r => doF r g) f
def losesT (r : Ru) (f : Tb) : Prop :=
  (r.kind = 1 ∧ (f r.tt).isSome = true) ∨ (r.kind = 2 ∧ ∃ x, (f x).isSome = true ∧ underL x r.tt = true) ∨ (r.kind = 7 ∧ f r.key = some r.new)
open Classical in
noncomputable def cleanB : List Ru → Tb → Bool
  | [], _ => true
  | r :: l, f => if losesT r f then false else cleanB l (doF r f)
theorem doE_ok {r : Ru} {f : Tb} (h : doE r f = 0) : ¬ (r.kind = 2 ∧ badT f r.key r.tt) ∧ (keysOf (doF r f)).length ≤ 2000 := by
  unfold doE at h
  by_cases hb : r.kind = 2 ∧ badT f r.key r.tt
  · rw [if_pos hb] at h; cases h
  · rw [if_neg hb] at h
    refine ⟨hb, ?_⟩
    by_cases hl : 2000 < (keysOf (doF r f)).length
    · rw [if_pos hl] at h; cases h
    · omega
theorem okt_next {r : Ru} {f : Tb} (h : Okt f) (hr : ruErr r = 0) (h0 : doE r f = 0) : Okt (doF r f) := okt_do h hr (doE_ok h0).1
theorem okt_run : ∀ {l : List Ru} {f : Tb}, Okt f → (∀ r ∈ l, ruErr r = 0) → runE l f = 0 → Okt (runF l f)
  | [], _, h, _, _ => h
  | r :: l, f, h, hr, h0 => by
    unfold runE at h0
    by_cases h1 : doE r f = 0
    · rw [if_pos h1] at h0
      exact okt_run (l := l) (okt_next h (hr r (by simp)) h1) (fun q hq => hr q (by simp [hq])) h0
    · rw [if_neg h1] at h0; exact absurd h0 h1
/-- the settings of a table -/
noncomputable def seL (f : Tb) : List Se := (keysOf f).map fun k => ⟨⟨k.toArray⟩, ⟨((f k).getD []).toArray⟩⟩
theorem seL_length (f : Tb) : (seL f).length = (keysOf f).length := by simp [seL]
theorem seL_ok {f : Tb} (hf : FinT f) (h : Okt f) : seErr pathL (seL f) = 0 := by
  have hlen := seL_length f
  have hk : ∀ i (hi : i < (seL f).length), bs (seL f)[i].k = (keysOf f)[i]'(by omega) ∧ bs (seL f)[i].v = (f ((keysOf f)[i]'(by omega))).getD [] := fun i hi => by simp [seL, bs]
  have h1 : ∀ i (hi : i < (seL f).length), seOne pathL (seL f)[i] = 0 := fun i hi => by
    obtain ⟨e1, e2⟩ := hk i hi
    have hm := (mem_keysOf hf _).1 (List.getElem_mem (show i < (keysOf f).length by omega))
    cases hv : f ((keysOf f)[i]'(by omega)) with
    | none => rw [hv] at hm; cases hm
    | some v =>
      rw [hv] at e2
      obtain ⟨k1, k2⟩ := h _ _ hv
      exact seOne_ok (by rw [e1]; exact k1) (by rw [e2]; exact k2)
  refine seErr_all fun x hx => ?_
  obtain ⟨i, hi, rfl⟩ := List.getElem_of_mem hx
  rw [List.getElem_take, seErrs_get]
  have hi2 : i < (seL f).length := by rw [List.length_take, seErrs_length] at hi; omega
  rcases Nat.eq_zero_or_pos i with rfl | hp
  · rw [seAt_0 hi2]; exact h1 0 hi2
  · obtain ⟨j, rfl⟩ : ∃ j, i = j + 1 := ⟨i - 1, by omega⟩
    rw [seAt_gap hi2 (h1 _ hi2), seGap, if_neg]
    simp only [ByteArray.toList_eq, Proofs.bytesLess_eq, Bool.or_eq_true, decide_eq_true_eq, beq_iff_eq, not_or]
    have hs := List.pairwise_iff_getElem.1 (keysOf_strict f) j (j + 1) (by omega) (by omega) (by omega)
    have e1 := (hk (j + 1) hi2).1
    have e0 := (hk j (by omega)).1
    unfold bs at e0 e1
    rw [e0, e1]
    exact ⟨fun h => strLt_irrefl _ (strLt_trans hs h), fun h => by rw [h] at hs; exact strLt_irrefl _ hs⟩
/-- the error of settings and rules ahead of running -/
def runErr (es : List Se) (rs : List Ru) : Int := firstI (seErr pathL es :: (if 2000 < es.length ∨ 100 < rs.length then 4 else 0) :: rs.map ruErr)
theorem okt_tbl {es : List Se} (h : seErr pathL es = 0) : Okt (tbl es) := by
  have h1 : ∀ i (hi : i < es.length), seOne pathL es[i] = 0 := fun i hi => by
    have h0 := firstI_all h (seAt pathL es i) (by
      rw [← seErrs_get pathL es i (by rw [seErrs_length]; exact hi)]
      exact List.getElem_mem _)
    by_cases e : seOne pathL es[i] = 0
    · exact e
    · rw [seAt_bad hi e] at h0; exact h0
  suffices ∀ N, N ≤ es.length → Okt (tblN es N) from this _ (Nat.le_refl _)
  intro N
  induction N with
  | zero => intro _ x v hx; rw [tblN_zero] at hx; cases hx
  | succ N ih =>
    intro hN x v hx
    rw [tblN_succ (show N < es.length by omega)] at hx
    dsimp only at hx
    by_cases e : x = bs es[N].k
    · rw [if_pos e] at hx
      cases hx
      have h0 := h1 N (by omega)
      unfold seOne at h0
      by_cases a : pathL (bs es[N].k) = false
      · rw [if_pos a] at h0; cases h0
      · rw [if_neg a] at h0
        by_cases b : valueL (bs es[N].v) = false
        · rw [if_pos b] at h0; cases h0
        · subst e; exact ⟨by simpa using a, by simpa using b⟩
    · rw [if_neg e] at hx
      exact ih (by omega) x v hx
noncomputable def runR (es : List Se) (rs : List Ru) : Int := if runErr es rs = 0 then runE rs (tbl es) else runErr es rs
noncomputable def runS (es : List Se) (rs : List Ru) : List Se := if runR es rs = 0 then seL (runF rs (tbl es)) else []
/-- rules that go back -/
def invE (rs : List Ru) : Int := if 100 < rs.length then 4 else firstI (rs.map fun r => (invL r).2)
def invS (rs : List Ru) : List Ru := if invE rs = 0 then (rs.map fun r => (invL r).1).reverse else []
open Classical in
noncomputable def cleanE (es : List Se) (rs : List Ru) : Int := if runR es rs = 0 then invE rs else runR es rs
end Go.Proofs.YtghhjlcbcojcnaaGreatDoor
