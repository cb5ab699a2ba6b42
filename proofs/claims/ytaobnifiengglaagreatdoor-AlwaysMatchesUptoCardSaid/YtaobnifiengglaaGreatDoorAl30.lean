/- Contract of outref2.HasOf. Plain law: the words of a text that is put together from pieces. Plain law: the text of a condition, its words. Plain law: a printed condition is read back. Plain law: the words of a right condition are read as that condition. Plain law: a printed condition is read back, whole. Plain law: what is printed of a right condition, is read as that condition. Plain law: strictly ordered lists with the same members are one list; what a condition uses. -/
import Derived.Test.YtaobnifiengglaaGreatDoorAl29
import Derived.Laws.EntriesVeiled
import Derived.Test.YtaobnifiengglaaGreatDoorAl28
import Derived.Test.YtaobnifiengglaaGreatDoorAl24
import Derived.Test.YtaobnifiengglaaGreatDoorAl25
import Derived.Test.YtaobnifiengglaaGreatDoorAl23

namespace Go.Proofs.YtaobnifiengglaaGreatDoor
open Go.RowKit

set_option maxHeartbeats 8000000 in
theorem near_any (h : Bool) (e : V4) (v1 v2 v3 : Int) (va : ByteArray) (gv : Nat) (w : World) (bV : Blk w gv 35 #[.int .i64 v1, .int .i64 v2, .int .i64 v3, .string va]) :
    Calls Tryz.prog 125 #[.bool h, verV e, .pointer (some ⟨gv, 0, none⟩)] w fun r w' => r = .returned (.bool (nearL h e ⟨v1, v2, v3, va⟩)) ∧ Ext w w' := by
  obtain ⟨e1, e2, e3, ea⟩ := e
  have hN : nearL h ⟨e1, e2, e3, ea⟩ ⟨v1, v2, v3, va⟩ = (h && !decide (ea.size = 0) && decide (e1 = v1) && decide (e2 = v2) && decide (e3 = v3)) := rfl
  rw [hN]
  clear hN
  have bV2 := bV.alloc (.cells #[.int .i64 e1, .int .i64 e2, .int .i64 e3, .string ea] 35)
  have cV := bV2.cell; have lV := bV2.lt
  cases h
  · go_enter Tryz.func125, Tryz.ntmps125
    go_wp2
    go_ret
    exact ⟨rfl, (by repeat (first | with_reducible exact Ext.refl _ | with_reducible assumption | with_reducible apply Ext.drewN | with_reducible apply Ext.drew | with_reducible apply Ext.alloc | exact Ext.refl _ | assumption | apply Ext.drewN | apply Ext.drew | apply Ext.alloc))⟩
  rcases Nat.eq_zero_or_pos ea.size with h0 | h0
  · have hl := emp_of_size h0
    have hb := emp_bool h0
    have H0 := Lib.hid h0
    clear h0
    go_enter Tryz.func125, Tryz.ntmps125
    go_wp2
    go_ret
    refine ⟨ret_bool ?_, (by repeat (first | with_reducible exact Ext.refl _ | with_reducible assumption | with_reducible apply Ext.drewN | with_reducible apply Ext.drew | with_reducible apply Ext.alloc | exact Ext.refl _ | assumption | apply Ext.drewN | apply Ext.drew | apply Ext.alloc))⟩
    simp [H0.out]
  · have hl := nemp_of_size h0
    have hb := nemp_bool h0
    have H0 := Lib.hid (show ¬ ea.size = 0 by omega)
    by_cases q1 : e1 = v1
    · subst q1
      by_cases q2 : e2 = v2
      · subst q2
        go_enter Tryz.func125, Tryz.ntmps125
        go_wp2
        go_ret
        refine ⟨ret_bool ?_, (by repeat (first | with_reducible exact Ext.refl _ | with_reducible assumption | with_reducible apply Ext.drewN | with_reducible apply Ext.drew | with_reducible apply Ext.alloc | exact Ext.refl _ | assumption | apply Ext.drewN | apply Ext.drew | apply Ext.alloc))⟩
        simp [H0.out]
        by_cases q3 : e3 = v3 <;> simp [q3]
      · go_enter Tryz.func125, Tryz.ntmps125
        go_wp2
        go_ret
        refine ⟨ret_bool ?_, (by repeat (first | with_reducible exact Ext.refl _ | with_reducible assumption | with_reducible apply Ext.drewN | with_reducible apply Ext.drew | with_reducible apply Ext.alloc | exact Ext.refl _ | assumption | apply Ext.drewN | apply Ext.drew | apply Ext.alloc))⟩
        simp [q2]
    · go_enter Tryz.func125, Tryz.ntmps125
      go_wp2
      go_ret
      refine ⟨ret_bool ?_, (by repeat (first | with_reducible exact Ext.refl _ | with_reducible assumption | with_reducible apply Ext.drewN | with_reducible apply Ext.drew | with_reducible apply Ext.alloc | exact Ext.refl _ | assumption | apply Ext.drewN | apply Ext.drew | apply Ext.alloc))⟩
      simp [q1]
/-- what the closure says of one span -/
def hitD (al : Bool) (s : Sp) (v : V4) : Bool := insideL s v && (decide (v.a.size = 0) || al || nearL s.hf s.f v || nearL s.ht s.t v)
set_option maxHeartbeats 8000000 in
set_option maxRecDepth 100000 in
theorem hit_any (al : Bool) (s : Sp) (v : V4) (gv ga gn : Nat) (w : World) (hg : GoodN w) (h1 : s.f.a.size ≤ 2097152) (h2 : s.t.a.size ≤ 2097152) (h3 : v.a.size ≤ 2097152) (e1 : s.f.err = 0) (e2 : s.t.err = 0) (e3 : v.err = 0)
    (bV : Blk w gv 35 #[.int .i64 v.a1, .int .i64 v.a2, .int .i64 v.a3, .string v.a]) (bA : w.cell? ⟨ga, 0, none⟩ = some (.bool al)) (bN : w.cell? ⟨gn, 0, none⟩ = some (.func (.func 125) #[] #[.pointer (some ⟨gv, 0, none⟩)])) :
    Calls Tryz.prog 127 #[spV s, .pointer (some ⟨gv, 0, none⟩), .pointer (some ⟨ga, 0, none⟩), .pointer (some ⟨gn, 0, none⟩)] w fun e w' => e = .returned (.bool (hitD al s v)) ∧ Ext w w' := by
  have cI := fun W (h : Ext w W) => Inside_any s v W (hg.ext h) h1 h2 h3 e1 e2 e3
  have cN1 := fun W (h : Ext w W) => near_any s.hf s.f v.a1 v.a2 v.a3 v.a gv W (bV.ext h)
  have cN2 := fun W (h : Ext w W) => near_any s.ht s.t v.a1 v.a2 v.a3 v.a gv W (bV.ext h)
  have hH : hitD al s v = (insideL s v && (decide (v.a.size = 0) || al || nearL s.hf s.f v || nearL s.ht s.t v)) := rfl
  rw [hH]
  clear hH
  rw [show (⟨v.a1, v.a2, v.a3, v.a⟩ : V4) = v from rfl] at cN1 cN2
  generalize insideL s v = I at *
  generalize nearL s.hf s.f v = N1 at *
  generalize nearL s.ht s.t v = N2 at *
  obtain ⟨hf, ht, ⟨f1, f2, f3, fa⟩, ⟨t1, t2, t3, ta⟩⟩ := s
  obtain ⟨v1, v2, v3, va⟩ := v
  dsimp only [spV, verV] at cI cN1 cN2 bV ⊢
  have CI := Lib.hid cI; have CN1 := Lib.hid cN1; have CN2 := Lib.hid cN2
  clear cI cN1 cN2 e1 e2 e3
  have hx0 : Ext w (w.alloc (.cells #[.bool hf, .bool ht, .int .i64 f1, .int .i64 f2, .int .i64 f3, .string fa, .int .i64 t1, .int .i64 t2, .int .i64 t3, .string ta] 146)) := (Ext.refl w).alloc _
  have bS := Blk.new w 146 #[.bool hf, .bool ht, .int .i64 f1, .int .i64 f2, .int .i64 f3, .string fa, .int .i64 t1, .int .i64 t2, .int .i64 t3, .string ta]
  have bV0 := bV.alloc (.cells #[.bool hf, .bool ht, .int .i64 f1, .int .i64 f2, .int .i64 f3, .string fa, .int .i64 t1, .int .i64 t2, .int .i64 t3, .string ta] 146)
  have cV0 := bV0.cell; have lV0 := bV0.lt
  have lA := lt_of_cell bA; have lN := lt_of_cell bN; have lV := bV.lt
  go_enter Tryz.func127, Tryz.ntmps127
  go_wp2_with fail
  refine (CI.out _ hx0).mono ?_
  rintro e w1 ⟨rfl, hx1⟩
  have hxw := hx0.trans hx1
  have bS1 := bS.ext hx1; have bV1 := bV.ext hxw
  have cS1 := bS1.cell; have lS1 := bS1.lt; have cV1 := bV1.cell; have lV1 := bV1.lt
  have a1 := hxw.cell bA; have n1 := hxw.cell bN
  clear cV0 lV0
  cases I
  · go_wp2
    go_ret
    exact ⟨rfl, hxw⟩
  rcases Nat.eq_zero_or_pos va.size with h0 | h0
  · have hl := emp_of_size h0
    have hb := emp_bool h0
    have H0 := Lib.hid h0
    clear h0
    go_wp2
    go_ret
    refine ⟨ret_bool ?_, hxw⟩
    simp [H0.out]
  have hl := nemp_of_size h0
  have hb := nemp_bool h0
  have H0 := Lib.hid (show decide (va.size = 0) = false from decide_eq_false (by omega))
  cases al
  rotate_left
  · go_wp2
    go_ret
    refine ⟨ret_bool ?_, hxw⟩
    simp
  go_wp2_with fail
  refine (CN1.out _ hxw).mono ?_
  rintro e w2 ⟨rfl, hx2⟩
  have bS2 := bS1.ext hx2
  have cS2 := bS2.cell; have lS2 := bS2.lt
  have n2 := hx2.cell n1
  clear cS1 lS1 cV1 lV1 a1 n1
  cases N1
  rotate_left
  · go_wp2
    go_ret
    refine ⟨ret_bool ?_, hxw.trans hx2⟩
    simp
  go_wp2_with fail
  refine (CN2.out _ (hxw.trans hx2)).mono ?_
  rintro e w3 ⟨rfl, hx3⟩
  go_wp2
  go_ret
  refine ⟨ret_bool ?_, (hxw.trans hx2).trans hx3⟩
  rw [H0.out]
  cases N2 <;> rfl
theorem enters_hit : ∀ xs w, Sem.run Tryz.prog (callFunc 127 xs) w = .ok (.enter 127 xs) w := enters_of Tryz.func127 (by kernel_rfl) rfl
theorem any_same {α : Type} {p q : α → Bool} {l : List α} (h : ∀ k (hk : k < l.length), p l[k] = q l[k]) : l.any p = l.any q := by
  rw [Bool.eq_iff_iff, List.any_eq_true, List.any_eq_true]
  constructor
  · rintro ⟨s, hs, e⟩
    obtain ⟨k, hk, rfl⟩ := List.mem_iff_getElem.1 hs
    exact ⟨_, hs, by rw [← h k hk]; exact e⟩
  · rintro ⟨s, hs, e⟩
    obtain ⟨k, hk, rfl⟩ := List.mem_iff_getElem.1 hs
    exact ⟨_, hs, by rw [h k hk]; exact e⟩
theorem hasD_one {s : Sp} {v : V4} : [s].any (fun x => hitD (!s.hf && !s.ht) x v) = hasL [s] v := by
  unfold hasL
  simp only [List.any_cons, List.any_nil, Bool.or_false, List.length_singleton]
  unfold hitD hitL
  simp
theorem hasD_many {l : List Sp} {v : V4} (h : l.length ≠ 1) : l.any (fun x => hitD false x v) = hasL l v := by
  unfold hasL
  refine any_same fun k hk => ?_
  unfold hitD hitL
  rw [decide_eq_false h]
  simp
set_option maxHeartbeats 8000000 in
set_option maxRecDepth 100000 in
theorem HasOf_any (A : Option Addr) (n c : Nat) (l : List Sp) (v : V4) (w : World) (hg : GoodN w) (hn : l.length = n) (hr : RdS w A l) (hs : SmallS l) (hl : n ≤ 2097152) (hv : v.a.size ≤ 2097152) (ho : rngErr l = 0) (hov : v.err = 0) :
    Calls Tryz.prog 53 #[.agg #[.slice A n c], verV v] w fun e w' => e = .returned (.bool (hasL l v)) ∧ Ext w w' := by
  have cC := fun (al : Bool) gv ga gn W (h : Ext w W) (bV : Blk W gv 35 #[.int .i64 v.a1, .int .i64 v.a2, .int .i64 v.a3, .string v.a]) (bA : W.cell? ⟨ga, 0, none⟩ = some (.bool al)) (bN : W.cell? ⟨gn, 0, none⟩ = some (.func (.func 125) #[] #[.pointer (some ⟨gv, 0, none⟩)])) =>
    ContainsFuncS_any A n c l 127 #[.pointer (some ⟨gv, 0, none⟩), .pointer (some ⟨ga, 0, none⟩), .pointer (some ⟨gn, 0, none⟩)] (fun s => hitD al s v) W hn (hr.ext h) hl enters_hit (fun k hk W2 h2 =>
      have he := spErr_parts (rng_each ho hk)
      have hz := hs l[k] (List.getElem_mem hk)
      hit_any al l[k] v gv ga gn W2 (hg.ext (h.trans h2)) hz.1 hz.2 hv he.2.2.1 he.2.2.2.1 hov (bV.ext h2) (h2.cell bA) (h2.cell bN))
  have h1 := fun h => hasD_many (l := l) (v := v) h
  have h2 : ∀ s, l = [s] → l.any (fun x => hitD (!s.hf && !s.ht) x v) = hasL l v := fun s e => by rw [e]; exact hasD_one
  generalize hasL l v = R at *
  have CC := Lib.hid cC; have H1 := Lib.hid h1; have H2 := Lib.hid h2; have HN := Lib.hid hn
  clear cC h1 h2 hn ho hov hs
  obtain ⟨v1, v2, v3, va⟩ := v
  dsimp only [verV] at CC hv ⊢
  by_cases hone : n = 1
  · subst hone
    obtain ⟨s, hs⟩ := List.length_eq_one_iff.1 HN.out
    obtain ⟨b, o, rfl, hX⟩ := hr (fun e => by rw [hs] at e; cases e)
    have x0 := hX.c0 0 (by rw [HN.out]; decide); have x1 := hX.c1 0 (by rw [HN.out]; decide)
    have HR := Lib.hid (H2.out s hs)
    have hs0 : l[0]'(by rw [HN.out]; decide) = s := by simp [hs]
    rw [hs0, Nat.zero_mul, Nat.add_zero] at x0 x1
    have l0 := lt_of_cell x0
    clear hX hs0 H1 H2
    have CC2 := Lib.hid (fun gv ga gn W h bV bA bN => CC.out (!s.hf && !s.ht) gv ga gn W h bV bA bN)
    simp only [HR.out] at CC2
    clear HR hs hr CC
    generalize s.hf = hf at *
    generalize s.ht = ht at *
    have W0 := Blk.new (w.alloc (.cells #[.slice (some ⟨b, o, none⟩) 1 c] 51)) 35 #[.int .i64 v1, .int .i64 v2, .int .i64 v3, .string va]
    rw [World.size_alloc] at W0
    have hF := (fun T => Blk.new ((w.alloc (.cells #[.slice (some ⟨b, o, none⟩) 1 c] 51)).alloc (.cells #[.int .i64 v1, .int .i64 v2, .int .i64 v3, .string va] 35)) T #[(.func (.func 125) #[] #[.pointer (some ⟨w.heap.size + 1, 0, none⟩)])])
    simp only [World.size_alloc] at hF
    have l1 : b < w.heap.size + 1 := by omega
    have l2 : b < w.heap.size + 1 + 1 := by omega
    have l3 : b < w.heap.size + 1 + 1 + 1 := by omega
    cases hf <;> cases ht
    all_goals
      go_enter Tryz.func53, Tryz.ntmps53
      go_wp2_with fail
      refine (CC2.out (w.heap.size + 1) (w.heap.size + 1 + 1 + 1) (w.heap.size + 1 + 1) _ (by repeat (first | with_reducible exact Ext.refl _ | with_reducible assumption | with_reducible apply Ext.drewN | with_reducible apply Ext.drew | with_reducible apply Ext.alloc | exact Ext.refl _ | assumption | apply Ext.drewN | apply Ext.drew | apply Ext.alloc)) ((W0.alloc _).alloc _) ?_ ((((hF _).alloc _).cell 0).trans rfl)).mono ?_
      · rw [World.cell?_alloc_at _ _ _ _ (by simp [World.size_alloc])]
        rfl
      rintro e w1 ⟨rfl, hx1⟩
      go_wp2
      go_ret
      exact ⟨rfl, Ext.trans (by repeat (first | with_reducible exact Ext.refl _ | with_reducible assumption | with_reducible apply Ext.drewN | with_reducible apply Ext.drew | with_reducible apply Ext.alloc | exact Ext.refl _ | assumption | apply Ext.drewN | apply Ext.drew | apply Ext.alloc)) hx1⟩
  · have hne : ((n : Int) == 1) = false := by rw [beq_eq_false_iff_ne]; omega
    have HR := Lib.hid (H1.out (by rw [HN.out]; exact hone))
    have CC2 := Lib.hid (fun gv ga gn W h bV bA bN => CC.out false gv ga gn W h bV bA bN)
    simp only [HR.out] at CC2
    clear H1 H2 HR CC hr
    have W0 := Blk.new (w.alloc (.cells #[.slice A n c] 51)) 35 #[.int .i64 v1, .int .i64 v2, .int .i64 v3, .string va]
    rw [World.size_alloc] at W0
    have hF := (fun T => Blk.new ((w.alloc (.cells #[.slice A n c] 51)).alloc (.cells #[.int .i64 v1, .int .i64 v2, .int .i64 v3, .string va] 35)) T #[(.func (.func 125) #[] #[.pointer (some ⟨w.heap.size + 1, 0, none⟩)])])
    simp only [World.size_alloc] at hF
    go_enter Tryz.func53, Tryz.ntmps53
    go_wp2_with fail
    refine (CC2.out (w.heap.size + 1) (w.heap.size + 1 + 1 + 1) (w.heap.size + 1 + 1) _ (by repeat (first | with_reducible exact Ext.refl _ | with_reducible assumption | with_reducible apply Ext.drewN | with_reducible apply Ext.drew | with_reducible apply Ext.alloc | exact Ext.refl _ | assumption | apply Ext.drewN | apply Ext.drew | apply Ext.alloc)) ((W0.alloc _).alloc _) ?_ ((((hF _).alloc _).cell 0).trans rfl)).mono ?_
    · rw [World.cell?_alloc_at _ _ _ _ (by simp [World.size_alloc])]
      rfl
    rintro e w1 ⟨rfl, hx1⟩
    go_wp2
    go_ret
    exact ⟨rfl, Ext.trans (by repeat (first | with_reducible exact Ext.refl _ | with_reducible assumption | with_reducible apply Ext.drewN | with_reducible apply Ext.drew | with_reducible apply Ext.alloc | exact Ext.refl _ | assumption | apply Ext.drewN | apply Ext.drew | apply Ext.alloc)) hx1⟩
end Go.Proofs.YtaobnifiengglaaGreatDoor

namespace Go.Proofs.YtaobnifiengglaaGreatDoor

/-- a word without its place -/
structure Aw where
  k : UInt8
  t : Str
  v : Str
def Wd.ab (d : Wd) : Aw := ⟨d.k, bs d.t, bs d.v⟩
def stopS : Str → Prop
  | [] => True
  | c :: _ => tokB c = false
/-- a piece has these words, wherever it stands ahead of what ends a word -/
def TokOf (L : Str) (A : List Aw) : Prop := ∀ (s : ByteArray) (i : Nat) (R : Str), (bs s).drop i = L ++ R → stopS R → ∃ W, wordsT s i = W ++ wordsT s (i + L.length) ∧ W.map Wd.ab = A
/-- .. wherever it stands -/
def TokS (L : Str) (A : List Aw) : Prop := ∀ (s : ByteArray) (i : Nat) (R : Str), (bs s).drop i = L ++ R → ∃ W, wordsT s i = W ++ wordsT s (i + L.length) ∧ W.map Wd.ab = A
theorem TokS.of {L : Str} {A : List Aw} (h : TokS L A) : TokOf L A := fun s i R e _ => h s i R e
end Go.Proofs.YtaobnifiengglaaGreatDoor

namespace Go.Proofs.YtaobnifiengglaaGreatDoor

/-! ### What a name's bytes are -/
/-! ### A condition's text and words -/
/-- texts with a word between -/
def joinT (w : Str) : List Str → Str
  | [] => []
  | [a] => a
  | a :: b :: l => a ++ (32 :: (w ++ 32 :: joinT w (b :: l)))
def groupT (w : Str) : List Str → Str
  | [] => 40 :: (w ++ [41])
  | [a] => 40 :: (w ++ (32 :: (a ++ [41])))
  | a :: b :: l => 40 :: (joinT w (a :: b :: l) ++ [41])
mutual
def ctL : Cd → Str
  | .mk k n x l =>
    if k = 1 then wAlways
    else if k = 2 then wFact ++ (32 :: (bs n ++ (32 :: 61 :: 32 :: quoteL (bs x))))
    else if k = 3 then wSetting ++ (32 :: (bs n ++ (32 :: 61 :: 32 :: quoteL (bs x))))
    else if k = 4 then wHas ++ (32 :: bs n)
    else if k = 5 then wVersion ++ (32 :: (bs n ++ (32 :: (wIn ++ (32 :: quoteL (bs x))))))
    else if k = 6 then wNot ++ (32 :: (ctsL l).headD [])
    else groupT (if k = 8 then wOr else wAnd) (ctsL l)
def ctsL : List Cd → List Str | [] => [] | c :: l => ctL c :: ctsL l
end
abbrev aw (t : Str) : Aw := ⟨119, t, []⟩
abbrev sg (c : UInt8) : Aw := ⟨c, [c], []⟩
abbrev qt (x : Str) : Aw := ⟨113, [], x⟩
def joinW (w : Str) : List (List Aw) → List Aw
  | [] => []
  | [a] => a
  | a :: b :: l => a ++ (aw w :: joinW w (b :: l))
def groupW (w : Str) : List (List Aw) → List Aw
  | [] => [sg 40, aw w, sg 41]
  | [a] => sg 40 :: aw w :: (a ++ [sg 41])
  | a :: b :: l => sg 40 :: (joinW w (a :: b :: l) ++ [sg 41])
mutual
def cwL : Cd → List Aw
  | .mk k n x l =>
    if k = 1 then [aw wAlways]
    else if k = 2 then [aw wFact, aw (bs n), sg 61, qt (bs x)]
    else if k = 3 then [aw wSetting, aw (bs n), sg 61, qt (bs x)]
    else if k = 4 then [aw wHas, aw (bs n)]
    else if k = 5 then [aw wVersion, aw (bs n), aw wIn, qt (bs x)]
    else if k = 6 then aw wNot :: (cwsL l).headD []
    else groupW (if k = 8 then wOr else wAnd) (cwsL l)
def cwsL : List Cd → List (List Aw) | [] => [] | c :: l => cwL c :: cwsL l
end

/-! ### The words of the text -/
end Go.Proofs.YtaobnifiengglaaGreatDoor

namespace Go.Proofs.YtaobnifiengglaaGreatDoor

/-- a right condition, of no more than so many levels within it -/
def OkD : Nat → Cd → Prop
  | 0, .mk k n x l => partErr k (bs n) (bs x) l.length = 0 ∧ k < 6
  | m + 1, .mk k n x l => partErr k (bs n) (bs x) l.length = 0 ∧ ∀ c ∈ l, OkD m c
theorem OkD.part {m : Nat} {k : Int} {n x : ByteArray} {l : List Cd} (h : OkD m (.mk k n x l)) : partErr k (bs n) (bs x) l.length = 0 := by
  cases m with
  | zero => exact h.1
  | succ m => exact h.1
theorem part_kind {k : Int} {n x : Str} {m : Nat} (h : partErr k n x m = 0) : 1 ≤ k ∧ k ≤ 8 := by
  unfold partErr at h
  split at h
  · cases h
  · omega
theorem part_form {k : Int} {n x : Str} {m : Nat} (h : partErr k n x m = 0) : formBad k n x m = false := by
  have hk := part_kind h
  unfold partErr at h
  rw [if_neg (by omega)] at h
  split at h
  · cases h
  · rename_i hf; exact (Bool.not_eq_true _).mp hf
/-- what the form says of what a part does not use -/
theorem form_leaf {k : Int} {n x : Str} {m : Nat} (h : formBad k n x m = false) : (namedK k = false → n = []) ∧ (valuedK k = false → x = []) ∧ (k < 6 → m = 0) ∧ (k = 6 → m = 1) := by
  unfold formBad at h
  simp only [Bool.or_eq_false_iff, Bool.and_eq_false_iff, Bool.not_eq_false', decide_eq_false_iff_not, List.isEmpty_iff, decide_eq_true_eq] at h
  obtain ⟨⟨⟨h1, h2⟩, h3⟩, h4⟩ := h
  refine ⟨fun e => ?_, fun e => ?_, fun e => ?_, fun e => ?_⟩
  · rcases h1 with h | h
    · rw [e] at h; cases h
    · exact h
  · rcases h2 with h | h
    · rw [e] at h; cases h
    · exact h
  · rcases h3 with h | h <;> omega
  · rcases h4 with h | h
    · exact absurd e h
    · exact h

/-! ### The words of a condition's text -/
end Go.Proofs.YtaobnifiengglaaGreatDoor

namespace Go.Proofs.YtaobnifiengglaaGreatDoor

theorem map_cons {W : List Wd} {a : Aw} {r : List Aw} (h : W.map Wd.ab = a :: r) : ∃ d V, W = d :: V ∧ d.ab = a ∧ V.map Wd.ab = r := by
  obtain ⟨d, V, rfl, h1, h2⟩ := List.map_eq_cons_iff.1 h
  exact ⟨d, V, rfl, h1, h2⟩
end Go.Proofs.YtaobnifiengglaaGreatDoor

namespace Go.Proofs.YtaobnifiengglaaGreatDoor

end Go.Proofs.YtaobnifiengglaaGreatDoor

namespace Go.Proofs.YtaobnifiengglaaGreatDoor

theorem firstE_zero : ∀ {l : List (Cd × Nat)}, firstErr l = 0 → ∀ p ∈ l, partC p.1 = 0
  | q :: r, h, p, hp => by
    rw [firstErr] at h
    by_cases hq : partC q.1 = 0
    · rw [if_pos hq] at h
      rcases List.mem_cons.1 hp with rfl | hp
      · exact hq
      · exact firstE_zero h p hp
    · rw [if_neg hq] at h; exact absurd h hq
theorem prts_mem (lev : Nat) : ∀ {l : List Cd} {c : Cd}, c ∈ l → ∀ p ∈ prt lev c, p ∈ prts lev l
  | d :: l, c, h, p, hp => by
    rw [prts, List.mem_append]
    rcases List.mem_cons.1 h with rfl | h
    · exact .inl hp
    · exact .inr (prts_mem lev h p hp)
theorem ok_levels : ∀ (m lev : Nat) (c : Cd), lev + m = 100 → (∀ p ∈ prt lev c, partC p.1 = 0 ∧ p.2 ≤ 20) → OkD m c := by
  intro m
  induction m with
  | zero =>
    intro lev c hl h
    obtain ⟨k, n, x, l⟩ := c
    have := (h (.mk k n x l, lev) (by rw [prt]; simp)).2
    dsimp only at this
    omega
  | succ m ih =>
    intro lev c hl h
    obtain ⟨k, n, x, l⟩ := c
    refine ⟨(h (.mk k n x l, lev) (by rw [prt]; simp)).1, fun c hc => ih (lev + 1) c (by omega) fun p hp => h p ?_⟩
    rw [prt, List.mem_cons]
    exact .inr (prts_mem (lev + 1) hc p hp)
theorem ok_of_check {c : Cd} (h : checkC c = 0) : OkD 100 c := by
  unfold checkC at h
  by_cases h1 : 100 < cnt c
  · rw [if_pos h1] at h; cases h
  rw [if_neg h1] at h
  by_cases h2 : firstErr (prt 0 c) = 0
  · rw [if_neg (by simpa using h2)] at h
    by_cases h3 : (prt 0 c).any (fun p => decide (20 < p.2)) = true
    · rw [if_pos h3] at h; cases h
    · refine ok_levels 100 0 c rfl fun p hp => ⟨firstE_zero h2 p hp, ?_⟩
      refine Nat.le_of_not_lt fun hlt => h3 (List.any_eq_true.2 ⟨p, hp, decide_eq_true hlt⟩)
  · rw [if_pos h2] at h; exact absurd h h2
end Go.Proofs.YtaobnifiengglaaGreatDoor

namespace Go.Proofs.YtaobnifiengglaaGreatDoor

theorem strict_ext {α : Type} {lt : α → α → Prop} (irr : ∀ a, ¬ lt a a) (tr : ∀ a b c, lt a b → lt b c → lt a c) : ∀ {a b : List α}, a.Pairwise lt → b.Pairwise lt → (∀ x, x ∈ a ↔ x ∈ b) → a = b
  | [], [], _, _, _ => rfl
  | [], y :: b, _, _, h => absurd ((h y).2 (by simp)) (by simp)
  | x :: a, [], _, _, h => absurd ((h x).1 (by simp)) (by simp)
  | x :: a, y :: b, ha, hb, h => by
    obtain ⟨ha1, ha2⟩ := List.pairwise_cons.1 ha
    obtain ⟨hb1, hb2⟩ := List.pairwise_cons.1 hb
    have hxy : x = y := by
      rcases List.mem_cons.1 ((h x).1 (by simp)) with e | hx
      · exact e
      · rcases List.mem_cons.1 ((h y).2 (by simp)) with e | hy
        · exact e.symm
        · exact absurd (tr _ _ _ (ha1 y hy) (hb1 x hx)) (irr x)
    subst hxy
    rw [strict_ext irr tr ha2 hb2 fun z => ⟨fun hz => ?_, fun hz => ?_⟩]
    · rcases List.mem_cons.1 ((h z).1 (by simp [hz])) with rfl | h2
      · exact absurd (ha1 _ hz) (irr _)
      · exact h2
    · rcases List.mem_cons.1 ((h z).2 (by simp [hz])) with rfl | h2
      · exact absurd (hb1 _ hz) (irr _)
      · exact h2
/-- an ordered list without its doubles -/
def oneEach {α : Type} [DecidableEq α] : List α → List α
  | [] => []
  | [a] => [a]
  | a :: b :: l => if a = b then oneEach (b :: l) else a :: oneEach (b :: l)
theorem oneEach_mem {α : Type} [DecidableEq α] : ∀ (l : List α) (x : α), x ∈ oneEach l ↔ x ∈ l
  | [], _ => Iff.rfl
  | [a], _ => Iff.rfl
  | a :: b :: l, x => by
    rw [oneEach]
    by_cases h : a = b
    · rw [if_pos h, oneEach_mem (b :: l) x]
      subst h
      simp
    · rw [if_neg h, List.mem_cons, oneEach_mem (b :: l) x, List.mem_cons (a := x) (b := a)]
theorem oneEach_strict {α : Type} [DecidableEq α] {le lt : α → α → Prop} (hlt : ∀ a b, le a b → a ≠ b → lt a b) (htr : ∀ a b c, lt a b → le b c → lt a c) : ∀ (l : List α), l.Pairwise le → (oneEach l).Pairwise lt
  | [], _ => List.Pairwise.nil
  | [a], _ => List.pairwise_singleton _ _
  | a :: b :: l, h => by
    obtain ⟨h1, h2⟩ := List.pairwise_cons.1 h
    have ih := oneEach_strict hlt htr (b :: l) h2
    rw [oneEach]
    by_cases e : a = b
    · rw [if_pos e]; exact ih
    · rw [if_neg e]
      refine List.pairwise_cons.2 ⟨fun x hx => ?_, ih⟩
      have hab := hlt a b (h1 b (by simp)) e
      rcases List.mem_cons.1 ((oneEach_mem (b :: l) x).1 hx) with rfl | hx
      · exact hab
      · exact htr a b x hab ((List.pairwise_cons.1 h2).1 x hx)

/-! ### What a condition uses -/
abbrev wFactS : Str := [102, 97, 99, 116, 32]
abbrev wSettingS : Str := [115, 101, 116, 116, 105, 110, 103, 32]
def useOf (c : Cd) : List Str := if c.kind = 2 ∨ c.kind = 5 then [wFactS ++ bs c.name] else if c.kind = 3 ∨ c.kind = 4 then [wSettingS ++ bs c.name] else []
/-- all of them, in the order of the parts -/
def useAll (c : Cd) : List Str := (prt 0 c).flatMap fun p => useOf p.1
end Go.Proofs.YtaobnifiengglaaGreatDoor
