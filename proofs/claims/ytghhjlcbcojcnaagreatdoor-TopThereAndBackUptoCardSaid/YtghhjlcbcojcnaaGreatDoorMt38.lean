/- Settings that are carried, in plain words. Contract of migrate.Carry. Moves among the arguments. -/
import Derived.Test.YtghhjlcbcojcnaaGreatDoorMt35
import Derived.Test.YtghhjlcbcojcnaaGreatDoorMt31
import Derived.Test.YtghhjlcbcojcnaaGreatDoorMt37
import Derived.Test.YtghhjlcbcojcnaaGreatDoorMt32
import Derived.Test.YtghhjlcbcojcnaaGreatDoorMt13
import Derived.Deep.Strs

namespace Go.Proofs.YtghhjlcbcojcnaaGreatDoor
open Go.RowKit

theorem okP_lt {V : Type} {n : Nat} {has : Nat → V → Bool} {tgt : Nat → V} : ∀ (q : List Nat) (v : V), okP n has tgt v q → ∀ i ∈ q, i < n
  | [], _, _, _, hi => by cases hi
  | a :: r, v, h, i, hi => by
    rcases List.mem_cons.1 hi with rfl | hi
    · exact h.1
    · exact okP_lt r _ h.2.2 i hi
theorem parse_right {s : Str} (h : (parseRu s).2 = 0) : ruErr (parseRu s).1 = 0 := by
  unfold parseRu at h ⊢
  by_cases h1 : 4000 < s.length
  · rw [if_pos h1] at h; cases h
  · rw [if_neg h1] at h ⊢
    cases hc : candP s with
    | none => rw [hc] at h; cases h
    | some r =>
      rw [hc] at h
      dsimp only at h ⊢
      by_cases h2 : ruErr r ≠ 0
      · rw [if_pos h2] at h; exact absurd h h2
      · rw [if_neg h2] at h ⊢
        exact Classical.not_not.1 h2
theorem mvR_right {m : Mv} (h : firstI (mvE m) = 0) : mvQ m = mvR m ∧ ∀ r ∈ mvR m, ruErr r = 0 := by
  refine ⟨by rw [mvQ, if_pos h], fun r hr => ?_⟩
  obtain ⟨s, hs, rfl⟩ := List.mem_map.1 hr
  exact parse_right (firstI_all h _ (List.mem_map.2 ⟨s, hs, rfl⟩))
theorem mvR_back (m : Mv) : ((mvR m).map Ru.b).map RB.l = mvR m := by
  rw [List.map_map]
  have : (RB.l ∘ Ru.b) = id := funext fun r => Ru.b_l r
  rw [this, List.map_id]
theorem mvR_small {m : Mv} (h : ∀ r ∈ mvR m, ruErr r = 0) : SmallU ((mvR m).map Ru.b) := fun q hq => by
  obtain ⟨r, hr, rfl⟩ := List.mem_map.1 hq
  obtain ⟨a, b, c, d⟩ := right_size (r := r.b) (by rw [Ru.b_l]; exact h r hr)
  exact ⟨by omega, by omega, by omega, by omega⟩
/-- what the rules of the move of a number do -/
noncomputable def carStep (ms : List Mv) (st : Int × List Se) (i : Nat) : Int × List Se :=
  if st.1 = 0 then (match ms[i]? with | some m => (runR st.2 (mvR m), runS st.2 (mvR m)) | none => st) else st
noncomputable def carK (ms : List Mv) (es : List Se) (P : List Nat) (k : Nat) : Int × List Se := (P.take k).foldl (carStep ms) (runR es [], runS es [])
noncomputable def carE (ms : List Mv) (es : List Se) (v0 vt : V4) : Int := if wayR ms v0 vt = 0 then (carK ms es (wayL ms v0 vt) (wayL ms v0 vt).length).1 else wayR ms v0 vt
noncomputable def carS (ms : List Mv) (es : List Se) (v0 vt : V4) : List Se := if carE ms es v0 vt = 0 then (carK ms es (wayL ms v0 vt) (wayL ms v0 vt).length).2 else []
theorem carK_zero (ms : List Mv) (es : List Se) (P : List Nat) : carK ms es P 0 = (runR es [], runS es []) := rfl
theorem carK_succ {ms : List Mv} {es : List Se} {P : List Nat} {k i : Nat} (h : P[k]? = some i) : carK ms es P (k + 1) = carStep ms (carK ms es P k) i := by
  unfold carK
  rw [take_next h, List.foldl_append]
  rfl
theorem carStep_ok {ms : List Mv} {st : Int × List Se} {i : Nat} (h : i < ms.length) (h0 : st.1 = 0) : carStep ms st i = (runR st.2 (mvR ms[i]), runS st.2 (mvR ms[i])) := by
  unfold carStep
  rw [if_pos h0, List.getElem?_eq_getElem h]
theorem carStep_bad {ms : List Mv} {st : Int × List Se} {i : Nat} (h0 : ¬ st.1 = 0) : carStep ms st i = st := by rw [carStep, if_neg h0]
theorem carK_stay {ms : List Mv} {es : List Se} {P : List Nat} {k : Nat} (h : ¬ (carK ms es P k).1 = 0) : ∀ d, k + d ≤ P.length → carK ms es P (k + d) = carK ms es P k
  | 0, _ => rfl
  | d + 1, hd => by
    have ih := carK_stay h d (by omega)
    have hk : k + d < P.length := by omega
    rw [← Nat.add_assoc, carK_succ (List.getElem?_eq_getElem hk), ih, carStep_bad h]
/-- what is carried so far is small and right -/
theorem carK_out (ms : List Mv) (es : List Se) (P : List Nat) : ∀ k, k ≤ P.length → (∀ i ∈ P, i < ms.length) → (carK ms es P k).2.length ≤ 2000 ∧ SmallE (carK ms es P k).2 ∧ seErr pathL (carK ms es P k).2 = 0
  | 0, _, _ => run_out es []
  | k + 1, hk, hP => by
    have ih := carK_out ms es P k (by omega) hP
    rw [carK_succ (List.getElem?_eq_getElem (show k < P.length by omega))]
    by_cases h0 : (carK ms es P k).1 = 0
    · rw [carStep_ok (hP _ (List.getElem_mem _)) h0]
      exact run_out _ _
    · rw [carStep_bad h0]; exact ih
theorem way_lt {ms : List Mv} {v0 vt : V4} : ∀ i ∈ wayL ms v0 vt, i < ms.length := fun i hi => by
  unfold wayL at hi
  by_cases h : wayR ms v0 vt = 0
  · rw [if_pos h] at hi
    cases hp : wayP ms v0 vt with
    | none => rw [hp] at hi; simp at hi
    | some p =>
      rw [hp, Option.getD_some] at hi
      have hb : ∃ p, BestW ms v0 vt p := by
        by_cases hb : ∃ p, BestW ms v0 vt p
        · exact hb
        · unfold wayP at hp; rw [dif_neg hb] at hp; cases hp
      obtain ⟨q, hq⟩ := hb
      rw [wayP_some hq] at hp
      cases hp
      exact okP_lt _ v0 hq.ok i hi
  · rw [if_neg h] at hi; cases hi
theorem way_len {ms : List Mv} {v0 vt : V4} : (wayL ms v0 vt).length ≤ ms.length := by
  unfold wayL
  by_cases h : wayR ms v0 vt = 0
  · rw [if_pos h]
    cases hp : wayP ms v0 vt with
    | none => simp
    | some p =>
      rw [Option.getD_some]
      have hb : ∃ p, BestW ms v0 vt p := by
        by_cases hb : ∃ p, BestW ms v0 vt p
        · exact hb
        · unfold wayP at hp; rw [dif_neg hb] at hp; cases hp
      obtain ⟨q, hq⟩ := hb
      rw [wayP_some hq] at hp
      cases hp
      exact hq.len
  · rw [if_neg h]; exact Nat.zero_le _
theorem wayR_ok {ms : List Mv} {v0 vt : V4} (h : wayR ms v0 vt = 0) : wayE ms v0 vt = 0 := by
  unfold wayR at h
  by_cases h1 : wayE ms v0 vt = 0
  · exact h1
  · rw [if_neg h1] at h; exact absurd h h1
theorem carE_bad {ms : List Mv} {es : List Se} {v0 vt : V4} (h : ¬ wayR ms v0 vt = 0) : carE ms es v0 vt = wayR ms v0 vt ∧ carS ms es v0 vt = [] := by
  have e : carE ms es v0 vt = wayR ms v0 vt := by rw [carE, if_neg h]
  exact ⟨e, by rw [carS, e, if_neg h]⟩
theorem carE_way {ms : List Mv} {es : List Se} {v0 vt : V4} (h : wayR ms v0 vt = 0) : carE ms es v0 vt = (carK ms es (wayL ms v0 vt) (wayL ms v0 vt).length).1 := by rw [carE, if_pos h]
theorem carS_bad {ms : List Mv} {es : List Se} {v0 vt : V4} (h : ¬ carE ms es v0 vt = 0) : carS ms es v0 vt = [] := by rw [carS, if_neg h]
theorem carS_ok {ms : List Mv} {es : List Se} {v0 vt : V4} (h : carE ms es v0 vt = 0) : carS ms es v0 vt = (carK ms es (wayL ms v0 vt) (wayL ms v0 vt).length).2 := by rw [carS, if_pos h]
/-- ahead of the rules: the error of settings, and how many -/
theorem run_none (es : List Se) : runR es [] = firstI [seErr pathL es, (if 2000 < es.length then 4 else 0)] := by
  have e : runErr es [] = firstI [seErr pathL es, (if 2000 < es.length then 4 else 0)] := by
    unfold runErr
    by_cases h : 2000 < es.length
    · simp [h]
    · simp [h]
  unfold runR
  by_cases h : runErr es [] = 0
  · rw [if_pos h, ← e, h]; rfl
  · rw [if_neg h, e]
end Go.Proofs.YtghhjlcbcojcnaaGreatDoor

namespace Go.Proofs.YtghhjlcbcojcnaaGreatDoor
open Go.RowKit

set_option maxHeartbeats 16000000 in
set_option maxRecDepth 100000 in
theorem Carry_any (es : List Se) (ms : List Mv) (A A2 : Option Addr) (n m c c2 : Nat) (v0 vt : V4) (w : World) (hg : GoodN w) (hn : es.length = n) (hm : ms.length = m) (hr : RdE w A es) (hr2 : RdM w A2 ms) (hs : SmallE es) (hs2 : ∀ x ∈ ms, SmallM x) (h0 : v0.a.size ≤ 2097152) (ht : vt.a.size ≤ 2097152) (hl : n ≤ 2097152) (hl2 : m ≤ 2097152) :
    Calls Tryz.prog 67 #[.slice A n c, .slice A2 m c2, verV v0, verV vt] w fun e w' => ∃ v, e = .returned (.tuple #[v, .int .i64 (carE ms es v0 vt)]) ∧ SeOwn w.heap.size (carS ms es v0 vt) v w' ∧ Ext w w' := by
  have CW := Lib.hid (fun W (h : Ext w W) => Way_any ms A2 m c2 v0 vt W (hg.ext h) hm (hr2.ext h) hs2 h0 ht hl2)
  have CR0 := Lib.hid (fun W (h : Ext w W) => Run_any A none n 0 c 0 es [] W (hg.ext h) hn rfl (hr.ext h) (fun h => absurd rfl h) hs (fun _ h => by cases h) hl (by omega))
  have bF := (Blk.new w 35 #[.int .i64 v0.a1, .int .i64 v0.a2, .int .i64 v0.a3, .string v0.a]).alloc (.cells #[.int .i64 vt.a1, .int .i64 vt.a2, .int .i64 vt.a3, .string vt.a] 35)
  have bT := Blk.new (w.alloc (.cells #[.int .i64 v0.a1, .int .i64 v0.a2, .int .i64 v0.a3, .string v0.a] 35)) 35 #[.int .i64 vt.a1, .int .i64 vt.a2, .int .i64 vt.a3, .string vt.a]
  rw [World.size_alloc] at bT
  have hx0 : Ext w ((w.alloc (.cells #[.int .i64 v0.a1, .int .i64 v0.a2, .int .i64 v0.a3, .string v0.a] 35)).alloc (.cells #[.int .i64 vt.a1, .int .i64 vt.a2, .int .i64 vt.a3, .string vt.a] 35)) := ((Ext.refl w).alloc _).alloc _
  have HBAD := Lib.hid (carE_bad (ms := ms) (es := es) (v0 := v0) (vt := vt))
  have HWAY := Lib.hid (carE_way (ms := ms) (es := es) (v0 := v0) (vt := vt))
  have HSB := Lib.hid (carS_bad (ms := ms) (es := es) (v0 := v0) (vt := vt))
  have HSO := Lib.hid (carS_ok (ms := ms) (es := es) (v0 := v0) (vt := vt))
  have HPL := Lib.hid (way_lt (ms := ms) (v0 := v0) (vt := vt))
  have HPN := Lib.hid (way_len (ms := ms) (v0 := v0) (vt := vt))
  have HWE := Lib.hid (fun h => (wayE_parts (wayR_ok (ms := ms) (v0 := v0) (vt := vt) h)))
  generalize carE ms es v0 vt = E at *
  generalize carS ms es v0 vt = S' at *
  generalize wayR ms v0 vt = R at *
  generalize wayL ms v0 vt = P at *
  have HR := Lib.hid hr2
  have HM := Lib.hid hm
  have HGD := Lib.hid hg
  have HSM := Lib.hid hs2
  have HK0 := Lib.hid (carK_zero ms es P)
  have HKS := Lib.hid (fun k i (h : P[k]? = some i) => carK_succ (ms := ms) (es := es) h)
  have HKO := Lib.hid (fun k (h : k ≤ P.length) => carK_out ms es P k h HPL.out)
  have HKB := Lib.hid (fun k (h : ¬ (carK ms es P k).1 = 0) d => carK_stay h d)
  generalize carK ms es P = K at *
  obtain ⟨p1, p2, p3, pa⟩ := v0
  obtain ⟨q1, q2, q3, qa⟩ := vt
  dsimp only [verV] at *
  generalize hW : (w.alloc (.cells #[.int .i64 p1, .int .i64 p2, .int .i64 p3, .string pa] 35)).alloc (.cells #[.int .i64 q1, .int .i64 q2, .int .i64 q3, .string qa] 35) = W0 at *
  have HW := Lib.hid hW
  clear hn hm hr hr2 hs hs2 hg hW
  have cF := bF.cell; have cT := bT.cell
  go_enter Tryz.func67, Tryz.ntmps67
  go_wp2_with fail
  rw [HW.out]
  refine (CW.out _ hx0).mono ?_
  rintro e w1 ⟨u, rfl, hu, hx1⟩
  have hx01 := hx0.trans hx1
  obtain ⟨A3, c3, rfl, hcu⟩ := hu.form
  clear hu cF cT
  by_cases hR : R = 0
  rotate_left
  · obtain ⟨e1, e2⟩ := HBAD.out hR
    have hne : (R != 0) = true := by rw [bne_iff_ne]; exact hR
    subst e1
    have HE2 := Lib.hid e2
    clear hR hcu e2
    go_wp2
    go_ret2
    exact ⟨.slice none 0 0, rfl, by rw [HE2.out]; exact World.ownsRow_nil _ _ _ _, hx01⟩
  have HWR := Lib.hid (HWE.out hR)
  have HW2 := Lib.hid (HWAY.out hR)
  subst hR
  obtain ⟨N, hN⟩ : ∃ N, P.length = N := ⟨_, rfl⟩
  rw [hN]
  rw [hN] at HW2 HSO HKO HPN HKB
  have HN := Lib.hid hN
  have HCU := Lib.hid hcu
  clear hN hcu HBAD HWAY HWE
  have hNb : N ≤ 200 := by have h1 := HPN.out; have h2 := HWR.out.1; omega
  go_wp2_with fail
  refine (CR0.out _ hx01).mono ?_
  rw [show runR es (([] : List RB).map RB.l) = (K 0).1 from by rw [HK0.out]; rfl, show runS es (([] : List RB).map RB.l) = (K 0).2 from by rw [HK0.out]; rfl]
  rintro e w2 ⟨v2, rfl, hown2, hx2⟩
  have hx02 := hx01.trans hx2
  have hown2 : SeOwn w.heap.size (K 0).2 v2 w2 := tab_base hown2 hx01.size
  go_wp2
  go_loopw [34, 12, 11] (fun i s12 s11 wr => ∃ (k : Nat) (v : Value), k ≤ N ∧ i = .int .i64 k ∧ v = s12 ∧ s11 = .int .i64 (K k).1 ∧ SeOwn w.heap.size (K k).2 v wr ∧ Ext w1 wr) (fun i _ _ _ => N - (intOf i).toNat)
  case atStart => exact ⟨0, _, Nat.zero_le _, rfl, rfl, rfl, hown2, hx2⟩
  case round =>
    clear hown2 hx02 hx2
    obtain ⟨k, v, hk, rfl, rfl, hs11, hown, hxr⟩ := hrel
    obtain ⟨wo, rfl⟩ : ∃ wo : World, wo = wr := ⟨_, rfl⟩
    have hxwr := hx01.trans hxr
    obtain ⟨E1, hE1⟩ : ∃ E1, (K k).1 = E1 := ⟨_, rfl⟩
    rw [hE1] at hs11
    subst hs11
    have HE1 := Lib.hid hE1
    clear hE1
    by_cases hlt : k < N
    · have hk1 : k < P.length := by rw [HN.out]; exact hlt
      have hPk := List.getElem?_eq_getElem hk1
      have HPL2 := HPL.out _ (List.getElem_mem hk1)
      obtain ⟨g, rfl, hcell⟩ := HCU.out (fun e => by rw [e] at hk1; exact absurd hk1 (Nat.not_lt_zero _))
      have y0 := hxr.cell (hcell k hk1)
      have hks := HKS.out k _ hPk
      have HKT := Lib.hid (fun (h0 : E1 = 0) => hks.trans (carStep_ok HPL2 (HE1.out.trans h0)))
      have HKX := Lib.hid (fun (h0 : ¬ E1 = 0) => HKB.out k (by rw [HE1.out]; exact h0) (N - k) (by omega))
      obtain ⟨hko1, hko2, hko3⟩ := HKO.out k hk
      have hmp := mvErr_parts (HWR.out.2.1 _ (List.getElem_mem HPL2))
      have hrt := mvR_right hmp.2.2.2
      obtain ⟨b, o, rfl, hX⟩ := (HR.out.ext hxwr) (fun e => by rw [e] at HPL2; exact absurd HPL2 (Nat.not_lt_zero _))
      obtain ⟨A4, c4, A5, c5, hrow⟩ := hX _ HPL2
      have x0 := hrow.r0; have x1 := hrow.r1; have x2 := hrow.r2; have x3 := hrow.r3; have x4 := hrow.r4; have x5 := hrow.r5
      have hin := hrow.has
      have CU := Lib.hid (fun W (h : Ext wo W) => rulesOf_any ms[P[k]] A4 A5 c4 c5 W (HGD.out.toGood.ext (hxwr.trans h)) (hin.ext h) (HSM.out _ (List.getElem_mem HPL2)))
      rw [hrt.1, hmp.2.2.2] at CU
      have CR := Lib.hid (fun W (h : Ext wo W) A6 c6 A7 c7 (hA : RdE W A6 (K k).2) (hB : RdU W A7 ((mvR ms[P[k]]).map Ru.b)) => Run_any A6 A7 (K k).2.length (mvR ms[P[k]]).length c6 c7 (K k).2 ((mvR ms[P[k]]).map Ru.b) W (HGD.out.ext (hxwr.trans h)) rfl (by simp) hA hB hko2 (mvR_small hrt.2) (by omega) (by rw [mvR_length]; omega))
      rw [mvR_back] at CR
      have hpk200 : P[k] < m := by rw [← HM.out]; exact HPL2
      generalize P[k] = pk at *
      generalize mvR ms[pk] = X at *
      generalize ms[pk] = mm at *
      obtain ⟨fr, ⟨t1, t2, t3, ta⟩, rules⟩ := mm
      dsimp only [mvV] at x0 x1 x2 x3 x4 x5 CU
      generalize fr.length = fl at *
      generalize rules.length = rl at *
      generalize (K k).2 = Es at *
      clear hX hrow hin hks hPk hko1 hko2 hko3 hrt hmp hcell
      by_cases h0 : E1 = 0
      · have HK1 := Lib.hid (HKT.out h0)
        rw [show runR Es X = (K (k + 1)).1 from by rw [HK1.out], show runS Es X = (K (k + 1)).2 from by rw [HK1.out]] at CR
        subst h0
        obtain ⟨A6, c6, rfl, hcap6, hr6⟩ := hown.rd
        have HR6 := Lib.hid hr6
        generalize Es.length = el at *
        clear hown hcap6 hr6
        go_wp2_with fail
        refine (CU.out _ (Ext.refl _)).mono ?_
        rintro e w3 ⟨A7, c7, rfl, hr7, hx3⟩
        go_wp2_with fail
        refine (CR.out _ hx3 A6 c6 A7 c7 (HR6.out.ext hx3) hr7).mono ?_
        rintro e w4 ⟨v4, rfl, hown4, hx4⟩
        have hs3 := (hxwr.trans hx3).size
        have hown4 : SeOwn w.heap.size (K (k + 1)).2 v4 w4 := tab_base hown4 hs3
        have hxr4 := hxr.trans (hx3.trans hx4)
        clear hs3
        go_wp2
        go_roundw
        case rel => exact ⟨k + 1, v4, by omega, by go_num, rfl, rfl, hown4, hxr4⟩
        case measure => simp [intOf]; omega
      · have hkn := HKX.out h0
        rw [show k + (N - k) = N from by omega] at hkn
        have HEE := Lib.hid (show E = E1 from by rw [HW2.out, hkn, HE1.out])
        have HS2 := Lib.hid (HSB.out (by rw [HEE.out]; exact h0))
        have hne : (E1 != 0) = true := by rw [bne_iff_ne]; exact h0
        clear hkn h0 hown
        go_wp2
        go_ret2
        exact ⟨.slice none 0 0, by rw [HEE.out] <;> rfl, by rw [HS2.out]; exact World.ownsRow_nil _ _ _ _, hxwr⟩
    · obtain rfl : k = N := by omega
      have HEE := Lib.hid (show E = E1 from HW2.out.trans HE1.out)
      by_cases h0 : E1 = 0
      · have HS2 := Lib.hid (HSO.out (HEE.out.trans h0))
        subst h0
        have HOW := Lib.hid hown
        clear hown
        go_wp2
        go_ret2
        exact ⟨v, by rw [HEE.out] <;> rfl, by rw [HS2.out]; exact HOW.out, hxwr⟩
      · have HS2 := Lib.hid (HSB.out (by rw [HEE.out]; exact h0))
        have hne : (E1 != 0) = true := by rw [bne_iff_ne]; exact h0
        clear h0 hown
        go_wp2
        go_ret2
        exact ⟨.slice none 0 0, by rw [HEE.out] <;> rfl, by rw [HS2.out]; exact World.ownsRow_nil _ _ _ _, hxwr⟩
end Go.Proofs.YtghhjlcbcojcnaaGreatDoor

namespace Go.Proofs.YtghhjlcbcojcnaaGreatDoor
open Go.ChangeShapes Go.WideShapes Go.ChangeAt Go.RowKit Go.WideElems Go.Joins

instance : Inhabited Mv := ⟨⟨[], default, []⟩⟩
/-- what a move's cells say -/
def MvCells (W : World) (m : Mv) (cs : List Value) : Prop := ∃ A c A2 c2, cs = [.slice A m.fr.length c, .int .i64 m.tt.a1, .int .i64 m.tt.a2, .int .i64 m.tt.a3, .string m.tt.a, .slice A2 m.rules.length c2] ∧ MvIn W m A A2
def mvBk (m : Mv) : Nat := (m.fr.map fun s => s.f.a.size + s.t.a.size + 10).sum + m.tt.a.size + (m.rules.map fun s => s.size + 1).sum + 6
theorem rdX_row {W : World} {A : Option Addr} {v : List ByteArray} (h : RowOf (fun _ (s : ByteArray) cs => cs = [.string s]) 1 W A v) : RdX W A v := fun hn => by
  obtain ⟨b, o, rfl, hc⟩ := h hn
  refine ⟨b, o, rfl, fun k hk => ?_⟩
  obtain ⟨ecs, rfl, _, hj⟩ := hc k hk
  have := hj 0 (by omega)
  rw [Nat.mul_one, Nat.add_zero] at this
  exact this
set_option maxRecDepth 100000 in
theorem opens_move : Opens 104 MvCells mvBk := fun H enc W fuel cs x h => by
  obtain ⟨y0, y1, y2, n, rfl, hl, h0, h1, h2⟩ := Go.Deep.trod_struct3 Tryz.underlying104 h
  have hc : Tryz.prog.cellsOf 104 = 6 := by kernel_rfl
  have cr : Tryz.prog.cellsOf 51 = 1 := by kernel_rfl
  have cv : Tryz.prog.cellsOf 35 = 4 := by kernel_rfl
  have csl : Tryz.prog.cellsOf 102 = 1 := by kernel_rfl
  have cst : Tryz.prog.cellsOf 9 = 1 := by kernel_rfl
  rw [hc] at hl
  match cs, hl with
  | [c0, c1, c2, c3, c4, c5], _ =>
    dsimp only at h0 h1 h2
    rw [cr] at h0
    rw [cv] at h1
    rw [csl] at h2
    obtain ⟨fr, ⟨A, c, e0, hf⟩, b0⟩ := opens_range H enc W n _ _ h0
    obtain ⟨t, e1, b1⟩ := opens_ver H enc W n _ _ h1
    obtain ⟨v, ⟨A2, cc, e2, hr⟩, b2⟩ := opens_slice (sz := 1) Tryz.underlying102 cst (by decide) (opens_string Tryz.underlying9) H enc W n _ _ h2
    simp at e0 e1 e2
    obtain ⟨rfl, rfl, rfl, rfl⟩ := e1
    subst e0 e2
    refine ⟨⟨fr, t, v⟩, ⟨A, c, A2, cc, rfl, hf, rdX_row hr⟩, ?_⟩
    unfold mvBk
    dsimp only at b0 b1 b2 ⊢
    simp only [Rows.uptoBulk, Rows.uptoBulkAll]
    omega
theorem rowOf_moves {W : World} {A : Option Addr} {l : List Mv} (h : RowOf MvCells 6 W A l) : RdM W A l := fun hne => by
  obtain ⟨b, o, rfl, hc⟩ := h hne
  refine ⟨b, o, rfl, fun k hk => ?_⟩
  obtain ⟨ecs, ⟨A', c', A2, c2, rfl, hv⟩, _, hj⟩ := hc k hk
  exact ⟨A', c', A2, c2, hj 0 (by omega), hj 1 (by omega), hj 2 (by omega), hj 3 (by omega), hj 4 (by omega), hj 5 (by omega), hv⟩
set_option maxRecDepth 100000 in
/-- moves, of a bulk -/
theorem open_moves {H : Type} {enc : TypeId × Value → H} {W : World} {base : Nat} {v : Value} {d : DataW H} {p : List MemPlace} (hv : Value.okWide Tryz.prog W .any base 92 v) (h : DataW.Trod enc Tryz.prog W 0 (fun _ => true) true 92 v d p) :
    ∃ A c l, v = .slice A l.length c ∧ RdM W A l ∧ (∀ x ∈ l, mvBk x ≤ Rows.uptoBulk d) ∧ l.length ≤ Rows.uptoBulk d := by
  obtain ⟨a, len, cap, rfl⟩ := okWide_slice Tryz.underlying92 hv
  obtain ⟨fuel, hf⟩ := h
  obtain ⟨l, ⟨A, c, e, hr⟩, hb⟩ := opens_slice (sz := 6) Tryz.underlying92 (by kernel_rfl) (by decide) opens_move H enc W fuel _ _ hf
  refine ⟨A, c, l, ?_, rowOf_moves hr, fun s hs => ?_, ?_⟩
  · have e : [Value.slice a len cap] = [.slice A l.length c] := e
    injection e
  · have := sum_mem (bk := mvBk) hs
    dsimp only at hb
    omega
  · have := sum_len (bk := mvBk) (c := 1) (fun d => by unfold mvBk; omega) l
    dsimp only at hb
    omega
theorem small_move {m : Mv} {n : Nat} (hn : n ≤ 1048576) (h : mvBk m ≤ n) : SmallM m := by
  unfold mvBk at h
  have h2 := sum_len (bk := fun s : Sp => s.f.a.size + s.t.a.size + 10) (c := 1) (fun s => by omega) m.fr
  have h3 := sum_len (bk := fun s : ByteArray => s.size + 1) (c := 1) (fun s => by omega) m.rules
  refine ⟨fun x hx => ?_, by omega, by omega, by omega, fun x hx => ?_⟩
  · have h4 := sum_mem (bk := fun s : Sp => s.f.a.size + s.t.a.size + 10) hx
    exact ⟨by omega, by omega⟩
  · have h4 := sum_mem (bk := fun s : ByteArray => s.size + 1) hx
    omega
end Go.Proofs.YtghhjlcbcojcnaaGreatDoor
