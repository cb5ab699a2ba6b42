/- Contract of ver.Common. -/
import Derived.Test.YtcmceeihdhcmnaaGreatDoorRm35
import Derived.Test.YtcmceeihdhcmnaaGreatDoorRm26

namespace Go.Proofs.YtcmceeihdhcmnaaGreatDoor
open Go.RowKit

section
variable {P : Program}
/-- 'v = append(v, x)', x laid into a new block just ahead; what lies elsewhere than the row stays -/
theorem wpList_app1f {ops : Array Oper} {rest : List Oper} {o : Oper} {a : Act} {Q : Exit → Act → World → Prop} (wr : World) (cs : Array Value) (e : TypeId) (hgd : o.guard = none) (s x : Operand) (t : TypeId)
    (ho : o.op = .call { callee := .builtin .append, args := #[s, x], argTypes := #[t, t] })
    (z : Value) (size bytes : Nat) (ht : P.underlying t = some (.slice e)) (hinfo : (P.info? e).map (fun i => (i.zero, i.size, i.bytes)) = some (some z, size, bytes)) (hzs : z.cells.size = size) (hsz : 0 < size) (hby : bytes ≤ 1000)
    (B : Nat) (v : Value) (n : Nat) (xs : List Value) (hs : a.eval s = v) (hown : wr.ownsRow B e size v n xs)
    (c gA : Nat) (hx : a.eval x = .slice (some ⟨gA, 0, none⟩) 1 c) (hgA : wr.heap.size = gA) (hcs : cs.size = size) (h1 : ∀ u ∈ cs.toList, u.oneCell' = true) (hn : n ≤ 100000000) (hbase : B ≤ wr.heap.size)
    (h : ∀ v' w', w'.ownsRow B e size v' (n + 1) (xs ++ cs.toList) → (∀ a', Ext a' wr → a'.heap.size ≤ B → Ext a' w') → (∀ g t' ds, Blk wr g t' ds → v.ownBlock ≠ some g → Blk w' g t' ds) → (∀ g, g < wr.heap.size → v.ownBlock ≠ some g → v'.ownBlock ≠ some g) → wpList P ops Q rest (a.put o.dst v') w') :
    wpList P ops Q (o :: rest) a (wr.alloc (.cells cs e)) := by
  obtain ⟨i, hi, hz0, hz1, hz2⟩ := info_parts hinfo
  have hnew := Blk.new wr e cs
  refine wpList_append_own_at (wr.alloc (.cells cs e)) hgd s x t ho B e i z size bytes ht hi hz0 hz1 hz2 hzs hsz v n xs hs (hown.alloc _) ⟨wr.heap.size, 0, none⟩ 1 c cs.toList (by rw [hgA]; exact hx) (by simp [hcs]) ?_ h1 ?_ ?_ (by simp; omega) ?_
  · intro j u hu
    have hadd : (⟨wr.heap.size, 0, none⟩ : Addr).add j = ⟨wr.heap.size, j, none⟩ := by unfold Addr.add; split <;> simp_all
    rw [hadd, hnew.cell]
    simpa using hu
  · simp only [maxLen]; omega
  · have : (n + 1) * bytes ≤ 100000001 * 1000 := Nat.mul_le_mul (by omega) hby
    omega
  · intro v' w' hown' hg _ hat
    refine h v' w' hown' (fun a' ha hB => ?_) (fun g t' ds hb hne => ?_) (fun g hlt hne => ?_)
    · exact (ha.alloc _).grown (hown.alloc _) hB hg
    · exact (hg.block g (hb.alloc _).lt (fun e => hne e.symm)).trans (hb.alloc _)
    · rcases hat with e | e
      · rw [e]; exact hne
      · rw [e, World.size_alloc]
        intro e2
        injection e2 with e2
        omega
end
/-- ver.Common -/
def commonP (la lb : List Sp) : List Sp × Int := if firstI [rngErr la, rngErr lb] ≠ 0 then ([], firstI [rngErr la, rngErr lb]) else if 10 < (commonS la lb).length then ([], 4) else (commonS la lb, 0)
theorem common_bad {la lb : List Sp} (h : ¬ firstI [rngErr la, rngErr lb] = 0) : commonP la lb = ([], firstI [rngErr la, rngErr lb]) := by rw [commonP, if_pos h]
theorem common_large {la lb : List Sp} (h : firstI [rngErr la, rngErr lb] = 0) (h2 : 10 < (commonS la lb).length) : commonP la lb = ([], 4) := by rw [commonP, if_neg (by simpa using h), if_pos h2]
theorem common_ok {la lb : List Sp} (h : firstI [rngErr la, rngErr lb] = 0) (h2 : ¬ 10 < (commonS la lb).length) : commonP la lb = (commonS la lb, 0) := by rw [commonP, if_neg (by simpa using h), if_neg h2]
theorem first_two {a b : Int} (h : firstI [a, b] = 0) : a = 0 ∧ b = 0 := by
  simp only [firstI] at h
  by_cases h1 : a = 0
  · by_cases h2 : b = 0
    · exact ⟨h1, h2⟩
    · simp [h1, h2] at h
  · simp [h1] at h
/-- the spans that the inner loop has made of one span -/
def rowS (s : Sp) (lb : List Sp) (j : Nat) : List Sp := ((lb.take j).map (meetS s)).filter okS
theorem rowS_zero (s : Sp) (lb : List Sp) : rowS s lb 0 = [] := rfl
theorem rowS_succ (s : Sp) (lb : List Sp) (j : Nat) (h : j < lb.length) : rowS s lb (j + 1) = if okS (meetS s lb[j]) = true then rowS s lb j ++ [meetS s lb[j]] else rowS s lb j := by
  unfold rowS
  rw [List.take_succ_eq_append_getElem h, List.map_append, List.filter_append]
  by_cases h1 : okS (meetS s lb[j]) = true
  · rw [if_pos h1]
    simp [h1]
  · rw [if_neg h1]
    simp [h1]
theorem common_succ (la lb : List Sp) (k : Nat) (h : k < la.length) : commonS (la.take (k + 1)) lb = commonS (la.take k) lb ++ rowS la[k] lb lb.length := by
  unfold commonS rowS
  rw [List.take_succ_eq_append_getElem h, List.flatMap_append, List.take_length]
  simp
theorem row_len (s : Sp) (lb : List Sp) (j : Nat) : (rowS s lb j).length ≤ j := by
  unfold rowS
  refine Nat.le_trans (List.length_filter_le _ _) ?_
  rw [List.length_map, List.length_take]
  omega
theorem common_len (la lb : List Sp) (k : Nat) : (commonS (la.take k) lb).length ≤ k * lb.length := by
  induction k with
  | zero => simp [commonS]
  | succ k ih =>
    by_cases h : k < la.length
    · rw [common_succ la lb k h, List.length_append]
      have := row_len la[k] lb lb.length
      rw [Nat.add_mul]
      omega
    · rw [List.take_of_length_le (by omega)]
      rw [List.take_of_length_le (by omega)] at ih
      rw [Nat.add_mul]
      omega
theorem meet_small {a b : Sp} (h1 : a.f.a.size ≤ 2097152) (h2 : a.t.a.size ≤ 2097152) (h3 : b.f.a.size ≤ 2097152) (h4 : b.t.a.size ≤ 2097152) : (meetS a b).f.a.size ≤ 2097152 ∧ (meetS a b).t.a.size ≤ 2097152 := by
  unfold meetS
  dsimp only
  constructor
  · split <;> assumption
  · split <;> assumption
theorem common_small {la lb : List Sp} (ha : SmallS la) (hb : SmallS lb) : SmallS (commonS la lb) := by
  intro s hs
  unfold commonS at hs
  simp only [List.mem_flatMap, List.mem_filter, List.mem_map] at hs
  obtain ⟨a, h1, ⟨b, h2, rfl⟩, _⟩ := hs
  exact meet_small (ha a h1).1 (ha a h1).2 (hb b h2).1 (hb b h2).2
set_option maxHeartbeats 16000000 in
set_option maxRecDepth 100000 in
theorem Common_any (A B : Option Addr) (n c m d : Nat) (la lb : List Sp) (w : World) (hg : Good w) (hn : la.length = n) (ra : RdS w A la) (sa : SmallS la) (hl : n ≤ 2097152) (hm : lb.length = m) (rb : RdS w B lb) (sb : SmallS lb) (hl2 : m ≤ 2097152) :
    Calls Tryz.prog 52 #[.agg #[.slice A n c], .agg #[.slice B m d]] w (RangePost (commonP la lb) w) := by
  have HN := Lib.hid hn; have HM := Lib.hid hm
  clear hn hm
  have bL := Blk.new (((w.alloc (.cells #[.slice A n c] 51)).alloc (.cells #[.slice B m d] 51)).alloc (.cells #[.slice none 0 0] 51)) 51 #[.slice A n c, .slice B m d]
  have bA := (((Blk.new w 51 #[.slice A n c]).alloc (.cells #[.slice B m d] 51)).alloc (.cells #[.slice none 0 0] 51)).alloc (.cells #[.slice A n c, .slice B m d] 51)
  have bB := ((Blk.new (w.alloc (.cells #[.slice A n c] 51)) 51 #[.slice B m d]).alloc (.cells #[.slice none 0 0] 51)).alloc (.cells #[.slice A n c, .slice B m d] 51)
  have bR := (Blk.new ((w.alloc (.cells #[.slice A n c] 51)).alloc (.cells #[.slice B m d] 51)) 51 #[.slice none 0 0]).alloc (.cells #[.slice A n c, .slice B m d] 51)
  rw [World.size_alloc, World.size_alloc, World.size_alloc] at bL
  rw [World.size_alloc] at bB
  rw [World.size_alloc, World.size_alloc] at bR
  have hx0 : Ext w ((((w.alloc (.cells #[.slice A n c] 51)).alloc (.cells #[.slice B m d] 51)).alloc (.cells #[.slice none 0 0] 51)).alloc (.cells #[.slice A n c, .slice B m d] 51)) := ((((Ext.refl w).alloc _).alloc _).alloc _).alloc _
  have CL := Lib.hid (fun W (h : Ext w W) c0 c1 => ranges_any A B n c m d la lb (w.heap.size + 1 + 1 + 1) 2 W (hg.ext h) HN.out (ra.ext h) sa hl HM.out (rb.ext h) sb hl2 c0 c1)
  have HB := Lib.hid (common_bad (la := la) (lb := lb))
  have HLG := Lib.hid (common_large (la := la) (lb := lb))
  have HOK := Lib.hid (common_ok (la := la) (lb := lb))
  have HE := Lib.hid (first_two (a := rngErr la) (b := rngErr lb))
  have HLA := Lib.hid (fun h : rngErr la = 0 => (rng_ok h).1)
  have HLB := Lib.hid (fun h : rngErr lb = 0 => (rng_ok h).1)
  generalize firstI [rngErr la, rngErr lb] = FE at *
  go_enter Tryz.func52, Tryz.ntmps52
  go_wp2_with fail
  refine (CL.out _ hx0 (by rw [bL.cell]; rfl) (by rw [bL.cell]; rfl)).mono ?_
  rintro e w1 ⟨rfl, hx1⟩
  have hxw : Ext w w1 := hx0.trans hx1
  have bA1 := bA.ext hx1; have bB1 := bB.ext hx1; have bR1 := bR.ext hx1
  clear bL bA bB bR hx0 hx1 CL
  by_cases hr : FE = 0
  rotate_left
  · have HP := Lib.hid (HB.out hr)
    have hbn : (FE != 0) = true := by rw [bne_iff_ne]; exact hr
    have cR := bR1.cell; have fR := bR1.free; have lR := bR1.lt
    clear hr
    go_wp2
    refine bodyPost_ret (v := .tuple #[.agg #[.slice none 0 0], .int .i64 FE]) (by simp [results, Tryz.results52, go_sem, cR]) rfl ?_
    rw [HP.out]
    exact range_none (by repeat (first | with_reducible exact Ext.refl _ | with_reducible assumption | with_reducible apply Ext.drewN | with_reducible apply Ext.drew | with_reducible apply Ext.alloc | ((with_reducible refine Ext.setCell ?_ ?_ _); rotate_left; (first | (dsimp only; omega) | (simp; omega) | skip)) | exact Ext.refl _ | assumption | apply Ext.drewN | apply Ext.drew | apply Ext.alloc | refine Ext.setCell ?_ (by first | (dsimp only; omega) | (simp; omega)) _))
  have e1 := (HE.out hr).1; have e2 := (HE.out hr).2
  have hn10 : n ≤ 10 := by rw [← HN.out]; exact HLA.out e1
  have hm10 : m ≤ 10 := by rw [← HM.out]; exact HLB.out e2
  have HZ := Lib.hid hr
  rw [hr]
  clear e1 e2 hr HE HLA HLB HB
  have cA1 := bA1.cell; have cB1 := bB1.cell; have lA1 := bA1.lt; have lB1 := bB1.lt; have lR1 := bR1.lt
  go_wp2
  go_loopg [26] n (fun gg i wr => ∃ (k : Nat) (sv : Value) (q : List Sp), k ≤ n ∧ n - k ≤ gg ∧ i = .int .i64 k ∧ Hid (q = commonS (la.take k) lb) ∧ q.length ≤ k * 10 ∧ Blk wr w1.heap.size 51 #[sv] ∧ wr.ownsRow (w1.heap.size + 1) 127 10 sv q.length (q.flatMap spC) ∧ Ext w1 wr)
  case atStart => exact ⟨0, .slice none 0 0, [], Nat.zero_le _, by omega, rfl, rfl, by simp, Blk.new w1 _ _, World.ownsRow_nil _ _ _ _, (Ext.refl w1).alloc _⟩
  case round =>
    obtain ⟨k, sv, q, hk, hgk, rfl, HQ, hql, bO, hown, hxr⟩ := hrel
    obtain ⟨wo, rfl⟩ : ∃ wo : World, wo = wr := ⟨_, rfl⟩
    have hxwr := hxw.trans hxr
    by_cases hlt : k < n
    · have hk1 : k < la.length := by rw [HN.out]; exact hlt
      obtain ⟨b, o, rfl, hX⟩ := ra (fun e => by rw [e] at hk1; exact absurd hk1 (Nat.not_lt_zero _))
      have X := hX.ext hxwr
      have x0 := X.c0 k hk1; have x1 := X.c1 k hk1; have x2 := X.c2 k hk1; have x3 := X.c3 k hk1; have x4 := X.c4 k hk1
      have x5 := X.c5 k hk1; have x6 := X.c6 k hk1; have x7 := X.c7 k hk1; have x8 := X.c8 k hk1; have x9 := X.c9 k hk1
      obtain ⟨z1, z2⟩ := sa la[k] (List.getElem_mem hk1)
      have HNX := Lib.hid (common_succ la lb k hk1)
      clear X
      generalize la[k] = s at *
      have HS0 := Lib.hid (rowS_succ s lb)
      obtain ⟨hf, ht, ⟨f1, f2, f3, fa⟩, ⟨t1, t2, t3, ta⟩⟩ := s
      dsimp only at x0 x1 x2 x3 x4 x5 x6 x7 x8 x9 z1 z2
      generalize hS : (⟨hf, ht, ⟨f1, f2, f3, fa⟩, ⟨t1, t2, t3, ta⟩⟩ : Sp) = s at *
      have HS := Lib.hid hS
      clear hS
      have cB := (bB1.ext hxr).cell; have lB := (bB1.ext hxr).lt
      have hbo : ∀ g, sv.ownBlock = some g → g < wo.heap.size := fun g h => (hown.lt g h).2
      have hne : sv.ownBlock ≠ some wo.heap.size := fun h => absurd (hbo _ h) (Nat.lt_irrefl _)
      have lO := bO.lt
      go_wp2
      go_loopg [33] m (fun gg i wq => ∃ (j : Nat) (sv : Value) (q2 : List Sp), j ≤ m ∧ m - j ≤ gg ∧ i = .int .i64 j ∧ Hid (q2 = q ++ rowS s lb j) ∧ q2.length ≤ k * 10 + j ∧ Blk wq w1.heap.size 51 #[sv] ∧ Blk wq wo.heap.size 127 #[.bool hf, .bool ht, .int .i64 f1, .int .i64 f2, .int .i64 f3, .string fa, .int .i64 t1, .int .i64 t2, .int .i64 t3, .string ta] ∧ Hid (sv.ownBlock ≠ some wo.heap.size) ∧ wq.ownsRow (w1.heap.size + 1) 127 10 sv q2.length (q2.flatMap spC) ∧ Ext w1 wq)
      case atStart => exact ⟨0, sv, q, Nat.zero_le _, by omega, rfl, by show q = _; rw [rowS_zero, List.append_nil], by omega, bO.alloc _, Blk.new wo _ _, hne, hown.alloc _, hxr.alloc _⟩
      case round =>
        obtain ⟨j, sv2, q2, hj, hgj, rfl, HQ2, hql2, bO2, bS2, HNE, hown2, hxq⟩ := hrel
        obtain ⟨wq, rfl⟩ : ∃ wq : World, wq = wr := ⟨_, rfl⟩
        have hxwq := hxw.trans hxq
        have cS2 := bS2.cell; have lS2 := bS2.lt
        by_cases hlt2 : j < m
        · have hj1 : j < lb.length := by rw [HM.out]; exact hlt2
          obtain ⟨b2, o2, rfl, hY⟩ := rb (fun e => by rw [e] at hj1; exact absurd hj1 (Nat.not_lt_zero _))
          have Y := hY.ext hxwq
          have y0 := Y.c0 j hj1; have y1 := Y.c1 j hj1; have y2 := Y.c2 j hj1; have y3 := Y.c3 j hj1; have y4 := Y.c4 j hj1
          have y5 := Y.c5 j hj1; have y6 := Y.c6 j hj1; have y7 := Y.c7 j hj1; have y8 := Y.c8 j hj1; have y9 := Y.c9 j hj1
          obtain ⟨z3, z4⟩ := sb lb[j] (List.getElem_mem hj1)
          have HNS := Lib.hid (HS0.out j hj1)
          clear Y
          generalize lb[j] = t at *
          have cM := fun W (h : Ext w W) => meet_any s t W (hg.ext h) (by rw [← HS.out]; exact z1) (by rw [← HS.out]; exact z2) z3 z4
          generalize meetS s t = u at *
          generalize hok : okS u = ok at *
          clear hok
          obtain ⟨gf, gt, ⟨g1, g2, g3, ga⟩, ⟨h1, h2, h3, ha⟩⟩ := t
          dsimp only at y0 y1 y2 y3 y4 y5 y6 y7 y8 y9 z3 z4
          obtain ⟨uf, ut, ⟨u1, u2, u3, ua⟩, ⟨v1, v2, v3, va⟩⟩ := u
          rw [← HS.out] at cM
          dsimp only [spV] at cM
          have CM := Lib.hid cM
          clear cM
          have hx2 : Ext w (wq.alloc (.cells #[.bool gf, .bool gt, .int .i64 g1, .int .i64 g2, .int .i64 g3, .string ga, .int .i64 h1, .int .i64 h2, .int .i64 h3, .string ha] 127)) := hxwq.alloc _
          have bO3 := bO2.alloc (.cells #[.bool gf, .bool gt, .int .i64 g1, .int .i64 g2, .int .i64 g3, .string ga, .int .i64 h1, .int .i64 h2, .int .i64 h3, .string ha] 127)
          have bS3 := bS2.alloc (.cells #[.bool gf, .bool gt, .int .i64 g1, .int .i64 g2, .int .i64 g3, .string ga, .int .i64 h1, .int .i64 h2, .int .i64 h3, .string ha] 127)
          have hown3 := hown2.alloc (.cells #[.bool gf, .bool gt, .int .i64 g1, .int .i64 g2, .int .i64 g3, .string ga, .int .i64 h1, .int .i64 h2, .int .i64 h3, .string ha] 127)
          have hxq3 := hxq.alloc (.cells #[.bool gf, .bool gt, .int .i64 g1, .int .i64 g2, .int .i64 g3, .string ga, .int .i64 h1, .int .i64 h2, .int .i64 h3, .string ha] 127)
          go_wp2_with fail
          refine (CM.out _ hx2).mono ?_
          rintro e w3 ⟨rfl, hx3⟩
          have bO4 := (bO3.ext hx3).alloc (.cells #[.bool uf, .bool ut, .int .i64 u1, .int .i64 u2, .int .i64 u3, .string ua, .int .i64 v1, .int .i64 v2, .int .i64 v3, .string va] 127)
          have bS4 := (bS3.ext hx3).alloc (.cells #[.bool uf, .bool ut, .int .i64 u1, .int .i64 u2, .int .i64 u3, .string ua, .int .i64 v1, .int .i64 v2, .int .i64 v3, .string va] 127)
          have hown4 := (own_ext hown3 hx3).alloc (.cells #[.bool uf, .bool ut, .int .i64 u1, .int .i64 u2, .int .i64 u3, .string ua, .int .i64 v1, .int .i64 v2, .int .i64 v3, .string va] 127)
          have hxq4 := (hxq3.trans hx3).alloc (.cells #[.bool uf, .bool ut, .int .i64 u1, .int .i64 u2, .int .i64 u3, .string ua, .int .i64 v1, .int .i64 v2, .int .i64 v3, .string va] 127)
          have lO4 := (bO3.ext hx3).lt; have lS4 := (bS3.ext hx3).lt
          have cO4 := bO4.cell
          have hsz : w1.heap.size + 1 ≤ (w3.alloc (.cells #[.bool uf, .bool ut, .int .i64 u1, .int .i64 u2, .int .i64 u3, .string ua, .int .i64 v1, .int .i64 v2, .int .i64 v3, .string va] 127)).heap.size := by
            rw [World.size_alloc]; omega
          clear y0 y1 y2 y3 y4 y5 y6 y7 y8 y9 cS2 lS2
          cases ok
          · rw [if_neg (by decide)] at HNS
            go_wp2
            go_roundg (m - (j + 1))
            case rel => exact ⟨j + 1, _, q2, by omega, Nat.le_refl _, by go_num, by show q2 = _; rw [HNS.out]; exact HQ2.out, by omega, bO4, bS4, HNE, hown4, hxq4⟩
            case measure => omega
          · rw [if_pos rfl] at HNS
            go_wp2_with (at_builtin; refine wpList_app1f _ _ _ rfl _ _ 49 rfl (.agg #[.bool false, .bool false, .int .i64 0, .int .i64 0, .int .i64 0, .string ⟨#[]⟩, .int .i64 0, .int .i64 0, .int .i64 0, .string ⟨#[]⟩]) 10 88 Tryz.underlying49 info_span rfl (by decide) (by decide) (w1.heap.size + 1) _ q2.length _ rfl hown4 _ _ rfl (by simp) rfl (by simp [Value.oneCell']) (by omega) hsz ?_; intro v' w5 hown5 hx5 hb5 hn5; (obtain ⟨g5, c5, hv5, _, _, _, _⟩ := own_form hown5 (by omega)); have hB95 := hb5 _ _ _ bO4 (fun e => by have := (hown4.lt _ e).1; omega); have hS95 := hb5 _ _ _ bS4 HNE.out; have HN5 := Lib.hid (hn5 wo.heap.size (by rw [World.size_alloc]; omega) HNE.out); subst hv5; have b5c := hB95.cell; have b5f := hB95.free; have b5l := hB95.lt)
            go_roundg (m - (j + 1))
            case rel =>
              refine ⟨j + 1, _, q2 ++ [⟨uf, ut, ⟨u1, u2, u3, ua⟩, ⟨v1, v2, v3, va⟩⟩], by omega, Nat.le_refl _, by go_num, by show _ = _; rw [HNS.out, ← List.append_assoc, ← HQ2.out], by rw [List.length_append, List.length_singleton]; omega, hB95.set 0 _, hS95.far (p := ⟨w1.heap.size, 0, none⟩) (show wo.heap.size ≠ w1.heap.size by omega) _, HN5, ?_, (hx5 _ hxq4 (by omega)).setCell (Nat.le_refl _) _⟩
              rw [List.length_append, List.flatMap_append]
              exact ownsRow_setCell_below hown5 (by simp) _
            case measure => omega
        · obtain rfl : j = m := by omega
          go_wp2
          go_roundg (n - (k + 1))
          case rel => exact ⟨k + 1, _, q2, by omega, Nat.le_refl _, by go_num, by show q2 = _; rw [HNX.out, ← HQ.out]; have h := HQ2.out; rw [← HM.out] at h; exact h, by omega, bO2, hown2, hxq⟩
          case measure => omega
    · obtain rfl : k = n := by omega
      have hq : q = commonS la lb := by have h := HQ.out; rw [← HN.out, List.take_length] at h; exact h
      subst hq
      obtain ⟨A2, c2, rfl, hrd⟩ := rds_own hown rfl
      have hsm := common_small sa sb
      have HSM := Lib.hid hsm
      have HOWN := Lib.hid hown
      have hlg := HLG.out HZ.out
      have hok := HOK.out HZ.out
      generalize commonS la lb = q at *
      have HLG2 := Lib.hid hlg; have HOK2 := Lib.hid hok
      clear HLG HOK hlg hok hsm hown hrd
      have cO := bO.cell; have lO := bO.lt
      have bRq := bR1.ext hxr
      have cR := bRq.cell; have fR := bRq.free; have lR := bRq.lt
      by_cases h10 : 10 < q.length
      · have HP := Lib.hid (HLG2.out h10)
        go_wp2
        refine bodyPost_ret (v := .tuple #[.agg #[.slice none 0 0], .int .i64 4]) (by simp [results, Tryz.results52, go_sem, cR]) rfl ?_
        rw [HP.out]
        exact range_none (by repeat (first | with_reducible exact Ext.refl _ | with_reducible assumption | with_reducible apply Ext.drewN | with_reducible apply Ext.drew | with_reducible apply Ext.alloc | ((with_reducible refine Ext.setCell ?_ ?_ _); rotate_left; (first | (dsimp only; omega) | (simp; omega) | skip)) | exact Ext.refl _ | assumption | apply Ext.drewN | apply Ext.drew | apply Ext.alloc | refine Ext.setCell ?_ (by first | (dsimp only; omega) | (simp; omega)) _))
      · have HP := Lib.hid (HOK2.out h10)
        go_wp2
        refine bodyPost_ret (v := .tuple #[.agg #[.slice A2 q.length c2], .int .i64 0]) (by simp [results, Tryz.results52, go_sem, cR]) rfl ?_
        rw [HP.out]
        have hwl : w.heap.size + 1 + 1 < w1.heap.size + 1 := by omega
        refine ⟨A2, c2, rfl, ?_, HSM.out, (by repeat (first | with_reducible exact Ext.refl _ | with_reducible assumption | with_reducible apply Ext.drewN | with_reducible apply Ext.drew | with_reducible apply Ext.alloc | ((with_reducible refine Ext.setCell ?_ ?_ _); rotate_left; (first | (dsimp only; omega) | (simp; omega) | skip)) | exact Ext.refl _ | assumption | apply Ext.drewN | apply Ext.drew | apply Ext.alloc | refine Ext.setCell ?_ (by first | (dsimp only; omega) | (simp; omega)) _))⟩
        obtain ⟨A', c', e, hrd'⟩ := rds_own (ownsRow_setCell_below HOWN.out (a := ⟨w.heap.size + 1 + 1, 0, none⟩) hwl (.slice A2 q.length c2)) rfl
        injection e with e
        rw [← e] at hrd'
        exact hrd'
end Go.Proofs.YtcmceeihdhcmnaaGreatDoor
