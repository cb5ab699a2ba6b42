/- The law outlaw2.SharesMatch: its walk. -/
import Derived.Test.YtmnafaaijglnfaaGreatDoorSm03
import Derived.Test.YtmnafaaijglnfaaGreatDoorFr30
import Derived.Test.YtmnafaaijglnfaaGreatDoorFr33

namespace Go.Proofs.YtmnafaaijglnfaaGreatDoor
open Go.RowKit

theorem wpList_load_w {P : Program} {ops : Array Oper} {rest : List Oper} {o : Oper} {a : Act} {w : World} {Q : Exit → Act → World → Prop} (hw : Region.wanted o (yielded ops a.tmps) = true) (ty : TypeId) (x : Operand) (ho : o.op = .load ty x)
    (p : Addr) (hx : a.eval x = .pointer (some p)) (v : Value) (hl : (loadVar ty p).run P w = .ok v w) (h : wpList P ops Q rest (a.put o.dst v) w) : wpList P ops Q (o :: rest) a w :=
  BigFrame.wpList_want hw fun K hK => by
    unfold Oper.wp execOp
    simp only [ho, hx, Instr.loadAt, Instr.sureAddr, Sem.run_bind, Sem.run_pure, Result.andThen_ok, hl]
    exact hK _ _ h
/-- the error of the machines, read as far as the k-th -/
def wK (o : Of) (t : Int) (l : List ByteArray) (k : Nat) : Int := firstI [timedErr o t, if 10000 < l.length then 4 else 0, if (l.take k).any (fun m => !nameL (bs m)) = true then 5 else 0]
section
variable {o : Of} {t : Int} {l : List ByteArray} {k : Nat}
theorem wK_0 : wK o t l 0 = firstI [timedErr o t, if 10000 < l.length then 4 else 0] := by
  unfold wK
  rw [firstI_three, firstI_two, List.take_zero]
  generalize timedErr o t = T
  by_cases h1 : T = 0
  · rw [if_pos h1, if_pos h1]
    by_cases h2 : 10000 < l.length
    · rw [if_pos h2]; rfl
    · rw [if_neg h2]; rfl
  · rw [if_neg h1, if_neg h1]
theorem wK_next (h : k < l.length) : wK o t l (k + 1) = firstI [wK o t l k, if nameL (bs l[k]) = true then 0 else 5] := by
  unfold wK
  rw [firstI_two, firstI_three, firstI_three, List.take_succ_eq_append_getElem h, List.any_append]
  rw [List.any_cons, List.any_nil, Bool.or_false]
  generalize timedErr o t = T
  generalize (l.take k).any (fun m => !nameL (bs m)) = r
  generalize nameL (bs l[k]) = q
  by_cases h1 : T = 0
  · subst h1
    by_cases h2 : 10000 < l.length
    · simp [h2]
    · cases r <;> cases q <;> simp [h2]
  · simp [h1]
theorem wK_all : wK o t l l.length = reErr o t l := by
  unfold wK reErr
  rw [List.take_length]
theorem wK_ok (h : wK o t l k = 0) : timedErr o t = 0 := by
  unfold wK at h
  rw [firstI_three] at h
  by_cases h1 : timedErr o t = 0
  · exact h1
  · rw [if_neg h1] at h; exact h
theorem wK_last (h : k < l.length) (h0 : wK o t l (k + 1) = 0) : wK o t l k = 0 := by
  rw [wK_next h, firstI_two] at h0
  by_cases h1 : wK o t l k = 0
  · exact h1
  · rw [if_neg h1] at h0; exact h0
end
theorem own_rdt {w : World} {B n : Nat} {v : Value} {L : List ByteArray} (ho : w.ownsRow B 9 1 v n (L.map Value.string)) (hn : L.length = n) : ∃ A c, v = .slice A n c ∧ RdT w A (L.map bs) := by
  have e : L.map Value.string = (L.map bs).map S := by
    rw [List.map_map]
    exact List.map_congr_left fun x _ => (S_bs x).symm
  rw [e] at ho
  exact RdT.own ho (by rw [List.length_map]; exact hn)
theorem first2_any (a b : Int) (c : Nat) (W : World) :
    Calls Tryz.prog 11 #[.slice (some ⟨W.heap.size, 0, none⟩) 2 c] (W.alloc (.cells #[.int .i64 a, .int .i64 b] 24)) fun e w' => e = .returned (.int .i64 (firstI [a, b])) ∧ Ext W w' :=
  (First_any W.heap.size c [a, b] _ (by intro k hk; rw [(Blk.new W 24 #[.int .i64 a, .int .i64 b]).cell]; match k, hk with | 0, _ => rfl | 1, _ => rfl) (by simp)).mono fun e w' h => ⟨h.1, h.2 ▸ (Ext.refl W).alloc _⟩
theorem when5_any (q : Bool) (W : World) : Calls Tryz.prog 38 #[.bool (!q), .int .i64 5] W fun e w' => e = .returned (.int .i64 (if q = true then 0 else 5)) ∧ W = w' :=
  (When_any (!q) 5 W).mono fun e w' h => ⟨h.1.trans (ret_int (by cases q <;> rfl)), h.2⟩
set_option maxHeartbeats 16000000 in
set_option maxRecDepth 100000 in
theorem SharesMatch_any (o : Of) (A : Option Addr) (c : Nat) (k : Int) (n x : ByteArray) (A2 : Option Addr) (m c2 : Nat) (mm : ByteArray) (l : List ByteArray) (AL : Option Addr) (nl cl : Nat) (t : Int) (w : World) (hg : GoodS w) (hi : OfIn AnyB w o A k n x A2 m c2) (hs : SmallO o)
    (hm : mm.size ≤ 2097152) (hn : l.length = nl) (hr : RdF w AL l) (hsz : ∀ s ∈ l, s.size ≤ 2097152) (hl : nl ≤ 2097152) :
    Calls Tryz.prog 7 #[ofV o A c k n x A2 m c2, .string mm, .slice AL nl cl, .int .i64 t] w fun e w' => e = .returned (.bool true) ∧ Ext w w' := by
  have CO := Lib.hid (fun W (h : Ext w W) => OfferError_any o A c k n x A2 m c2 W (hg.toGoodN.ext h) (hi.ext h) hs)
  have CPF := Lib.hid (fun W (h : Ext w W) => Place_any mm o.name o.vv W (hg.toGoodN.ext h) hm hs.name hs.vv)
  have CN1 := Lib.hid (fun W => NameOf_any mm W hm)
  have CN2 := Lib.hid (fun W => NameOf_any o.name W hs.name)
  have CVE := Lib.hid (show ∀ b cp W, Ext w W → VerS W b [o.vv] → Calls Tryz.prog 10 #[.slice (some ⟨b, 0, none⟩) 1 cp] W fun e w' => e = .returned (.int .i64 o.vv.err) ∧ Ext W w' from fun b cp W h hv => by
    have := VersionError_any b cp [o.vv] W (hg.toGood.ext h) hv (by intro v hv; rw [List.mem_singleton] at hv; subst hv; exact hs.vv) (by simp)
    have e : firstI ([o.vv].map V4.err) = o.vv.err := by
      simp only [List.map_cons, List.map_nil, firstI]
      split <;> simp_all
    rw [e] at this
    exact this)
  have CFE := Lib.hid (fun W (h : Ext w W) => feeds_any W (hg.toGoodN.ext h))
  have CPO := Lib.hid (fun h0 W (h : Ext w W) => PlaceOf_any mm o.name o.vv W (hg.ext h) hm hs.name hs.vv h0)
  have CSH := Lib.hid (fun W (h : Ext w W) => Share_any o A c k n x A2 m c2 t W (hg.toGoodN.ext h) (hi.ext h) hs)
  have CTE := Lib.hid (fun W => timeErr_any t W)
  have CSO := Lib.hid (fun h0 W => ShareOf_any o A c k n x A2 m c2 t W (timed_ok (o := o) (t := t) h0).1 (timed_ok h0).2)
  have CRE := Lib.hid (fun W (h : Ext w W) => Reached_any o A c k n x A2 m c2 t l AL nl cl W (hg.toGoodN.ext h) (hi.ext h) hs hn (hr.ext h) hsz hl)
  have CNL := Lib.hid (fun j (hj : j < l.length) W => NameOf_any l[j] W (hsz _ (List.getElem_mem hj)))
  have CPL := Lib.hid (fun (h0 : timedErr o t = 0) j (hj : j < l.length) W (h : Ext w W) => PlaceOf_any l[j] o.name o.vv W (hg.ext h) (hsz _ (List.getElem_mem hj)) hs.name hs.vv (ofErr_parts (timed_ok h0).1).2.1)
  have CWF := Lib.hid (fun W (h : Ext w W) => WhenF_any o A c k n x A2 m c2 mm W (hg.toGoodN.ext h) (hi.ext h) hs hm)
  have CWO := Lib.hid (fun h0 W (h : Ext w W) => WhenOf_any o A c k n x A2 m c2 mm W (hg.ext h) h0 hs hm)
  have HPV := Lib.hid (show plV mm o.name o.vv = if plErr mm o.name o.vv = 0 then placeV mm o.name o.vv else 0 from rfl)
  have HPE := Lib.hid (show plErr mm o.name o.vv = firstI [(if (nameL (bs mm) && nameL (bs o.name)) = true then 0 else 5), o.vv.err] from rfl)
  have HPZ := Lib.hid (show plErr mm o.name o.vv = 0 → o.vv.err = 0 from fun h => by
    rw [plErr, firstI_two] at h
    by_cases hq : (if (nameL (bs mm) && nameL (bs o.name)) = true then (0 : Int) else 5) = 0
    · rw [if_pos hq] at h; exact h
    · rw [if_neg hq] at h; exact absurd h hq)
  have HTT := Lib.hid (show firstI [ofErr o, timeErr t] = timedErr o t from rfl)
  have HSV := Lib.hid (show shareV o t = if timedErr o t = 0 then shareL o t else 0 from rfl)
  have HW0 := Lib.hid (wK_0 (o := o) (t := t) (l := l))
  have HWS := Lib.hid (fun j (hj : j < l.length) => wK_next (o := o) (t := t) hj)
  have HWN := Lib.hid (wK_all (o := o) (t := t) (l := l))
  have HWT := Lib.hid (fun j h => wK_ok (o := o) (t := t) (l := l) (k := j) h)
  have HWL := Lib.hid (fun j (hj : j < l.length) h => wK_last (o := o) (t := t) hj h)
  have HRL := Lib.hid (show reachL o t l = if reErr o t l = 0 then l.filter (reachP o t) else [] from rfl)
  have HRP := Lib.hid (fun q => show reachP o t q = decide (placeV q o.name o.vv < shareL o t) from rfl)
  have HWE := Lib.hid (show firstI [ofErr o, if nameL (bs mm) = true then 0 else 5] = whErr o mm from rfl)
  have HWV := Lib.hid (show whV o mm = if whErr o mm = 0 then whenL o (placeV mm o.name o.vv) else (0, false) from rfl)
  have HWZ := Lib.hid (show whErr o mm = 0 → ofErr o = 0 from fun h => by
    rw [whErr, firstI_two] at h
    by_cases hq : ofErr o = 0
    · exact hq
    · rw [if_neg hq] at h; exact absurd h hq)
  have HN := Lib.hid hn
  have HR := Lib.hid hr
  rw [hn] at HW0 HWN
  generalize plV mm o.name o.vv = PV at *
  generalize plErr mm o.name o.vv = PE at *
  generalize shareV o t = SV at *
  generalize reErr o t l = RE at *
  generalize reachL o t l = RL at *
  generalize wK o t l = WK at *
  generalize reachP o t = RP at *
  generalize timedErr o t = T at *
  generalize shareL o t = SL at *
  generalize timeErr t = TE at *
  generalize whErr o mm = WE at *
  generalize whV o mm = WV at *
  generalize hPM : placeV mm o.name o.vv = PM at *
  clear hPM
  generalize whenL o PM = WL at *
  generalize ofErr o = E at *
  generalize o.vv.err = VE at *
  generalize nameL (bs mm) = N1 at *
  clear hg hi hs hm hr hsz hn
  obtain ⟨on, ⟨o1, o2, o3, oa⟩, os, of_, ow, od, ob, ot, og, oh, ou, ok⟩ := o
  dsimp only [ofV] at *
  generalize of_.length = ol at *
  have b0 := Blk.new w 66 #[.string on, .int .i64 o1, .int .i64 o2, .int .i64 o3, .string oa, .string os, .slice A ol c, .bool ow, .int .i64 k, .string n, .string x, .slice A2 m c2, .int .i64 ob, .int .i64 ot, .int .i64 og, .bool oh, .bool ou, .bool ok]
  have hx0 : Ext w (w.alloc (.cells #[.string on, .int .i64 o1, .int .i64 o2, .int .i64 o3, .string oa, .string os, .slice A ol c, .bool ow, .int .i64 k, .string n, .string x, .slice A2 m c2, .int .i64 ob, .int .i64 ot, .int .i64 og, .bool oh, .bool ou, .bool ok] 66)) := (Ext.refl w).alloc _
  generalize nameL (bs on) = N2 at *
  have LB := load_blk b0 rfl
  have l0 := b0.lt
  go_enter Tryz.func7, Tryz.ntmps7
  go_wp2_with (first | refine wpList_load_at rfl _ _ rfl _ rfl _ LB ?_)
  refine (CO.out _ hx0).mono ?_
  rintro e w1 ⟨rfl, hx1⟩
  have y1 := hx0.trans hx1
  have b1 := b0.ext hx1
  have e1 := b1.cell
  have l1 := b1.lt
  clear LB l0
  go_wp2_with fail
  refine (CPF.out _ y1).mono ?_
  rintro e w2 ⟨rfl, hx2⟩
  have y2 := y1.trans hx2
  have b2 := b1.ext hx2
  have e2 := b2.cell
  have l2 := b2.lt
  clear e1 l1
  obtain ⟨X1, hX1⟩ : ∃ X, (if (N1 && N2) = true then (0 : Int) else 5) = X := ⟨_, rfl⟩
  have CW1 := Lib.hid (fun W => when5_any (N1 && N2) W)
  rw [hX1] at HPE CW1
  clear hX1
  have CFI1 := Lib.hid (fun b cp W (h : ∀ k (hk : k < [X1, VE].length), World.cell? W ⟨b, k, none⟩ = some (.int .i64 [X1, VE][k])) => First_any b cp [X1, VE] W h (by simp))
  rw [← HPE.out] at CFI1
  go_upto_region 3 with fail
  go_cut [12] (fun s wx => s = .int .i64 PE ∧ Ext w2 wx)
  case first =>
    as_aux_lemma =>
    cases N1
    all_goals
      simp only [Bool.false_and, Bool.true_and, Bool.not_false] at CW1
      refine wp_region_grow (by kernel_rfl) (by kernel_rfl) ?_
      apply Exists.intro
      repeat (first | (apply grow_skip; (focus exact rfl); (try simp only [Act.put, List.setIfInBounds_toArray, List.set_cons_zero, List.set_cons_succ])) | (apply grow_one; (focus exact rfl); (focus (intro wq hwq; (obtain ⟨hqc, hqf⟩ := hwq.ext.cells); have hqs := hwq.ext.size; unfold Oper.quietAt; (try go_simp); first | rfl | (first
      | (go_at_call 19; first | with_reducible exact CN1.out _ | with_reducible exact CN2.out _)
      | (go_at_call 38; with_reducible exact callsExt (CW1.out _))
      | (go_at_call 10; have hb := hwq.blk 12 rfl rfl; exact CVE.out _ _ _ (y2.trans hwq.ext) (VerS.one (hb.cell 0) (hb.cell 1) (hb.cell 2) (hb.cell 3)))
      | (go_at_call 11; have hb := hwq.blk 14 rfl rfl; exact callsExt (CFI1.out _ _ _ (by intro k hk; rw [hb.cell]; match k, hk with | 0, _ => rfl | 1, _ => rfl)))))); (try simp only [Act.put, List.setIfInBounds_toArray, List.set_cons_zero, List.set_cons_succ])) | (apply grow_build; (focus exact rfl); (focus (intro wq; go_simp; first | exact ⟨⟨rfl, rfl⟩, rfl⟩ | exact ⟨rfl, rfl⟩ | rfl)); intro b; (try simp only [Act.put, List.setIfInBounds_toArray, List.set_cons_zero, List.set_cons_succ])))
      refine grow_nil ?_
      intro wN hxN hFN
      go_wp2_with fail
      go_meet
      case rel => exact ⟨rfl, hxN⟩
  case rest =>
  obtain ⟨rfl, hx3⟩ := hcut
  obtain ⟨w3, rfl⟩ : ∃ w3 : World, w3 = wc := ⟨_, rfl⟩
  as_aux_lemma =>
  have y3 := y2.trans hx3
  have b3 := b2.ext hx3
  clear e2 l2 CW1 CFI1 CVE CN2
  go_upto_region 4 with fail
  go_cut [79] (fun s wx => s = .bool false ∧ Ext w3 wx)
  case first =>
    as_aux_lemma =>
    have e3 := b3.cell
    have l3 := b3.lt
    go_wp2_with fail
    refine (CFE.out _ y3).mono ?_
    rintro e w4 ⟨rfl, hx4⟩
    have e4 := (b3.ext hx4).cell
    have l4 := (b3.ext hx4).lt
    clear e3
    by_cases h0 : PE = 0
    · subst h0
      obtain rfl : PV = PM := by rw [HPV.out, if_pos rfl]
      go_wp2_with fail
      refine (CPO.out (HPZ.out (by trivial)) _ (y3.trans hx4)).mono ?_
      rintro e w5 ⟨rfl, hx5⟩
      go_wp2
      go_meet
      case rel => exact ⟨rfl, hx4.trans hx5⟩
    · obtain rfl : PV = 0 := by rw [HPV.out, if_neg h0]
      have hne : (PE != 0) = true := by rw [bne_iff_ne]; exact h0
      have hnb : (PE == 0) = false := by rw [beq_eq_false_iff_ne]; exact h0
      clear h0
      go_wp2
      go_meet
      case rel => exact ⟨rfl, hx4⟩
  case rest =>
  obtain ⟨rfl, hx5⟩ := hcut
  obtain ⟨w5, rfl⟩ : ∃ w5 : World, w5 = wc := ⟨_, rfl⟩
  as_aux_lemma =>
  have y5 := y3.trans hx5
  have b5 := b3.ext hx5
  have LB5 := load_blk b5 rfl
  have l5 := b5.lt
  clear CFE CPO CPF HPV HPE HPZ
  go_wp2_with (first | refine wpList_load_at rfl _ _ rfl _ rfl _ LB5 ?_)
  refine (CSH.out _ y5).mono ?_
  rintro e w6 ⟨rfl, hx6⟩
  clear LB5 l5
  go_wp2_with fail
  refine (CTE.out _).mono ?_
  rintro e w' ⟨rfl, rfl⟩
  go_wp2_with fail
  refine (first2_any E TE _ _).mono ?_
  rw [HTT.out]
  rintro e w7 ⟨rfl, hx7⟩
  have hx57 := hx6.trans hx7
  have y7 := y5.trans hx57
  have b7 := b5.ext hx57
  clear hx6 hx7 hx57 hx5
  go_upto_region 8 with fail
  go_cut [112] (fun s wx => s = .bool false ∧ Ext w7 wx)
  case first =>
    as_aux_lemma =>
    have LB7 := load_blk b7 rfl
    have l7 := b7.lt
    by_cases h0 : T = 0
    · subst h0
      obtain rfl : SV = SL := by rw [HSV.out, if_pos rfl]
      go_wp2_with (first | refine wpList_load_w rfl _ _ rfl _ rfl _ LB7 ?_)
      refine (CSO.out (by trivial) _).mono ?_
      rintro e w8 ⟨rfl, hx8⟩
      go_wp2
      go_meet
      case rel => exact ⟨rfl, hx8⟩
    · obtain rfl : SV = 0 := by rw [HSV.out, if_neg h0]
      have hne : (T != 0) = true := by rw [bne_iff_ne]; exact h0
      have hnb : (T == 0) = false := by rw [beq_eq_false_iff_ne]; exact h0
      clear h0
      go_wp2
      go_meet
      case rel => exact ⟨rfl, Ext.refl _⟩
  case rest =>
  obtain ⟨rfl, hx8⟩ := hcut
  obtain ⟨w8, rfl⟩ : ∃ w8 : World, w8 = wc := ⟨_, rfl⟩
  as_aux_lemma =>
  have y8 := y7.trans hx8
  have b8 := b7.ext hx8
  have LB8 := load_blk b8 rfl
  have l8 := b8.lt
  clear CSH HSV CTE HTT
  go_wp2_with (first | refine wpList_load_at rfl _ _ rfl _ rfl _ LB8 ?_)
  refine (CRE.out _ y8).mono ?_
  rintro e w9 ⟨AR, cR, rfl, hRT, hx9⟩
  have y9 := y8.trans hx9
  have b9 := b8.ext hx9
  clear LB8 l8
  as_aux_lemma =>
  obtain ⟨LG, hLG⟩ : ∃ X, (if 10000 < nl then (4 : Int) else 0) = X := ⟨_, rfl⟩
  have CW4 := Lib.hid (show ∀ W, Calls Tryz.prog 38 #[.bool (decide ((10000 : Int) < (nl : Int))), .int .i64 4] W fun e w' => e = .returned (.int .i64 LG) ∧ W = w' from fun W => (When_any (decide ((10000 : Int) < (nl : Int))) 4 W).mono fun e w' h => ⟨h.1.trans (ret_int (by
    rw [← hLG]
    by_cases h5 : 10000 < nl
    · rw [if_pos h5, decide_eq_true (by omega)]; rfl
    · rw [if_neg h5, decide_eq_false (by omega)]; rfl)), h.2⟩)
  rw [hLG] at HW0
  clear hLG CRE
  go_wp2_with fail
  refine (CW4.out _).mono ?_
  rintro e w' ⟨rfl, rfl⟩
  go_wp2_with fail
  refine (first2_any T LG _ _).mono ?_
  rw [← HW0.out]
  rintro e w10 ⟨rfl, hx10⟩
  have y10 := y9.trans hx10
  have b10 := b9.ext hx10
  have HRT := Lib.hid (hRT.ext hx10)
  clear hRT CW4 HW0 hx10 hx9
  go_wp2
  go_loopw [12, 16, 129] (fun vw vi vk wr => ∃ (kk : Nat) (L : List ByteArray), kk ≤ nl ∧ vk = .int .i64 kk ∧ vw = .int .i64 (WK kk) ∧ wr.ownsRow w10.heap.size 9 1 vi L.length (L.map Value.string) ∧ L.length ≤ kk ∧ Hid (WK kk = 0 → L = (l.take kk).filter RP) ∧ Ext w10 wr) (fun _ _ vk _ => nl - (intOf vk).toNat)
  case atStart => exact ⟨0, [], Nat.zero_le _, rfl, rfl, World.ownsRow_nil _ _ _ _, Nat.zero_le _, Lib.hid (fun _ => rfl), Ext.refl _⟩
  case round =>
    obtain ⟨kk, L, hkk, rfl, rfl, hown, hLk, hL, hxr⟩ := hrel
    obtain ⟨wo, rfl⟩ : ∃ wo : World, wo = wr := ⟨_, rfl⟩
    have yo := y10.trans hxr
    by_cases hlt : kk < nl
    · have hk1 : kk < l.length := by rw [HN.out]; exact hlt
      obtain ⟨gb, go_, rfl, hrow⟩ := HR.out (fun e => by rw [e] at hk1; exact absurd hk1 (Nat.not_lt_zero _))
      have hcl := yo.cell (hrow kk hk1)
      have hlb := lt_of_cell hcl
      have bo := b10.ext hxr
      have CN3 := Lib.hid (CNL.out kk hk1)
      have CPL1 := Lib.hid (fun h0 => CPL.out h0 kk hk1)
      have HF := Lib.hid (filter_next RP l kk hk1)
      have HPK := Lib.hid (HRP.out l[kk])
      have HWS1 := Lib.hid (HWS.out kk hk1)
      have HWL1 := Lib.hid (HWL.out kk hk1)
      have HWT1 := Lib.hid (HWT.out (kk + 1))
      generalize l[kk] = mk at *
      generalize placeV mk on ⟨o1, o2, o3, oa⟩ = PK at *
      generalize nameL (bs mk) = QK at *
      generalize hWk : WK (kk + 1) = W1 at *
      have HWk := Lib.hid hWk
      clear hrow hWk
      have CW5 := Lib.hid (fun W => when5_any QK W)
      obtain ⟨XQ, hXQ⟩ : ∃ X, (if QK = true then (0 : Int) else 5) = X := ⟨_, rfl⟩
      rw [hXQ] at CW5 HWS1
      clear hXQ
      go_wp2_with fail
      refine (CN3.out _).mono ?_
      rintro e w11 ⟨rfl, hx11⟩
      go_wp2_with fail
      refine (CW5.out _).mono ?_
      rintro e w' ⟨rfl, rfl⟩
      go_wp2_with fail
      refine (first2_any (WK kk) XQ _ _).mono ?_
      rw [← HWS1.out]
      rintro e w12 ⟨rfl, hx12⟩
      have hx := hx11.trans hx12
      have hxr2 := hxr.trans hx
      have y12 := yo.trans hx
      have own12 := own_ext hown hx
      have b12 := bo.ext hx
      clear hx11 hx12 hx hown hcl hlb bo CN3 CW5
      as_aux_lemma =>
      have e12 := b12.cell
      have l12 := b12.lt
      by_cases h0 : W1 = 0
      · as_aux_lemma =>
        subst h0
        have hT := HWT1.out (by trivial)
        have hW := HWL1.out (by trivial)
        have CS3 := Lib.hid (CSO.out hT)
        have CP3 := Lib.hid (CPL1.out hT)
        have HL2 := Lib.hid (hL.out hW)
        clear hT hW hL
        have LBq : ∀ W, Ext w12 W → (loadVar 66 ⟨w.heap.size, 0, none⟩).run Tryz.prog W = _ := fun W h => load_blk (b12.ext h) rfl
        go_wp2
        refine wp_region_ext (by kernel_rfl) (by kernel_rfl) ?_
        repeat (first | go_big_quiet_skip | (refine wpQuiet_load (by rfl) _ _ rfl _ rfl _ LBq ?_) | (refine wpQuiet_step (fun K hK => ?_); go_simp; first | (refine hK _ ?_; clear hK K) | (apply Exists.intro; refine ⟨fun wq hwq => ?_, hK _ ?_⟩; (obtain ⟨hqc, hqf⟩ := hwq.cells; have hqs := hwq.size; (try go_simp); first | rfl | ((first | rw [if_neg (by omega)] | rw [if_pos (by omega)]); (try go_simp); rfl) | ((first | (go_at_call 49; exact (CP3.out _ (y12.trans hwq)).mono (fun e w'' h => ⟨h.1, hwq.trans h.2⟩)) | (go_at_call 52; exact (CS3.out _).mono (fun e w'' h => ⟨h.1, hwq.trans h.2⟩))))); clear hK K)))
        refine wpQuiet_nil ?_
        intro wN hxN
        obtain ⟨hcN, hfN⟩ := hxN.cells
        have hsN := hxN.size
        clear hcN hfN e12 LBq
        have hxr3 := hxr2.trans hxN
        have ownN := own_ext own12 hxN
        have hzN := hxr3.size
        by_cases hp : PK < SL
        · have HF2 := Lib.hid (show L ++ [mk] = (l.take (kk + 1)).filter RP from by rw [HF.out, if_pos (by rw [HPK.out]; exact decide_eq_true hp), HL2.out])
          go_wp2_with (at_builtin; refine wpList_app1g _ _ _ rfl _ _ 74 rfl (.string ⟨#[]⟩) 1 16 Tryz.underlying74 info_string rfl (by decide) (by decide) w10.heap.size _ _ _ rfl ownN _ _ rfl (by simp) rfl (by simp [Value.oneCell']) (by omega) hzN ?_; intro v' w' hown' hgrow _)
          go_roundw
          case rel => exact ⟨kk + 1, L ++ [mk], by omega, by go_num, by rw [HWk.out], by rw [List.length_append, List.map_append]; exact hown', by rw [List.length_append]; simp; omega, Lib.hid (fun _ => HF2.out), hgrow w10 hxr3 (Nat.le_refl _)⟩
          case measure => simp [intOf]; omega
        · have HF2 := Lib.hid (show L = (l.take (kk + 1)).filter RP from by rw [HF.out, if_neg (by rw [HPK.out, decide_eq_true_eq]; exact hp), HL2.out, List.append_nil])
          go_wp2
          go_roundw
          case rel => exact ⟨kk + 1, L, by omega, by go_num, by rw [HWk.out], ownN, by omega, Lib.hid (fun _ => HF2.out), hxr3⟩
          case measure => simp [intOf]; omega
      · as_aux_lemma =>
        have hnb : (W1 == 0) = false := by rw [beq_eq_false_iff_ne]; exact h0
        have HX := Lib.hid (show WK (kk + 1) = 0 → L = (l.take (kk + 1)).filter RP from fun e => absurd (HWk.out ▸ e) h0)
        clear h0
        go_wp2
        refine wp_region_ext (by kernel_rfl) (by kernel_rfl) ?_
        repeat (first | go_big_quiet_skip | (refine wpQuiet_step (fun K hK => ?_); go_simp; first | (refine hK _ ?_; clear hK K) | (apply Exists.intro; refine ⟨fun wq hwq => ?_, hK _ ?_⟩; (obtain ⟨hqc, hqf⟩ := hwq.cells; have hqs := hwq.size; (try go_simp); first | rfl | ((first | rw [if_neg (by omega)] | rw [if_pos (by omega)]); (try go_simp); rfl) | ((fail))); clear hK K)))
        refine wpQuiet_nil ?_
        intro wN hxN
        obtain ⟨hcN, hfN⟩ := hxN.cells
        have hsN := hxN.size
        clear hcN hfN
        have hxr3 := hxr2.trans hxN
        have ownN := own_ext own12 hxN
        go_wp2
        go_roundw
        case rel => exact ⟨kk + 1, L, by omega, by go_num, by rw [HWk.out], ownN, by omega, HX, hxr3⟩
        case measure => simp [intOf]; omega
    · obtain rfl : kk = nl := by omega
      have hte : l.take kk = l := List.take_of_length_le (by rw [HN.out]; exact Nat.le_refl _)
      rw [hte, HWN.out] at hL
      rw [HWN.out]
      have b13 := b10.ext hxr
      have HRT2 := Lib.hid (HRT.out.ext hxr)
      clear HWS HWL HWT CPL CNL HRT
      go_upto_region 20 with fail
      go_cut [180] (fun s wx => s = .bool false ∧ Ext wo wx)
      case first =>
        as_aux_lemma =>
        by_cases h0 : RE = 0
        · subst h0
          obtain rfl : RL = L := by rw [HRL.out, if_pos rfl]; exact (hL.out rfl).symm
          obtain ⟨A3, c3, rfl, hr3⟩ := own_rdt hown rfl
          have CEQ := Lib.hid (EqualT_same AR A3 cR c3 RL.length (RL.map bs) wo (by rw [List.length_map]) HRT2.out hr3 (by omega))
          clear hL hown hr3 HRT2
          go_wp2_with fail
          refine CEQ.out.mono ?_
          rintro e w14 ⟨rfl, hx14⟩
          go_wp2
          go_meet
          case rel => exact ⟨rfl, hx14⟩
        · obtain rfl : RL = [] := by rw [HRL.out, if_neg h0]
          have hne : (RE != 0) = true := by rw [bne_iff_ne]; exact h0
          have hnb : (RE == 0) = false := by rw [beq_eq_false_iff_ne]; exact h0
          clear h0 hL hown HRT2
          go_wp2
          go_meet
          case rel => exact ⟨rfl, Ext.refl _⟩
      case rest =>
      obtain ⟨rfl, hx15⟩ := hcut
      obtain ⟨w15, rfl⟩ : ∃ w15 : World, w15 = wc := ⟨_, rfl⟩
      as_aux_lemma =>
      have y15 := yo.trans hx15
      have b15 := b13.ext hx15
      have LB15 := load_blk b15 rfl
      have l15 := b15.lt
      clear hL hown HRT2 CSO
      go_wp2_with (first | refine wpList_load_at rfl _ _ rfl _ rfl _ LB15 ?_)
      refine (CWF.out _ y15).mono ?_
      rintro e w16 ⟨rfl, hx16⟩
      have y16 := y15.trans hx16
      have b16 := b15.ext hx16
      clear LB15 l15
      have CW6 := Lib.hid (fun W => when5_any N1 W)
      obtain ⟨X6, hX6⟩ : ∃ X, (if N1 = true then (0 : Int) else 5) = X := ⟨_, rfl⟩
      rw [hX6] at CW6 HWE
      clear hX6
      go_wp2_with fail
      refine (CN1.out _).mono ?_
      rintro e w17 ⟨rfl, hx17⟩
      go_wp2_with fail
      refine (CW6.out _).mono ?_
      rintro e w' ⟨rfl, rfl⟩
      go_wp2_with fail
      refine (first2_any E _ _ _).mono ?_
      rw [HWE.out]
      rintro e w18 ⟨rfl, hx18⟩
      have hx := hx17.trans hx18
      have y18 := y16.trans hx
      have b18 := b16.ext hx
      have LB18 := load_blk b18 rfl
      have l18 := b18.lt
      as_aux_lemma =>
      by_cases h0 : WE = 0
      · subst h0
        obtain rfl : WV = WL := by rw [HWV.out, if_pos rfl]
        go_wp2_with (first | refine wpList_load_at rfl _ _ rfl _ rfl _ LB18 ?_)
        refine (CWO.out (HWZ.out (by trivial)) _ y18).mono ?_
        rintro e w19 ⟨rfl, hx19⟩
        go_wp2
        go_ret
        exact ⟨rfl, y18.trans hx19⟩
      · obtain rfl : WV = (0, false) := by rw [HWV.out, if_neg h0]
        have hne : (WE != 0) = true := by rw [bne_iff_ne]; exact h0
        clear h0
        go_wp2
        go_ret
        exact ⟨rfl, y18⟩
end Go.Proofs.YtmnafaaijglnfaaGreatDoor
