/- The law outlaw2.RulesMatch: its walk. (Printed by gen/rulk.py.) -/
import Derived.Test.YtncagihilplliaaGreatDoorRulI
import Derived.Test.YtncagihilplliaaGreatDoorRulJ
namespace Go.Proofs.YtncagihilplliaaGreatDoor
open Go.RowKit

theorem ru_val (q : Ru) : ∃ (k : Int) (a b c d : ByteArray), ruX q = .agg #[.int .i64 k, .string a, .string b, .string c, .string d] := ⟨q.kind, ⟨q.key.toArray⟩, ⟨q.tt.toArray⟩, ⟨q.old.toArray⟩, ⟨q.new.toArray⟩, rfl⟩

set_option maxHeartbeats 8000000 in
set_option maxRecDepth 100000 in
theorem RulesMatch_bad (rk : Int) (ra rb rc rd s : ByteArray) (w : World) (hg : Good w) (hs : SmallR ⟨rk, ra, rb, rc, rd⟩) (hz : s.size ≤ 2097152) (h0 : ¬ ruErr (RB.l ⟨rk, ra, rb, rc, rd⟩) = 0) :
    Calls Tryz.prog 3 #[.agg #[.int .i64 rk, .string ra, .string rb, .string rc, .string rd], .string s] w fun e w' => e = .returned (.bool true) ∧ Ext w w' := by
  have cE := fun W (h : Ext w W) => RuleError_any ⟨rk, ra, rb, rc, rd⟩ W (hg.ext h) hs
  have cP := fun W (h : Ext w W) => PrintRule_any ⟨rk, ra, rb, rc, rd⟩ W (hg.ext h) hs
  have cI := fun W (h : Ext w W) => Inverse_any ⟨rk, ra, rb, rc, rd⟩ W (hg.ext h) hs
  have cO := fun W (h : Ext w W) => InverseOf_any ⟨rk, ra, rb, rc, rd⟩ W (hg.ext h) hs
  have cC := fun W (h : Ext w W) => CheckRule_any ⟨rk, ra, rb, rc, rd⟩ W (hg.ext h) hs
  have cM := fun W (h : Ext w W) => migrates_any W (hg.ext h)
  have cQ := fun W (h : Ext w W) => ParseRule_any s W (hg.ext h) hz
  have cR := fun W (h : Ext w W) => ReadRule_any s W (hg.ext h) hz
  generalize parseRu (bs s) = q at *
  obtain ⟨q, qe⟩ := q
  obtain ⟨qk, qa, qb, qc, qd, hq⟩ := ru_val q
  dsimp only at cQ cR
  rw [hq] at cQ cR
  have eq1 := run_eqlr qk qa qb qc qd
  generalize invL (RB.l ⟨rk, ra, rb, rc, rd⟩) = i at *
  obtain ⟨i, ie⟩ := i
  obtain ⟨ik, ia, ib, ic, id, hi⟩ := ru_val i
  dsimp only at cI cO
  rw [hi] at cI cO
  have eq2 := run_neqr ik ia ib ic id
  clear hq hi
  have hp : prRu (RB.l ⟨rk, ra, rb, rc, rd⟩) = [] := by rw [prRu, if_neg h0]
  rw [hp] at cP
  have k1 : (ruErr (RB.l ⟨rk, ra, rb, rc, rd⟩) != 0) = true := by rw [bne_iff_ne]; exact h0
  have k2 : (ruErr (RB.l ⟨rk, ra, rb, rc, rd⟩) == 0) = false := by rw [beq_eq_false_iff_ne]; exact h0
  generalize ruErr (RB.l ⟨rk, ra, rb, rc, rd⟩) = E at *
  clear hp h0
  have CE := Lib.hid cE
  have CP := Lib.hid cP
  have CI := Lib.hid cI
  have CO := Lib.hid cO
  have CC := Lib.hid cC
  have CM := Lib.hid cM
  have CQ := Lib.hid cQ
  have CR := Lib.hid cR
  clear cE cP cI cO cC cM cQ cR
  have bP := Blk.new w 23 #[.int .i64 rk, .string ra, .string rb, .string rc, .string rd]
  have hx : Ext w (w.alloc (.cells #[.int .i64 rk, .string ra, .string rb, .string rc, .string rd] 23)) := (Ext.refl w).alloc _
  go_enter Tryz.func3, Tryz.ntmps3
  have f0PC := bP.cell
  have f0PF := bP.free
  have f0PZ := bP.lt
  go_wp2_with fail
  refine (CE.out _ hx).mono ?_
  rintro e w1 ⟨rfl, hy⟩
  replace bP := bP.ext hy
  replace hx := hx.trans hy
  clear hy
  clear f0PC f0PF f0PZ
  have f1PC := bP.cell
  have f1PF := bP.free
  have f1PZ := bP.lt
  go_wp2_with fail
  refine (CP.out _ hx).mono ?_
  rintro e w2 ⟨rfl, hy⟩
  replace bP := bP.ext hy
  replace hx := hx.trans hy
  clear hy
  clear f1PC f1PF f1PZ
  have f2PC := bP.cell
  have f2PF := bP.free
  have f2PZ := bP.lt
  go_wp2_with fail
  refine (CI.out _ hx).mono ?_
  rintro e w3 ⟨rfl, hy⟩
  replace bP := bP.ext hy
  replace hx := hx.trans hy
  clear hy
  clear f2PC f2PF f2PZ
  have f3PC := bP.cell
  have f3PF := bP.free
  have f3PZ := bP.lt
  have bI := Blk.new w3 23 #[.int .i64 ik, .string ia, .string ib, .string ic, .string id]
  replace bP := bP.alloc (.cells #[.int .i64 ik, .string ia, .string ib, .string ic, .string id] 23)
  replace hx := hx.alloc (.cells #[.int .i64 ik, .string ia, .string ib, .string ic, .string id] 23)
  have f4PC := bP.cell
  have f4PF := bP.free
  have f4PZ := bP.lt
  have f4IC := bI.cell
  have f4IF := bI.free
  have f4IZ := bI.lt
  go_wp2_with fail
  refine (CO.out _ hx).mono ?_
  rintro e w4 ⟨rfl, hy⟩
  replace bP := bP.ext hy
  replace bI := bI.ext hy
  replace hx := hx.trans hy
  clear hy
  clear f3PC f3PF f3PZ f4PC f4PF f4PZ f4IC f4IF f4IZ
  have f5PC := bP.cell
  have f5PF := bP.free
  have f5PZ := bP.lt
  have f5IC := bI.cell
  have f5IF := bI.free
  have f5IZ := bI.lt
  have bO := Blk.new w4 23 #[.int .i64 ik, .string ia, .string ib, .string ic, .string id]
  replace bP := bP.alloc (.cells #[.int .i64 ik, .string ia, .string ib, .string ic, .string id] 23)
  replace bI := bI.alloc (.cells #[.int .i64 ik, .string ia, .string ib, .string ic, .string id] 23)
  replace hx := hx.alloc (.cells #[.int .i64 ik, .string ia, .string ib, .string ic, .string id] 23)
  have f6PC := bP.cell
  have f6PF := bP.free
  have f6PZ := bP.lt
  have f6IC := bI.cell
  have f6IF := bI.free
  have f6IZ := bI.lt
  have f6OC := bO.cell
  have f6OF := bO.free
  have f6OZ := bO.lt
  go_wp2_with fail
  refine (CM.out _ hx).mono ?_
  rintro e w5 ⟨rfl, hy⟩
  replace bP := bP.ext hy
  replace bI := bI.ext hy
  replace bO := bO.ext hy
  replace hx := hx.trans hy
  clear hy
  clear f5PC f5PF f5PZ f5IC f5IF f5IZ f6PC f6PF f6PZ f6IC f6IF f6IZ f6OC f6OF f6OZ
  have f7PC := bP.cell
  have f7PF := bP.free
  have f7PZ := bP.lt
  have f7IC := bI.cell
  have f7IF := bI.free
  have f7IZ := bI.lt
  have f7OC := bO.cell
  have f7OF := bO.free
  have f7OZ := bO.lt
  go_wp2_with fail
  refine (CC.out _ hx).mono ?_
  rintro e w6 ⟨rfl, hy⟩
  replace bP := bP.ext hy
  replace bI := bI.ext hy
  replace bO := bO.ext hy
  replace hx := hx.trans hy
  clear hy
  clear f7PC f7PF f7PZ f7IC f7IF f7IZ f7OC f7OF f7OZ
  have f8PC := bP.cell
  have f8PF := bP.free
  have f8PZ := bP.lt
  have f8IC := bI.cell
  have f8IF := bI.free
  have f8IZ := bI.lt
  have f8OC := bO.cell
  have f8OF := bO.free
  have f8OZ := bO.lt
  go_wp2_with fail
  refine (CQ.out _ hx).mono ?_
  rintro e w7 ⟨rfl, hy⟩
  replace bP := bP.ext hy
  replace bI := bI.ext hy
  replace bO := bO.ext hy
  replace hx := hx.trans hy
  clear hy
  clear f8PC f8PF f8PZ f8IC f8IF f8IZ f8OC f8OF f8OZ
  have f9PC := bP.cell
  have f9PF := bP.free
  have f9PZ := bP.lt
  have f9IC := bI.cell
  have f9IF := bI.free
  have f9IZ := bI.lt
  have f9OC := bO.cell
  have f9OF := bO.free
  have f9OZ := bO.lt
  have bA := Blk.new w7 23 #[.int .i64 qk, .string qa, .string qb, .string qc, .string qd]
  replace bP := bP.alloc (.cells #[.int .i64 qk, .string qa, .string qb, .string qc, .string qd] 23)
  replace bI := bI.alloc (.cells #[.int .i64 qk, .string qa, .string qb, .string qc, .string qd] 23)
  replace bO := bO.alloc (.cells #[.int .i64 qk, .string qa, .string qb, .string qc, .string qd] 23)
  replace hx := hx.alloc (.cells #[.int .i64 qk, .string qa, .string qb, .string qc, .string qd] 23)
  have f10PC := bP.cell
  have f10PF := bP.free
  have f10PZ := bP.lt
  have f10IC := bI.cell
  have f10IF := bI.free
  have f10IZ := bI.lt
  have f10OC := bO.cell
  have f10OF := bO.free
  have f10OZ := bO.lt
  have f10AC := bA.cell
  have f10AF := bA.free
  have f10AZ := bA.lt
  go_wp2_with fail
  refine (CR.out _ hx).mono ?_
  rintro e w8 ⟨rfl, hy⟩
  replace bP := bP.ext hy
  replace bI := bI.ext hy
  replace bO := bO.ext hy
  replace bA := bA.ext hy
  replace hx := hx.trans hy
  clear hy
  clear f9PC f9PF f9PZ f9IC f9IF f9IZ f9OC f9OF f9OZ f10PC f10PF f10PZ f10IC f10IF f10IZ f10OC f10OF f10OZ f10AC f10AF f10AZ
  have f11PC := bP.cell
  have f11PF := bP.free
  have f11PZ := bP.lt
  have f11IC := bI.cell
  have f11IF := bI.free
  have f11IZ := bI.lt
  have f11OC := bO.cell
  have f11OF := bO.free
  have f11OZ := bO.lt
  have f11AC := bA.cell
  have f11AF := bA.free
  have f11AZ := bA.lt
  have bB := Blk.new w8 23 #[.int .i64 qk, .string qa, .string qb, .string qc, .string qd]
  replace bP := bP.alloc (.cells #[.int .i64 qk, .string qa, .string qb, .string qc, .string qd] 23)
  replace bI := bI.alloc (.cells #[.int .i64 qk, .string qa, .string qb, .string qc, .string qd] 23)
  replace bO := bO.alloc (.cells #[.int .i64 qk, .string qa, .string qb, .string qc, .string qd] 23)
  replace bA := bA.alloc (.cells #[.int .i64 qk, .string qa, .string qb, .string qc, .string qd] 23)
  replace hx := hx.alloc (.cells #[.int .i64 qk, .string qa, .string qb, .string qc, .string qd] 23)
  have f12PC := bP.cell
  have f12PF := bP.free
  have f12PZ := bP.lt
  have f12IC := bI.cell
  have f12IF := bI.free
  have f12IZ := bI.lt
  have f12OC := bO.cell
  have f12OF := bO.free
  have f12OZ := bO.lt
  have f12AC := bA.cell
  have f12AF := bA.free
  have f12AZ := bA.lt
  have f12BC := bB.cell
  have f12BF := bB.free
  have f12BZ := bB.lt
  go_wp2
  go_ret
  exact ⟨rfl, hx⟩
set_option maxHeartbeats 8000000 in
set_option maxRecDepth 100000 in
theorem RulesMatch_ok (rk : Int) (ra rb rc rd s : ByteArray) (w : World) (hg : Good w) (hs : SmallR ⟨rk, ra, rb, rc, rd⟩) (hz : s.size ≤ 2097152) (h0 : ruErr (RB.l ⟨rk, ra, rb, rc, rd⟩) = 0) :
    Calls Tryz.prog 3 #[.agg #[.int .i64 rk, .string ra, .string rb, .string rc, .string rd], .string s] w fun e w' => e = .returned (.bool true) ∧ Ext w w' := by
  have cE := fun W (h : Ext w W) => RuleError_any ⟨rk, ra, rb, rc, rd⟩ W (hg.ext h) hs
  have cP := fun W (h : Ext w W) => PrintRule_any ⟨rk, ra, rb, rc, rd⟩ W (hg.ext h) hs
  have cI := fun W (h : Ext w W) => Inverse_any ⟨rk, ra, rb, rc, rd⟩ W (hg.ext h) hs
  have cO := fun W (h : Ext w W) => InverseOf_any ⟨rk, ra, rb, rc, rd⟩ W (hg.ext h) hs
  have cC := fun W (h : Ext w W) => CheckRule_any ⟨rk, ra, rb, rc, rd⟩ W (hg.ext h) hs
  have cM := fun W (h : Ext w W) => migrates_any W (hg.ext h)
  have cQ := fun W (h : Ext w W) => ParseRule_any s W (hg.ext h) hz
  have cR := fun W (h : Ext w W) => ReadRule_any s W (hg.ext h) hz
  generalize parseRu (bs s) = q at *
  obtain ⟨q, qe⟩ := q
  obtain ⟨qk, qa, qb, qc, qd, hq⟩ := ru_val q
  dsimp only at cQ cR
  rw [hq] at cQ cR
  have eq1 := run_eqlr qk qa qb qc qd
  generalize invL (RB.l ⟨rk, ra, rb, rc, rd⟩) = i at *
  obtain ⟨i, ie⟩ := i
  obtain ⟨ik, ia, ib, ic, id, hi⟩ := ru_val i
  dsimp only at cI cO
  rw [hi] at cI cO
  have eq2 := run_neqr ik ia ib ic id
  clear hq hi
  have cT := fun W (h : Ext w W) => RuleText_any ⟨rk, ra, rb, rc, rd⟩ W (hg.ext h) hs
  have hp : prRu (RB.l ⟨rk, ra, rb, rc, rd⟩) = ruText (RB.l ⟨rk, ra, rb, rc, rd⟩) := by rw [prRu, if_pos h0]
  have hlen := ruText_len h0
  have hprs := parse_ruText h0
  rw [hp, h0] at cP
  rw [h0] at cE cC
  obtain ⟨X, hX, hXb⟩ : ∃ x : ByteArray, S (ruText (RB.l ⟨rk, ra, rb, rc, rd⟩)) = .string x ∧ bs x = ruText (RB.l ⟨rk, ra, rb, rc, rd⟩) := ⟨⟨(ruText (RB.l ⟨rk, ra, rb, rc, rd⟩)).toArray⟩, rfl, by rw [bs_mk]⟩
  rw [hX] at cP cT
  rw [← hXb, bs_length] at hlen
  rw [← hXb, bs_length] at hprs
  have cX := fun W (h : Ext w W) => ParseRule_any X W (hg.ext h) (by omega)
  have hxr : ∀ z : Ru × Int, z = (RB.l ⟨rk, ra, rb, rc, rd⟩, 0) → ruX z.1 = .agg #[.int .i64 rk, .string ra, .string rb, .string rc, .string rd] ∧ z.2 = 0 := fun z e => by rw [e]; exact ⟨rfl, rfl⟩
  have hprs2 := fun h => hxr _ (hprs h)
  generalize parseRu (bs X) = x at *
  obtain ⟨x, xe⟩ := x
  obtain ⟨xk, xa, xb, xc, xd, hxv⟩ := ru_val x
  dsimp only at cX hprs2
  rw [hxv] at cX hprs2
  have eq3 := run_neqr rk ra rb rc rd
  have HPR := Lib.hid hprs2
  clear hxv hprs hprs2 hxr hXb hX hp h0 hlen
  have CT := Lib.hid cT
  have CX := Lib.hid cX
  clear cT cX
  have CE := Lib.hid cE
  have CP := Lib.hid cP
  have CI := Lib.hid cI
  have CO := Lib.hid cO
  have CC := Lib.hid cC
  have CM := Lib.hid cM
  have CQ := Lib.hid cQ
  have CR := Lib.hid cR
  clear cE cP cI cO cC cM cQ cR
  have bP := Blk.new w 23 #[.int .i64 rk, .string ra, .string rb, .string rc, .string rd]
  have hx : Ext w (w.alloc (.cells #[.int .i64 rk, .string ra, .string rb, .string rc, .string rd] 23)) := (Ext.refl w).alloc _
  go_enter Tryz.func3, Tryz.ntmps3
  have f0PC := bP.cell
  have f0PF := bP.free
  have f0PZ := bP.lt
  go_wp2_with fail
  refine (CE.out _ hx).mono ?_
  rintro e w1 ⟨rfl, hy⟩
  replace bP := bP.ext hy
  replace hx := hx.trans hy
  clear hy
  clear f0PC f0PF f0PZ
  have f1PC := bP.cell
  have f1PF := bP.free
  have f1PZ := bP.lt
  go_wp2_with fail
  refine (CP.out _ hx).mono ?_
  rintro e w2 ⟨rfl, hy⟩
  replace bP := bP.ext hy
  replace hx := hx.trans hy
  clear hy
  clear f1PC f1PF f1PZ
  have f2PC := bP.cell
  have f2PF := bP.free
  have f2PZ := bP.lt
  go_wp2_with fail
  refine (CI.out _ hx).mono ?_
  rintro e w3 ⟨rfl, hy⟩
  replace bP := bP.ext hy
  replace hx := hx.trans hy
  clear hy
  clear f2PC f2PF f2PZ
  have f3PC := bP.cell
  have f3PF := bP.free
  have f3PZ := bP.lt
  have bI := Blk.new w3 23 #[.int .i64 ik, .string ia, .string ib, .string ic, .string id]
  replace bP := bP.alloc (.cells #[.int .i64 ik, .string ia, .string ib, .string ic, .string id] 23)
  replace hx := hx.alloc (.cells #[.int .i64 ik, .string ia, .string ib, .string ic, .string id] 23)
  have f4PC := bP.cell
  have f4PF := bP.free
  have f4PZ := bP.lt
  have f4IC := bI.cell
  have f4IF := bI.free
  have f4IZ := bI.lt
  go_wp2_with fail
  refine (CO.out _ hx).mono ?_
  rintro e w4 ⟨rfl, hy⟩
  replace bP := bP.ext hy
  replace bI := bI.ext hy
  replace hx := hx.trans hy
  clear hy
  clear f3PC f3PF f3PZ f4PC f4PF f4PZ f4IC f4IF f4IZ
  have f5PC := bP.cell
  have f5PF := bP.free
  have f5PZ := bP.lt
  have f5IC := bI.cell
  have f5IF := bI.free
  have f5IZ := bI.lt
  have bO := Blk.new w4 23 #[.int .i64 ik, .string ia, .string ib, .string ic, .string id]
  replace bP := bP.alloc (.cells #[.int .i64 ik, .string ia, .string ib, .string ic, .string id] 23)
  replace bI := bI.alloc (.cells #[.int .i64 ik, .string ia, .string ib, .string ic, .string id] 23)
  replace hx := hx.alloc (.cells #[.int .i64 ik, .string ia, .string ib, .string ic, .string id] 23)
  have f6PC := bP.cell
  have f6PF := bP.free
  have f6PZ := bP.lt
  have f6IC := bI.cell
  have f6IF := bI.free
  have f6IZ := bI.lt
  have f6OC := bO.cell
  have f6OF := bO.free
  have f6OZ := bO.lt
  go_wp2_with fail
  refine (CM.out _ hx).mono ?_
  rintro e w5 ⟨rfl, hy⟩
  replace bP := bP.ext hy
  replace bI := bI.ext hy
  replace bO := bO.ext hy
  replace hx := hx.trans hy
  clear hy
  clear f5PC f5PF f5PZ f5IC f5IF f5IZ f6PC f6PF f6PZ f6IC f6IF f6IZ f6OC f6OF f6OZ
  have f7PC := bP.cell
  have f7PF := bP.free
  have f7PZ := bP.lt
  have f7IC := bI.cell
  have f7IF := bI.free
  have f7IZ := bI.lt
  have f7OC := bO.cell
  have f7OF := bO.free
  have f7OZ := bO.lt
  go_wp2_with fail
  refine (CC.out _ hx).mono ?_
  rintro e w6 ⟨rfl, hy⟩
  replace bP := bP.ext hy
  replace bI := bI.ext hy
  replace bO := bO.ext hy
  replace hx := hx.trans hy
  clear hy
  clear f7PC f7PF f7PZ f7IC f7IF f7IZ f7OC f7OF f7OZ
  have f8PC := bP.cell
  have f8PF := bP.free
  have f8PZ := bP.lt
  have f8IC := bI.cell
  have f8IF := bI.free
  have f8IZ := bI.lt
  have f8OC := bO.cell
  have f8OF := bO.free
  have f8OZ := bO.lt
  go_wp2_with fail
  refine (CX.out _ hx).mono ?_
  rintro e w7 ⟨rfl, hy⟩
  replace bP := bP.ext hy
  replace bI := bI.ext hy
  replace bO := bO.ext hy
  replace hx := hx.trans hy
  clear hy
  clear f8PC f8PF f8PZ f8IC f8IF f8IZ f8OC f8OF f8OZ
  have f9PC := bP.cell
  have f9PF := bP.free
  have f9PZ := bP.lt
  have f9IC := bI.cell
  have f9IF := bI.free
  have f9IZ := bI.lt
  have f9OC := bO.cell
  have f9OF := bO.free
  have f9OZ := bO.lt
  have bX := Blk.new w7 23 #[.int .i64 xk, .string xa, .string xb, .string xc, .string xd]
  replace bP := bP.alloc (.cells #[.int .i64 xk, .string xa, .string xb, .string xc, .string xd] 23)
  replace bI := bI.alloc (.cells #[.int .i64 xk, .string xa, .string xb, .string xc, .string xd] 23)
  replace bO := bO.alloc (.cells #[.int .i64 xk, .string xa, .string xb, .string xc, .string xd] 23)
  replace hx := hx.alloc (.cells #[.int .i64 xk, .string xa, .string xb, .string xc, .string xd] 23)
  have f10PC := bP.cell
  have f10PF := bP.free
  have f10PZ := bP.lt
  have f10IC := bI.cell
  have f10IF := bI.free
  have f10IZ := bI.lt
  have f10OC := bO.cell
  have f10OF := bO.free
  have f10OZ := bO.lt
  have f10XC := bX.cell
  have f10XF := bX.free
  have f10XZ := bX.lt
  go_wp2_with fail
  refine (CT.out _ hx).mono ?_
  rintro e w8 ⟨rfl, hy⟩
  replace bP := bP.ext hy
  replace bI := bI.ext hy
  replace bO := bO.ext hy
  replace bX := bX.ext hy
  replace hx := hx.trans hy
  clear hy
  clear f9PC f9PF f9PZ f9IC f9IF f9IZ f9OC f9OF f9OZ f10PC f10PF f10PZ f10IC f10IF f10IZ f10OC f10OF f10OZ f10XC f10XF f10XZ
  have f11PC := bP.cell
  have f11PF := bP.free
  have f11PZ := bP.lt
  have f11IC := bI.cell
  have f11IF := bI.free
  have f11IZ := bI.lt
  have f11OC := bO.cell
  have f11OF := bO.free
  have f11OZ := bO.lt
  have f11XC := bX.cell
  have f11XF := bX.free
  have f11XZ := bX.lt
  by_cases hl : X.size ≤ 4000
  · obtain ⟨hv, rfl⟩ := HPR.out hl
    injection hv with hv
    have hv := Array.mk.inj hv
    simp only [List.cons.injEq, Value.int.injEq, Value.string.injEq, and_true, true_and] at hv
    obtain ⟨rfl, rfl, rfl, rfl, rfl⟩ := hv
    have hl2 : (X.size : Int) ≤ 4000 := by omega
    go_wp2_with fail
    refine (CQ.out _ hx).mono ?_
    rintro e w9 ⟨rfl, hy⟩
    replace bP := bP.ext hy
    replace bI := bI.ext hy
    replace bO := bO.ext hy
    replace bX := bX.ext hy
    replace hx := hx.trans hy
    clear hy
    clear f11PC f11PF f11PZ f11IC f11IF f11IZ f11OC f11OF f11OZ f11XC f11XF f11XZ
    have f12PC := bP.cell
    have f12PF := bP.free
    have f12PZ := bP.lt
    have f12IC := bI.cell
    have f12IF := bI.free
    have f12IZ := bI.lt
    have f12OC := bO.cell
    have f12OF := bO.free
    have f12OZ := bO.lt
    have f12XC := bX.cell
    have f12XF := bX.free
    have f12XZ := bX.lt
    have bA := Blk.new w9 23 #[.int .i64 qk, .string qa, .string qb, .string qc, .string qd]
    replace bP := bP.alloc (.cells #[.int .i64 qk, .string qa, .string qb, .string qc, .string qd] 23)
    replace bI := bI.alloc (.cells #[.int .i64 qk, .string qa, .string qb, .string qc, .string qd] 23)
    replace bO := bO.alloc (.cells #[.int .i64 qk, .string qa, .string qb, .string qc, .string qd] 23)
    replace bX := bX.alloc (.cells #[.int .i64 qk, .string qa, .string qb, .string qc, .string qd] 23)
    replace hx := hx.alloc (.cells #[.int .i64 qk, .string qa, .string qb, .string qc, .string qd] 23)
    have f13PC := bP.cell
    have f13PF := bP.free
    have f13PZ := bP.lt
    have f13IC := bI.cell
    have f13IF := bI.free
    have f13IZ := bI.lt
    have f13OC := bO.cell
    have f13OF := bO.free
    have f13OZ := bO.lt
    have f13XC := bX.cell
    have f13XF := bX.free
    have f13XZ := bX.lt
    have f13AC := bA.cell
    have f13AF := bA.free
    have f13AZ := bA.lt
    go_wp2_with fail
    refine (CR.out _ hx).mono ?_
    rintro e w10 ⟨rfl, hy⟩
    replace bP := bP.ext hy
    replace bI := bI.ext hy
    replace bO := bO.ext hy
    replace bX := bX.ext hy
    replace bA := bA.ext hy
    replace hx := hx.trans hy
    clear hy
    clear f12PC f12PF f12PZ f12IC f12IF f12IZ f12OC f12OF f12OZ f12XC f12XF f12XZ f13PC f13PF f13PZ f13IC f13IF f13IZ f13OC f13OF f13OZ f13XC f13XF f13XZ f13AC f13AF f13AZ
    have f14PC := bP.cell
    have f14PF := bP.free
    have f14PZ := bP.lt
    have f14IC := bI.cell
    have f14IF := bI.free
    have f14IZ := bI.lt
    have f14OC := bO.cell
    have f14OF := bO.free
    have f14OZ := bO.lt
    have f14XC := bX.cell
    have f14XF := bX.free
    have f14XZ := bX.lt
    have f14AC := bA.cell
    have f14AF := bA.free
    have f14AZ := bA.lt
    have bB := Blk.new w10 23 #[.int .i64 qk, .string qa, .string qb, .string qc, .string qd]
    replace bP := bP.alloc (.cells #[.int .i64 qk, .string qa, .string qb, .string qc, .string qd] 23)
    replace bI := bI.alloc (.cells #[.int .i64 qk, .string qa, .string qb, .string qc, .string qd] 23)
    replace bO := bO.alloc (.cells #[.int .i64 qk, .string qa, .string qb, .string qc, .string qd] 23)
    replace bX := bX.alloc (.cells #[.int .i64 qk, .string qa, .string qb, .string qc, .string qd] 23)
    replace bA := bA.alloc (.cells #[.int .i64 qk, .string qa, .string qb, .string qc, .string qd] 23)
    replace hx := hx.alloc (.cells #[.int .i64 qk, .string qa, .string qb, .string qc, .string qd] 23)
    have f15PC := bP.cell
    have f15PF := bP.free
    have f15PZ := bP.lt
    have f15IC := bI.cell
    have f15IF := bI.free
    have f15IZ := bI.lt
    have f15OC := bO.cell
    have f15OF := bO.free
    have f15OZ := bO.lt
    have f15XC := bX.cell
    have f15XF := bX.free
    have f15XZ := bX.lt
    have f15AC := bA.cell
    have f15AF := bA.free
    have f15AZ := bA.lt
    have f15BC := bB.cell
    have f15BF := bB.free
    have f15BZ := bB.lt
    go_wp2
    go_ret
    exact ⟨rfl, hx⟩
  · have hl2 : ¬ (X.size : Int) ≤ 4000 := by omega
    go_wp2_with fail
    refine (CQ.out _ hx).mono ?_
    rintro e w9 ⟨rfl, hy⟩
    replace bP := bP.ext hy
    replace bI := bI.ext hy
    replace bO := bO.ext hy
    replace bX := bX.ext hy
    replace hx := hx.trans hy
    clear hy
    clear f11PC f11PF f11PZ f11IC f11IF f11IZ f11OC f11OF f11OZ f11XC f11XF f11XZ
    have f12PC := bP.cell
    have f12PF := bP.free
    have f12PZ := bP.lt
    have f12IC := bI.cell
    have f12IF := bI.free
    have f12IZ := bI.lt
    have f12OC := bO.cell
    have f12OF := bO.free
    have f12OZ := bO.lt
    have f12XC := bX.cell
    have f12XF := bX.free
    have f12XZ := bX.lt
    have bA := Blk.new w9 23 #[.int .i64 qk, .string qa, .string qb, .string qc, .string qd]
    replace bP := bP.alloc (.cells #[.int .i64 qk, .string qa, .string qb, .string qc, .string qd] 23)
    replace bI := bI.alloc (.cells #[.int .i64 qk, .string qa, .string qb, .string qc, .string qd] 23)
    replace bO := bO.alloc (.cells #[.int .i64 qk, .string qa, .string qb, .string qc, .string qd] 23)
    replace bX := bX.alloc (.cells #[.int .i64 qk, .string qa, .string qb, .string qc, .string qd] 23)
    replace hx := hx.alloc (.cells #[.int .i64 qk, .string qa, .string qb, .string qc, .string qd] 23)
    have f13PC := bP.cell
    have f13PF := bP.free
    have f13PZ := bP.lt
    have f13IC := bI.cell
    have f13IF := bI.free
    have f13IZ := bI.lt
    have f13OC := bO.cell
    have f13OF := bO.free
    have f13OZ := bO.lt
    have f13XC := bX.cell
    have f13XF := bX.free
    have f13XZ := bX.lt
    have f13AC := bA.cell
    have f13AF := bA.free
    have f13AZ := bA.lt
    go_wp2_with fail
    refine (CR.out _ hx).mono ?_
    rintro e w10 ⟨rfl, hy⟩
    replace bP := bP.ext hy
    replace bI := bI.ext hy
    replace bO := bO.ext hy
    replace bX := bX.ext hy
    replace bA := bA.ext hy
    replace hx := hx.trans hy
    clear hy
    clear f12PC f12PF f12PZ f12IC f12IF f12IZ f12OC f12OF f12OZ f12XC f12XF f12XZ f13PC f13PF f13PZ f13IC f13IF f13IZ f13OC f13OF f13OZ f13XC f13XF f13XZ f13AC f13AF f13AZ
    have f14PC := bP.cell
    have f14PF := bP.free
    have f14PZ := bP.lt
    have f14IC := bI.cell
    have f14IF := bI.free
    have f14IZ := bI.lt
    have f14OC := bO.cell
    have f14OF := bO.free
    have f14OZ := bO.lt
    have f14XC := bX.cell
    have f14XF := bX.free
    have f14XZ := bX.lt
    have f14AC := bA.cell
    have f14AF := bA.free
    have f14AZ := bA.lt
    have bB := Blk.new w10 23 #[.int .i64 qk, .string qa, .string qb, .string qc, .string qd]
    replace bP := bP.alloc (.cells #[.int .i64 qk, .string qa, .string qb, .string qc, .string qd] 23)
    replace bI := bI.alloc (.cells #[.int .i64 qk, .string qa, .string qb, .string qc, .string qd] 23)
    replace bO := bO.alloc (.cells #[.int .i64 qk, .string qa, .string qb, .string qc, .string qd] 23)
    replace bX := bX.alloc (.cells #[.int .i64 qk, .string qa, .string qb, .string qc, .string qd] 23)
    replace bA := bA.alloc (.cells #[.int .i64 qk, .string qa, .string qb, .string qc, .string qd] 23)
    replace hx := hx.alloc (.cells #[.int .i64 qk, .string qa, .string qb, .string qc, .string qd] 23)
    have f15PC := bP.cell
    have f15PF := bP.free
    have f15PZ := bP.lt
    have f15IC := bI.cell
    have f15IF := bI.free
    have f15IZ := bI.lt
    have f15OC := bO.cell
    have f15OF := bO.free
    have f15OZ := bO.lt
    have f15XC := bX.cell
    have f15XF := bX.free
    have f15XZ := bX.lt
    have f15AC := bA.cell
    have f15AF := bA.free
    have f15AZ := bA.lt
    have f15BC := bB.cell
    have f15BF := bB.free
    have f15BZ := bB.lt
    go_wp2
    go_ret
    exact ⟨rfl, hx⟩
theorem RulesMatch_any (r : RB) (s : ByteArray) (w : World) (hg : Good w) (hs : SmallR r) (hz : s.size ≤ 2097152) :
    Calls Tryz.prog 3 #[ruV r, .string s] w fun e w' => e = .returned (.bool true) ∧ Ext w w' := by
  obtain ⟨rk, ra, rb, rc, rd⟩ := r
  by_cases h0 : ruErr (RB.l ⟨rk, ra, rb, rc, rd⟩) = 0
  · exact RulesMatch_ok rk ra rb rc rd s w hg hs hz h0
  · exact RulesMatch_bad rk ra rb rc rd s w hg hs hz h0
end Go.Proofs.YtncagihilplliaaGreatDoor
