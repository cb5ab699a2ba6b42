/- The contract of ver.meet. -/
import Derived.Test.YtcmceeihdhcmnaaGreatDoorRm33
import Derived.Deep.DeepCutAuto
import Derived.RegionTactic

namespace Go.Proofs.YtcmceeihdhcmnaaGreatDoor
open Go.RowKit

theorem Ext.setBlk {a w : World} (h : Ext a w) {g i : Nat} (hg : a.heap.size ≤ g) (u : Value) : Ext a (w.setCell ⟨g, i, none⟩ u) := h.setCell hg u
theorem Blk.drew {w : World} {g : Nat} {t : TypeId} {cs : Array Value} (h : Blk w g t cs) : Blk w.drew g t cs := h
abbrev spA (s : Sp) : Array Value := #[.bool s.hf, .bool s.ht, .int .i64 s.f.a1, .int .i64 s.f.a2, .int .i64 s.f.a3, .string s.f.a, .int .i64 s.t.a1, .int .i64 s.t.a2, .int .i64 s.t.a3, .string s.t.a]
set_option maxHeartbeats 8000000 in
set_option maxRecDepth 100000 in
theorem meet_any (a b : Sp) (w : World) (hg : Good w) (h1 : a.f.a.size ≤ 2097152) (h2 : a.t.a.size ≤ 2097152) (h3 : b.f.a.size ≤ 2097152) (h4 : b.t.a.size ≤ 2097152) :
    Calls Tryz.prog 118 #[spV a, spV b] w fun e w' => e = .returned (.tuple #[spV (meetS a b), .bool (okS (meetS a b))]) ∧ Ext w w' := by
  obtain ⟨af, at', ⟨f1, f2, f3, fa⟩, ⟨t1, t2, t3, ta⟩⟩ := a
  obtain ⟨bf, bt, ⟨p1, p2, p3, pa⟩, ⟨q1, q2, q3, qa⟩⟩ := b
  dsimp only at h1 h2 h3 h4
  have cF := fun W (h : Ext w W) => Order_any p1 p2 p3 f1 f2 f3 pa fa W (hg.ext h) h3 h1
  have cT := fun W (h : Ext w W) => Order_any q1 q2 q3 t1 t2 t3 qa ta W (hg.ext h) h4 h2
  -- what the call gives, part by part
  obtain ⟨P, hP⟩ : ∃ P : Bool, (bf && (!af || decide (0 < orderL p1 p2 p3 (bs pa) f1 f2 f3 (bs fa)))) = P := ⟨_, rfl⟩
  obtain ⟨Q, hQ⟩ : ∃ Q : Bool, (bt && (!at' || decide (orderL q1 q2 q3 (bs qa) t1 t2 t3 (bs ta) < 0))) = Q := ⟨_, rfl⟩
  have hM : meetS ⟨af, at', ⟨f1, f2, f3, fa⟩, ⟨t1, t2, t3, ta⟩⟩ ⟨bf, bt, ⟨p1, p2, p3, pa⟩, ⟨q1, q2, q3, qa⟩⟩ = ⟨if P = true then true else af, if Q = true then true else at', if P = true then ⟨p1, p2, p3, pa⟩ else ⟨f1, f2, f3, fa⟩, if Q = true then ⟨q1, q2, q3, qa⟩ else ⟨t1, t2, t3, ta⟩⟩ := by rw [← hP, ← hQ]; rfl
  rw [hM]
  clear hM
  obtain ⟨af1, g11, g12, g13, g1a, hG⟩ : ∃ (x : Bool) (y1 y2 y3 : Int) (y : ByteArray), x = (if P = true then true else af) ∧ (⟨y1, y2, y3, y⟩ : V4) = (if P = true then ⟨p1, p2, p3, pa⟩ else ⟨f1, f2, f3, fa⟩) := by
    cases P
    · exact ⟨_, f1, f2, f3, fa, rfl, rfl⟩
    · exact ⟨_, p1, p2, p3, pa, rfl, rfl⟩
  obtain ⟨at1, s11, s12, s13, s1a, hS⟩ : ∃ (x : Bool) (y1 y2 y3 : Int) (y : ByteArray), x = (if Q = true then true else at') ∧ (⟨y1, y2, y3, y⟩ : V4) = (if Q = true then ⟨q1, q2, q3, qa⟩ else ⟨t1, t2, t3, ta⟩) := by
    cases Q
    · exact ⟨_, t1, t2, t3, ta, rfl, rfl⟩
    · exact ⟨_, q1, q2, q3, qa, rfl, rfl⟩
  rw [← hG.1, ← hG.2, ← hS.1, ← hS.2]
  have hz1 : g1a.size ≤ 2097152 := by
    have e := congrArg V4.a hG.2
    cases P
    · exact (show g1a = fa from e) ▸ h1
    · exact (show g1a = pa from e) ▸ h3
  have hz2 : s1a.size ≤ 2097152 := by
    have e := congrArg V4.a hS.2
    cases Q
    · exact (show s1a = ta from e) ▸ h2
    · exact (show s1a = qa from e) ▸ h4
  have cO := fun W (h : Ext w W) => Order_any g11 g12 g13 s11 s12 s13 g1a s1a W (hg.ext h) hz1 hz2
  have hOK : okS ⟨af1, at1, ⟨g11, g12, g13, g1a⟩, ⟨s11, s12, s13, s1a⟩⟩ = (!af1 || !at1 || decide (orderL g11 g12 g13 (bs g1a) s11 s12 s13 (bs s1a) < 0)) := rfl
  rw [hOK]
  generalize orderL g11 g12 g13 (bs g1a) s11 s12 s13 (bs s1a) = OO at *
  have CO := Lib.hid cO
  have HG := Lib.hid hG; have HS := Lib.hid hS
  clear hG hS cO hOK hz1 hz2
  generalize orderL p1 p2 p3 (bs pa) f1 f2 f3 (bs fa) = OF at *
  generalize orderL q1 q2 q3 (bs qa) t1 t2 t3 (bs ta) = OT at *
  have CF := Lib.hid cF; have CT := Lib.hid cT; have HP := Lib.hid hP; have HQ := Lib.hid hQ
  clear cF cT hP hQ
  have bA := ((Blk.new w 127 #[.bool af, .bool at', .int .i64 f1, .int .i64 f2, .int .i64 f3, .string fa, .int .i64 t1, .int .i64 t2, .int .i64 t3, .string ta]).alloc (.cells #[.bool bf, .bool bt, .int .i64 p1, .int .i64 p2, .int .i64 p3, .string pa, .int .i64 q1, .int .i64 q2, .int .i64 q3, .string qa] 127)).alloc (.cells #[.bool false, .bool false, .int .i64 0, .int .i64 0, .int .i64 0, .string ⟨#[]⟩, .int .i64 0, .int .i64 0, .int .i64 0, .string ⟨#[]⟩] 127)
  have bB := (Blk.new (w.alloc (.cells #[.bool af, .bool at', .int .i64 f1, .int .i64 f2, .int .i64 f3, .string fa, .int .i64 t1, .int .i64 t2, .int .i64 t3, .string ta] 127)) 127 #[.bool bf, .bool bt, .int .i64 p1, .int .i64 p2, .int .i64 p3, .string pa, .int .i64 q1, .int .i64 q2, .int .i64 q3, .string qa]).alloc (.cells #[.bool false, .bool false, .int .i64 0, .int .i64 0, .int .i64 0, .string ⟨#[]⟩, .int .i64 0, .int .i64 0, .int .i64 0, .string ⟨#[]⟩] 127)
  have bR := Blk.new ((w.alloc (.cells #[.bool af, .bool at', .int .i64 f1, .int .i64 f2, .int .i64 f3, .string fa, .int .i64 t1, .int .i64 t2, .int .i64 t3, .string ta] 127)).alloc (.cells #[.bool bf, .bool bt, .int .i64 p1, .int .i64 p2, .int .i64 p3, .string pa, .int .i64 q1, .int .i64 q2, .int .i64 q3, .string qa] 127)) 127 #[.bool false, .bool false, .int .i64 0, .int .i64 0, .int .i64 0, .string ⟨#[]⟩, .int .i64 0, .int .i64 0, .int .i64 0, .string ⟨#[]⟩]
  rw [World.size_alloc] at bB
  rw [World.size_alloc, World.size_alloc] at bR
  have hx0 : Ext w (((w.alloc (.cells #[.bool af, .bool at', .int .i64 f1, .int .i64 f2, .int .i64 f3, .string fa, .int .i64 t1, .int .i64 t2, .int .i64 t3, .string ta] 127)).alloc (.cells #[.bool bf, .bool bt, .int .i64 p1, .int .i64 p2, .int .i64 p3, .string pa, .int .i64 q1, .int .i64 q2, .int .i64 q3, .string qa] 127)).alloc (.cells #[.bool false, .bool false, .int .i64 0, .int .i64 0, .int .i64 0, .string ⟨#[]⟩, .int .i64 0, .int .i64 0, .int .i64 0, .string ⟨#[]⟩] 127)) := (((Ext.refl w).alloc _).alloc _).alloc _
  go_enter Tryz.func118, Tryz.ntmps118
  go_upto_region 1 with fail
  go_cut [20] (fun s wx => s = .bool P ∧ Blk wx w.heap.size 127 #[.bool af, .bool at', .int .i64 f1, .int .i64 f2, .int .i64 f3, .string fa, .int .i64 t1, .int .i64 t2, .int .i64 t3, .string ta] ∧ Blk wx (w.heap.size + 1) 127 #[.bool bf, .bool bt, .int .i64 p1, .int .i64 p2, .int .i64 p3, .string pa, .int .i64 q1, .int .i64 q2, .int .i64 q3, .string qa] ∧ Blk wx (w.heap.size + 1 + 1) 127 #[.bool false, .bool false, .int .i64 0, .int .i64 0, .int .i64 0, .string ⟨#[]⟩, .int .i64 0, .int .i64 0, .int .i64 0, .string ⟨#[]⟩] ∧ Ext w wx)
  case first =>
    cases bf
    · go_wp2
      go_meet
      case rel => exact ⟨by rw [← HP.out]; rfl, bA, bB, bR, hx0⟩
    cases af
    · go_wp2
      go_meet
      case rel => exact ⟨by rw [← HP.out]; rfl, bA, bB, bR, hx0⟩
    go_wp2_with fail
    refine (CF.out _ hx0).mono ?_
    rintro e w1 ⟨rfl, hx1⟩
    go_wp2
    go_meet
    case rel => exact ⟨by rw [← HP.out]; simp, bA.ext hx1, bB.ext hx1, bR.ext hx1, hx0.trans hx1⟩
  case rest =>
    obtain ⟨rfl, bA1, bB1, bR1, hxa⟩ := hcut
    clear bA bB bR hx0
    go_upto_if 20 with fail
    go_cut [] (fun wx => Blk wx w.heap.size 127 #[.bool af1, .bool at', .int .i64 g11, .int .i64 g12, .int .i64 g13, .string g1a, .int .i64 t1, .int .i64 t2, .int .i64 t3, .string ta] ∧ Blk wx (w.heap.size + 1) 127 #[.bool bf, .bool bt, .int .i64 p1, .int .i64 p2, .int .i64 p3, .string pa, .int .i64 q1, .int .i64 q2, .int .i64 q3, .string qa] ∧ Blk wx (w.heap.size + 1 + 1) 127 #[.bool false, .bool false, .int .i64 0, .int .i64 0, .int .i64 0, .string ⟨#[]⟩, .int .i64 0, .int .i64 0, .int .i64 0, .string ⟨#[]⟩] ∧ Ext w wx)
    case first =>
      have cA1 := bA1.cell; have cB1 := bB1.cell
      have fA1 := bA1.free
      have lA1 := bA1.lt; have lB1 := bB1.lt; have lR1 := bR1.lt
      cases P
      · go_wp2
        go_meet
        case rel =>
          obtain ⟨e1, e2⟩ := HG.out
          simp only [Bool.false_eq_true, if_false, V4.mk.injEq] at e1 e2
          obtain ⟨e2, e3, e4, e5⟩ := e2
          subst e1 e2 e3 e4 e5
          exact ⟨bA1, bB1, bR1, hxa⟩
      · go_wp2
        go_region
        all_goals
          go_wp2
          go_meet
          case rel =>
            obtain ⟨e1, e2⟩ := HG.out
            simp only [if_true, V4.mk.injEq] at e1 e2
            obtain ⟨e2, e3, e4, e5⟩ := e2
            subst e1 e2 e3 e4 e5
            exact ⟨(((((bA1.set 0 _).set 2 _).set 3 _).set 4 _).set 5 _).drew, (Blk.drew (Blk.far (p := ⟨w.heap.size, 5, none⟩) (Blk.far (p := ⟨w.heap.size, 4, none⟩) (Blk.far (p := ⟨w.heap.size, 3, none⟩) (Blk.far (p := ⟨w.heap.size, 2, none⟩) (Blk.far (p := ⟨w.heap.size, 0, none⟩) bB1 (show w.heap.size + 1 ≠ w.heap.size by omega) _) (show w.heap.size + 1 ≠ w.heap.size by omega) _) (show w.heap.size + 1 ≠ w.heap.size by omega) _) (show w.heap.size + 1 ≠ w.heap.size by omega) _) (show w.heap.size + 1 ≠ w.heap.size by omega) _)), (Blk.drew (Blk.far (p := ⟨w.heap.size, 5, none⟩) (Blk.far (p := ⟨w.heap.size, 4, none⟩) (Blk.far (p := ⟨w.heap.size, 3, none⟩) (Blk.far (p := ⟨w.heap.size, 2, none⟩) (Blk.far (p := ⟨w.heap.size, 0, none⟩) bR1 (show w.heap.size + 1 + 1 ≠ w.heap.size by omega) _) (show w.heap.size + 1 + 1 ≠ w.heap.size by omega) _) (show w.heap.size + 1 + 1 ≠ w.heap.size by omega) _) (show w.heap.size + 1 + 1 ≠ w.heap.size by omega) _) (show w.heap.size + 1 + 1 ≠ w.heap.size by omega) _)), ((((((hxa.setCell (Nat.le_refl _) _).setCell (Nat.le_refl _) _).setCell (Nat.le_refl _) _).setCell (Nat.le_refl _) _).setCell (Nat.le_refl _) _)).drew⟩

    case rest =>
      obtain ⟨bA2, bB2, bR2, hxb⟩ := hcut
      clear bA1 bB1 bR1 hxa HG HP CF
      rename_i wd
      go_upto_region 3 with fail
      go_cut [39] (fun s wx => s = .bool Q ∧ Blk wx w.heap.size 127 #[.bool af1, .bool at', .int .i64 g11, .int .i64 g12, .int .i64 g13, .string g1a, .int .i64 t1, .int .i64 t2, .int .i64 t3, .string ta] ∧ Blk wx (w.heap.size + 1) 127 #[.bool bf, .bool bt, .int .i64 p1, .int .i64 p2, .int .i64 p3, .string pa, .int .i64 q1, .int .i64 q2, .int .i64 q3, .string qa] ∧ Blk wx (w.heap.size + 1 + 1) 127 #[.bool false, .bool false, .int .i64 0, .int .i64 0, .int .i64 0, .string ⟨#[]⟩, .int .i64 0, .int .i64 0, .int .i64 0, .string ⟨#[]⟩] ∧ Ext w wx)
      case first =>
        have cA1 := bA2.cell; have cB1 := bB2.cell
        have lA1 := bA2.lt; have lB1 := bB2.lt; have lR1 := bR2.lt
        cases bt
        · go_wp2
          go_meet
          case rel => exact ⟨by rw [← HQ.out]; rfl, bA2, bB2, bR2, hxb⟩
        cases at'
        · go_wp2
          go_meet
          case rel => exact ⟨by rw [← HQ.out]; rfl, bA2, bB2, bR2, hxb⟩
        go_wp2_with fail
        refine (CT.out _ hxb).mono ?_
        rintro e w1 ⟨rfl, hx1⟩
        go_wp2
        go_meet
        case rel => exact ⟨by rw [← HQ.out]; simp, bA2.ext hx1, bB2.ext hx1, bR2.ext hx1, hxb.trans hx1⟩
      case rest =>
        obtain ⟨rfl, bA3, bB3, bR3, hxc⟩ := hcut
        clear bA2 bB2 bR2 hxb
        go_upto_if 39 with fail
        go_cut [] (fun wx => Blk wx w.heap.size 127 #[.bool af1, .bool at1, .int .i64 g11, .int .i64 g12, .int .i64 g13, .string g1a, .int .i64 s11, .int .i64 s12, .int .i64 s13, .string s1a] ∧ Blk wx (w.heap.size + 1) 127 #[.bool bf, .bool bt, .int .i64 p1, .int .i64 p2, .int .i64 p3, .string pa, .int .i64 q1, .int .i64 q2, .int .i64 q3, .string qa] ∧ Blk wx (w.heap.size + 1 + 1) 127 #[.bool false, .bool false, .int .i64 0, .int .i64 0, .int .i64 0, .string ⟨#[]⟩, .int .i64 0, .int .i64 0, .int .i64 0, .string ⟨#[]⟩] ∧ Ext w wx)
        case first =>
          have cA1 := bA3.cell; have cB1 := bB3.cell
          have fA1 := bA3.free
          have lA1 := bA3.lt; have lB1 := bB3.lt; have lR1 := bR3.lt
          cases Q
          · go_wp2
            go_meet
            case rel =>
              obtain ⟨e1, e2⟩ := HS.out
              simp only [Bool.false_eq_true, if_false, V4.mk.injEq] at e1 e2
              obtain ⟨e2, e3, e4, e5⟩ := e2
              subst e1 e2 e3 e4 e5
              exact ⟨bA3, bB3, bR3, hxc⟩
          · go_wp2
            go_region
            all_goals
              go_wp2
              go_meet
              case rel =>
                obtain ⟨e1, e2⟩ := HS.out
                simp only [if_true, V4.mk.injEq] at e1 e2
                obtain ⟨e2, e3, e4, e5⟩ := e2
                subst e1 e2 e3 e4 e5
                exact ⟨(((((bA3.set 1 _).set 6 _).set 7 _).set 8 _).set 9 _).drew, (Blk.drew (Blk.far (p := ⟨w.heap.size, 9, none⟩) (Blk.far (p := ⟨w.heap.size, 8, none⟩) (Blk.far (p := ⟨w.heap.size, 7, none⟩) (Blk.far (p := ⟨w.heap.size, 6, none⟩) (Blk.far (p := ⟨w.heap.size, 1, none⟩) bB3 (show w.heap.size + 1 ≠ w.heap.size by omega) _) (show w.heap.size + 1 ≠ w.heap.size by omega) _) (show w.heap.size + 1 ≠ w.heap.size by omega) _) (show w.heap.size + 1 ≠ w.heap.size by omega) _) (show w.heap.size + 1 ≠ w.heap.size by omega) _)), (Blk.drew (Blk.far (p := ⟨w.heap.size, 9, none⟩) (Blk.far (p := ⟨w.heap.size, 8, none⟩) (Blk.far (p := ⟨w.heap.size, 7, none⟩) (Blk.far (p := ⟨w.heap.size, 6, none⟩) (Blk.far (p := ⟨w.heap.size, 1, none⟩) bR3 (show w.heap.size + 1 + 1 ≠ w.heap.size by omega) _) (show w.heap.size + 1 + 1 ≠ w.heap.size by omega) _) (show w.heap.size + 1 + 1 ≠ w.heap.size by omega) _) (show w.heap.size + 1 + 1 ≠ w.heap.size by omega) _) (show w.heap.size + 1 + 1 ≠ w.heap.size by omega) _)), ((((((hxc.setCell (Nat.le_refl _) _).setCell (Nat.le_refl _) _).setCell (Nat.le_refl _) _).setCell (Nat.le_refl _) _).setCell (Nat.le_refl _) _)).drew⟩

        case rest =>
          obtain ⟨bA4, bB4, bR4, hxd⟩ := hcut
          clear bA3 bB3 bR3 hxc HS HQ CT
          rename_i we
          have cA := bA4.cell; have cR := bR4.cell; have fR := bR4.free
          have lA := bA4.lt; have lR := bR4.lt
          cases af1
          · go_wp2
            go_region
            all_goals
              go_wp2
              refine bodyPost_ret (v := .tuple #[spV ⟨false, at1, ⟨g11, g12, g13, g1a⟩, ⟨s11, s12, s13, s1a⟩⟩, .bool true]) (by simp [results, Tryz.results118, go_sem, cR]) rfl ⟨by simp, (by repeat (first | with_reducible exact Ext.refl _ | with_reducible assumption | with_reducible apply Ext.drewN | with_reducible apply Ext.drew | with_reducible apply Ext.alloc | ((with_reducible refine Ext.setCell ?_ ?_ _); rotate_left; (first | (dsimp only; omega) | (simp; omega) | skip)) | exact Ext.refl _ | assumption | apply Ext.drewN | apply Ext.drew | apply Ext.alloc | refine Ext.setCell ?_ (by first | (dsimp only; omega) | (simp; omega)) _))⟩
          cases at1
          · go_wp2
            go_region
            all_goals
              go_wp2
              refine bodyPost_ret (v := .tuple #[spV ⟨true, false, ⟨g11, g12, g13, g1a⟩, ⟨s11, s12, s13, s1a⟩⟩, .bool true]) (by simp [results, Tryz.results118, go_sem, cR]) rfl ⟨by simp, (by repeat (first | with_reducible exact Ext.refl _ | with_reducible assumption | with_reducible apply Ext.drewN | with_reducible apply Ext.drew | with_reducible apply Ext.alloc | ((with_reducible refine Ext.setCell ?_ ?_ _); rotate_left; (first | (dsimp only; omega) | (simp; omega) | skip)) | exact Ext.refl _ | assumption | apply Ext.drewN | apply Ext.drew | apply Ext.alloc | refine Ext.setCell ?_ (by first | (dsimp only; omega) | (simp; omega)) _))⟩
          · have a0 := cA 0; have a1 := cA 1; have a2 := cA 2; have a3 := cA 3; have a4 := cA 4; have a5 := cA 5; have a6 := cA 6; have a7 := cA 7; have a8 := cA 8; have a9 := cA 9
            simp at a0 a1 a2 a3 a4 a5 a6 a7 a8 a9
            go_wp2_with fail
            go_region_with (first | (go_at_call 75; refine (CO.out _ ?_).mono ?_; (next => exact (by repeat (first | with_reducible exact Ext.refl _ | with_reducible assumption | with_reducible apply Ext.drewN | with_reducible apply Ext.drew | with_reducible apply Ext.alloc | ((with_reducible refine Ext.setCell ?_ ?_ _); rotate_left; (first | (dsimp only; omega) | (simp; omega) | skip)) | exact Ext.refl _ | assumption | apply Ext.drewN | apply Ext.drew | apply Ext.alloc | refine Ext.setCell ?_ (by first | (dsimp only; omega) | (simp; omega)) _))); rintro e w1 ⟨rfl, hx1⟩; (obtain ⟨hc1, hf1⟩ := hx1.cells); have hz1 := hx1.size; (try (with_reducible (have bA6 := Blk.ext (Blk.drew bA4) hx1; have bR6 := Blk.ext (Blk.drew bR4) hx1; have cA6 := bA6.cell; have lA6 := bA6.lt; have cR6 := bR6.cell; have fR6 := bR6.free; have lR6 := bR6.lt)))))
            all_goals
              go_wp2
              first
              | (refine bodyPost_ret (v := .tuple #[spV ⟨true, true, ⟨g11, g12, g13, g1a⟩, ⟨s11, s12, s13, s1a⟩⟩, .bool (decide (OO < 0))]) (by simp [results, Tryz.results118, go_sem, cR6]) rfl ⟨by simp, ?_⟩)
              | (refine bodyPost_ret (v := .tuple #[spV ⟨true, true, ⟨g11, g12, g13, g1a⟩, ⟨s11, s12, s13, s1a⟩⟩, .bool (decide (OO < 0))]) (by simp [results, Tryz.results118, go_sem, hc1, cR, fR, lR]) rfl ⟨by simp, ?_⟩)
            all_goals
              have hxe : Ext w w1 := Ext.trans (by repeat (first | with_reducible exact Ext.refl _ | with_reducible assumption | with_reducible apply Ext.drewN | with_reducible apply Ext.drew | with_reducible apply Ext.alloc | ((with_reducible refine Ext.setCell ?_ ?_ _); rotate_left; (first | (dsimp only; omega) | (simp; omega) | skip)) | exact Ext.refl _ | assumption | apply Ext.drewN | apply Ext.drew | apply Ext.alloc | refine Ext.setCell ?_ (by first | (dsimp only; omega) | (simp; omega)) _)) hx1
              first | with_reducible exact hxe | exact (by repeat (first | with_reducible exact Ext.refl _ | with_reducible assumption | with_reducible apply Ext.drewN | with_reducible apply Ext.drew | with_reducible apply Ext.alloc | ((with_reducible refine Ext.setCell ?_ ?_ _); rotate_left; (first | (dsimp only; omega) | (simp; omega) | skip)) | exact Ext.refl _ | assumption | apply Ext.drewN | apply Ext.drew | apply Ext.alloc | refine Ext.setCell ?_ (by first | (dsimp only; omega) | (simp; omega)) _))
end Go.Proofs.YtcmceeihdhcmnaaGreatDoor
