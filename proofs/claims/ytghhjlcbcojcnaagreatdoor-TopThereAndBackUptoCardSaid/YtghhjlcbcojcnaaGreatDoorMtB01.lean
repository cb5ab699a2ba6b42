/- A rule among the arguments. Rules among the arguments. A way of moves is its moves one by one, in plain words. -/
import Derived.Test.YtghhjlcbcojcnaaGreatDoorMt12
import Derived.Test.YtghhjlcbcojcnaaGreatDoorMt14
import Derived.Test.YtghhjlcbcojcnaaGreatDoorMt23
import Derived.Test.YtghhjlcbcojcnaaGreatDoorMt25
import Derived.Test.YtghhjlcbcojcnaaGreatDoorMt38
import Derived.Test.YtghhjlcbcojcnaaGreatDoorMt30
import Derived.Test.YtghhjlcbcojcnaaGreatDoorMt32
import Derived.Test.YtghhjlcbcojcnaaGreatDoorMt03

namespace Go.Proofs.YtghhjlcbcojcnaaGreatDoor
open Go.ChangeShapes Go.WideShapes Go.ChangeAt Go.RowKit Go.WideElems Go.Joins

set_option maxRecDepth 100000 in
theorem opens_rule : Opens 23 (fun _ (r : RB) cs => cs = [.int .i64 r.kind, .string r.key, .string r.tt, .string r.old, .string r.new]) (fun r => r.key.size + r.tt.size + r.old.size + r.new.size + 5) := fun H enc W fuel cs x h => by
  obtain ⟨xs, n, _, rfl, hl, hlen, hf⟩ := DataW.trod_struct Tryz.underlying23 h
  have hc : Tryz.prog.cellsOf 23 = 5 := by kernel_rfl
  have ci : Tryz.prog.cellsOf 3 = 1 := by kernel_rfl
  have cst : Tryz.prog.cellsOf 9 = 1 := by kernel_rfl
  rw [hc] at hl
  match cs, hl, xs, hlen with
  | [c0, c1, c2, c3, c4], _, [y0, y1, y2, y3, y4], _ =>
    have h0 := hf 0 _ rfl
    have h1 := hf 1 _ rfl
    have h2 := hf 2 _ rfl
    have h3 := hf 3 _ rfl
    have h4 := hf 4 _ rfl
    replace h0 : DataW.trod enc Tryz.prog W 0 (fun _ => true) true n 3 (([c0, c1, c2, c3, c4].drop 0).take (Tryz.prog.cellsOf 3)) = some y0 := h0
    replace h1 : DataW.trod enc Tryz.prog W 0 (fun _ => true) true n 9 (([c0, c1, c2, c3, c4].drop 1).take (Tryz.prog.cellsOf 9)) = some y1 := h1
    replace h2 : DataW.trod enc Tryz.prog W 0 (fun _ => true) true n 9 (([c0, c1, c2, c3, c4].drop 2).take (Tryz.prog.cellsOf 9)) = some y2 := h2
    replace h3 : DataW.trod enc Tryz.prog W 0 (fun _ => true) true n 9 (([c0, c1, c2, c3, c4].drop 3).take (Tryz.prog.cellsOf 9)) = some y3 := h3
    replace h4 : DataW.trod enc Tryz.prog W 0 (fun _ => true) true n 9 (([c0, c1, c2, c3, c4].drop 4).take (Tryz.prog.cellsOf 9)) = some y4 := h4
    rw [ci] at h0
    rw [cst] at h1 h2 h3 h4
    obtain ⟨k, e0, b0⟩ := opens_int Tryz.underlying3 H enc W n _ _ h0
    obtain ⟨a1, e1, b1⟩ := opens_string Tryz.underlying9 H enc W n _ _ h1
    obtain ⟨a2, e2, b2⟩ := opens_string Tryz.underlying9 H enc W n _ _ h2
    obtain ⟨a3, e3, b3⟩ := opens_string Tryz.underlying9 H enc W n _ _ h3
    obtain ⟨a4, e4, b4⟩ := opens_string Tryz.underlying9 H enc W n _ _ h4
    simp at e0 e1 e2 e3 e4
    subst e0 e1 e2 e3 e4
    exact ⟨⟨k, a1, a2, a3, a4⟩, rfl, by dsimp only at b0 b1 b2 b3 b4 ⊢; simp only [List.map_cons, List.map_nil, Rows.uptoBulk, Rows.uptoBulkAll]; omega⟩
end Go.Proofs.YtghhjlcbcojcnaaGreatDoor

namespace Go.Proofs.YtghhjlcbcojcnaaGreatDoor
open Go.ChangeShapes Go.WideShapes Go.ChangeAt Go.RowKit Go.WideElems Go.Joins

instance : Inhabited RB := ⟨⟨0, ⟨#[]⟩, ⟨#[]⟩, ⟨#[]⟩, ⟨#[]⟩⟩⟩
theorem rowOf_rules {W : World} {A : Option Addr} {l : List RB} (h : RowOf (fun _ (r : RB) cs => cs = [.int .i64 r.kind, .string r.key, .string r.tt, .string r.old, .string r.new]) 5 W A l) : RdU W A l := fun hne => by
  obtain ⟨b, o, rfl, hc⟩ := h hne
  refine ⟨b, o, rfl, ?_, ?_, ?_, ?_, ?_⟩ <;> intro k hk <;> obtain ⟨ecs, rfl, _, hj⟩ := hc k hk
  · exact hj 0 (by omega)
  · exact hj 1 (by omega)
  · exact hj 2 (by omega)
  · exact hj 3 (by omega)
  · exact hj 4 (by omega)
set_option maxRecDepth 100000 in
/-- rules, of a bulk -/
theorem open_rules {H : Type} {enc : TypeId × Value → H} {W : World} {base : Nat} {v : Value} {d : DataW H} {p : List MemPlace} (hv : Value.okWide Tryz.prog W .any base 91 v) (h : DataW.Trod enc Tryz.prog W 0 (fun _ => true) true 91 v d p) :
    ∃ A c l, v = .slice A l.length c ∧ RdU W A l ∧ (∀ r ∈ l, r.key.size + r.tt.size + r.old.size + r.new.size ≤ Rows.uptoBulk d) ∧ l.length * 5 ≤ Rows.uptoBulk d := by
  obtain ⟨a, len, cap, rfl⟩ := okWide_slice Tryz.underlying91 hv
  obtain ⟨fuel, hf⟩ := h
  obtain ⟨l, ⟨A, c, e, hr⟩, hb⟩ := opens_slice (sz := 5) Tryz.underlying91 (by kernel_rfl) (by decide) opens_rule H enc W fuel _ _ hf
  refine ⟨A, c, l, ?_, rowOf_rules hr, fun s hs => ?_, ?_⟩
  · have e : [Value.slice a len cap] = [.slice A l.length c] := e
    injection e
  · have := sum_mem (bk := fun r : RB => r.key.size + r.tt.size + r.old.size + r.new.size + 5) hs
    dsimp only at this hb
    omega
  · have := sum_len (bk := fun r : RB => r.key.size + r.tt.size + r.old.size + r.new.size + 5) (c := 5) (fun a => by omega) l
    dsimp only at this hb
    omega
end Go.Proofs.YtghhjlcbcojcnaaGreatDoor

namespace Go.Proofs.YtghhjlcbcojcnaaGreatDoor
open Go.RowKit

theorem V4.cmp_self (v : V4) (h : v.err = 0) : compareV v.a1 v.a2 v.a3 (bs v.a) v.a1 v.a2 v.a3 (bs v.a) = 0 ∧ bothV v.a1 v.a2 v.a3 (bs v.a) v.a1 v.a2 v.a3 (bs v.a) = 0 := by
  have h1 : checkV v.a1 v.a2 v.a3 (bs v.a) = 0 := h
  have hb : bothV v.a1 v.a2 v.a3 (bs v.a) v.a1 v.a2 v.a3 (bs v.a) = 0 := by
    rw [bothV, firstI, if_pos h1, firstI, if_pos h1, firstI]
  refine ⟨?_, hb⟩
  rw [compareV, if_pos hb]
  have := V4.ord_neg v v
  show v.ord v = 0
  omega
theorem way_best {ms : List Mv} {v0 vt : V4} (h : wayR ms v0 vt = 0) : BestW ms v0 vt (wayL ms v0 vt) := by
  by_cases hb : ∃ p, BestW ms v0 vt p
  · obtain ⟨p, hp⟩ := hb
    rw [(way_found (wayR_ok h) hp).2]
    exact hp
  · have hn : wayP ms v0 vt = none := by unfold wayP; rw [dif_neg hb]
    rw [wayR, if_pos (wayR_ok h), hn] at h
    cases h
/-- where one is behind k moves -/
def atV (ms : List Mv) (v0 : V4) (P : List Nat) (k : Nat) : V4 := endP (tgtF ms) v0 (P.take k)
theorem atV_succ {ms : List Mv} {v0 : V4} {P : List Nat} {k : Nat} (h : k < P.length) : atV ms v0 P (k + 1) = tgtF ms P[k] := by
  unfold atV
  rw [take_next (List.getElem?_eq_getElem h), endP_snoc]
theorem atV_all {ms : List Mv} {v0 vt : V4} (h : wayR ms v0 vt = 0) : atV ms v0 (wayL ms v0 vt) (wayL ms v0 vt).length = vt := by
  unfold atV
  rw [List.take_of_length_le (Nat.le_refl _)]
  exact (way_best h).fin
theorem split_at {P : List Nat} {k : Nat} (h : k < P.length) : P = P.take k ++ (P[k] :: P.drop (k + 1)) := by
  rw [← List.drop_eq_getElem_cons h, List.take_append_drop]
/-- each move of the shortest way leads on -/
theorem way_step {ms : List Mv} {v0 vt : V4} (h : wayR ms v0 vt = 0) {k : Nat} (hk : k < (wayL ms v0 vt).length) :
    (wayL ms v0 vt)[k] < ms.length ∧ hasF ms (wayL ms v0 vt)[k] (atV ms v0 (wayL ms v0 vt) k) = true ∧ atV ms v0 (wayL ms v0 vt) k ≠ tgtF ms (wayL ms v0 vt)[k] := by
  have hb := way_best h
  generalize wayL ms v0 vt = P at *
  have hs := split_at hk
  have ho := hb.ok
  have hf := hb.fin
  rw [hs, okP_app] at ho
  obtain ⟨o1, o2, o3, o4⟩ := ho
  refine ⟨o2, o3, fun he => ?_⟩
  have hq : okP ms.length (hasF ms) (tgtF ms) v0 (P.take k ++ P.drop (k + 1)) := okP_app.2 ⟨o1, by
    have : endP (tgtF ms) v0 (P.take k) = tgtF ms P[k] := he
    rw [this]; exact o4⟩
  have hqe : endP (tgtF ms) v0 (P.take k ++ P.drop (k + 1)) = vt := by
    rw [hs, endP_app] at hf
    rw [endP_app, ← hf]
    have : endP (tgtF ms) v0 (P.take k) = tgtF ms P[k] := he
    rw [this]; rfl
  have hl := hb.least _ hq hqe
  have e1 : (P.take k ++ P.drop (k + 1)).length + 1 = P.length := by
    rw [List.length_append, List.length_take, List.length_drop]; omega
  rcases hl with hl | ⟨hl, _⟩ <;> omega
/-- where one is, versions are right -/
theorem atV_right {ms : List Mv} {v0 vt : V4} (h : wayR ms v0 vt = 0) (hs : ∀ m ∈ ms, SmallM m) (h0 : v0.a.size ≤ 2097152) {k : Nat} (hk : k ≤ (wayL ms v0 vt).length) : (atV ms v0 (wayL ms v0 vt) k).err = 0 ∧ (atV ms v0 (wayL ms v0 vt) k).a.size ≤ 2097152 := by
  obtain ⟨_, w2, w3, _⟩ := wayE_parts (wayR_ok h)
  cases k with
  | zero => exact ⟨w3, h0⟩
  | succ k =>
    have hk1 : k < (wayL ms v0 vt).length := by omega
    have hlt := (way_step h hk1).1
    rw [atV_succ hk1, tgtF_at hlt]
    exact ⟨(mvErr_parts (w2 _ (List.getElem_mem hlt))).2.1, (hs _ (List.getElem_mem hlt)).tt⟩
/-- one move alone -/
theorem one_way {m : Mv} {v : V4} (hm : mvErr m = 0) (hv : v.err = 0) (hh : hasL m.fr v = true) (hne : v ≠ m.tt) : wayR [m] v m.tt = 0 ∧ wayL [m] v m.tt = [0] := by
  have hE : wayE [m] v m.tt = 0 := by
    unfold wayE
    have h2 := (mvErr_parts hm).2.1
    simp [firstI, hm, hv, h2]
  refine way_found hE ⟨⟨Nat.zero_lt_one, hh, trivial⟩, rfl, fun q hq he => ?_⟩
  match q, hq, he with
  | [], _, he => exact absurd he hne
  | [a], hq, _ =>
    have : a < 1 := hq.1
    obtain rfl : a = 0 := by omega
    exact sl_refl _
  | a :: b :: r, _, _ => exact .inl (by simp)
theorem run_same {es : List Se} (h : seErr pathL es = 0) (hl : es.length ≤ 2000) : runR es [] = 0 ∧ runS es [] = es := by
  have h1 : runR es [] = 0 := by
    rw [run_none, firstI, if_pos h, if_neg (by omega)]; rfl
  exact ⟨h1, (runS_ok h1).trans (seL_tbl h)⟩
theorem carE_all {ms : List Mv} {es : List Se} {v0 vt : V4} (h : carE ms es v0 vt = 0) : wayR ms v0 vt = 0 ∧ ∀ k, k ≤ (wayL ms v0 vt).length → (carK ms es (wayL ms v0 vt) k).1 = 0 := by
  have hw : wayR ms v0 vt = 0 := by
    by_cases hw : wayR ms v0 vt = 0
    · exact hw
    · rw [(carE_bad hw).1] at h; exact h
  refine ⟨hw, fun k hk => ?_⟩
  by_cases h0 : (carK ms es (wayL ms v0 vt) k).1 = 0
  · exact h0
  · have := carK_stay h0 ((wayL ms v0 vt).length - k) (by omega)
    rw [show k + ((wayL ms v0 vt).length - k) = (wayL ms v0 vt).length by omega] at this
    rw [carE_way hw, this] at h
    exact h
/-- the settings behind k moves -/
noncomputable def carT (ms : List Mv) (es : List Se) (P : List Nat) (k : Nat) : List Se := if k = 0 then es else (carK ms es P k).2
theorem carT_eq {ms : List Mv} {es : List Se} {v0 vt : V4} (h : carE ms es v0 vt = 0) (k : Nat) : carT ms es (wayL ms v0 vt) k = (carK ms es (wayL ms v0 vt) k).2 := by
  unfold carT
  by_cases hk : k = 0
  · subst hk
    rw [if_pos rfl, carK_zero]
    have h0 := (carE_all h).2 0 (Nat.zero_le _)
    rw [carK_zero] at h0
    exact ((runS_ok h0).trans (seL_tbl (runErr_zero (runR_parts h0).1).1)).symm
  · rw [if_neg hk]
/-- one move alone carries what it does on the way -/
theorem car_one {ms : List Mv} {es : List Se} {v0 vt : V4} (h : carE ms es v0 vt = 0) (hs : ∀ m ∈ ms, SmallM m) (h0 : v0.a.size ≤ 2097152) {k : Nat} (hk : k < (wayL ms v0 vt).length) (hi : (wayL ms v0 vt)[k] < ms.length) :
    carE [ms[(wayL ms v0 vt)[k]]] (carT ms es (wayL ms v0 vt) k) (atV ms v0 (wayL ms v0 vt) k) (ms[(wayL ms v0 vt)[k]]).tt = 0 ∧
    carS [ms[(wayL ms v0 vt)[k]]] (carT ms es (wayL ms v0 vt) k) (atV ms v0 (wayL ms v0 vt) k) (ms[(wayL ms v0 vt)[k]]).tt = carT ms es (wayL ms v0 vt) (k + 1) := by
  obtain ⟨hw, hz⟩ := carE_all h
  obtain ⟨_, s2, s3⟩ := way_step hw hk
  have hm := (wayE_parts (wayR_ok hw)).2.1 _ (List.getElem_mem hi)
  rw [hasF_at hi] at s2
  rw [tgtF_at hi] at s3
  obtain ⟨o1, o2⟩ := one_way hm (atV_right hw hs h0 (Nat.le_of_lt hk)).1 s2 s3
  obtain ⟨q1, q2, q3⟩ := carK_out ms es (wayL ms v0 vt) k (Nat.le_of_lt hk) (way_lt (ms := ms) (v0 := v0) (vt := vt))
  have hzk := hz k (Nat.le_of_lt hk)
  have hz1 := hz (k + 1) hk
  have hst : carK ms es (wayL ms v0 vt) (k + 1) = carStep ms (carK ms es (wayL ms v0 vt) k) (wayL ms v0 vt)[k] := carK_succ (List.getElem?_eq_getElem hk)
  rw [carStep_ok hi hzk] at hst
  rw [carT_eq h k, carT_eq h (k + 1)]
  generalize (carK ms es (wayL ms v0 vt) k).2 = s at *
  obtain ⟨r1, r2⟩ := run_same q3 q1
  have hone : carK [ms[(wayL ms v0 vt)[k]]] s [0] 1 = carK ms es (wayL ms v0 vt) (k + 1) := by
    have e0 : carK [ms[(wayL ms v0 vt)[k]]] s [0] 0 = (0, s) := by rw [carK_zero, r1, r2]
    rw [show (1 : Nat) = 0 + 1 from rfl, carK_succ (i := 0) rfl, e0, hst, carStep_ok (i := 0) (by simp) rfl]
    rfl
  have hce : carE [ms[(wayL ms v0 vt)[k]]] s (atV ms v0 (wayL ms v0 vt) k) (ms[(wayL ms v0 vt)[k]]).tt = 0 := by
    rw [carE_way o1, o2, show ([0] : List Nat).length = 1 from rfl, hone, hz1]
  exact ⟨hce, by rw [carS_ok hce, o2, show ([0] : List Nat).length = 1 from rfl, hone]⟩
end Go.Proofs.YtghhjlcbcojcnaaGreatDoor
