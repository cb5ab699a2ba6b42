/- append of one element onto a slice of the call's own, in a world that grows; strings.Join over such a slice. Contracts of ver.isRow, wrong, spanText, PrintRange; ver.Parse, Next, text in the words of V4. -/
import Derived.Test.YtcmceeihdhcmnaaGreatDoorRm03
import Derived.Laws.AppendOwn
import Derived.Laws.OwnMore
import Derived.Maps.AppendAt
import Derived.OwnWalk
import Derived.Lib.Join
import Derived.Test.YtcmceeihdhcmnaaGreatDoorRm21
import Derived.Test.YtcmceeihdhcmnaaGreatDoorRm19
import Derived.Test.YtcmceeihdhcmnaaGreatDoorRm16

namespace Go.Proofs.YtcmceeihdhcmnaaGreatDoor
open Go.RowKit

section
variable {w w' a : World} {B : Nat} {e : TypeId} {size n : Nat} {v : Value} {xs : List Value}
theorem own_ext (h : w.ownsRow B e size v n xs) (hx : Ext w w') : w'.ownsRow B e size v n xs :=
  h.kept (row := none) ⟨hx.os, hx.tape, hx.output, hx.size, fun k hk _ => hx.block k hk⟩ (by cases hv : v.ownBlock <;> simp)
theorem Ext.grown (h : Ext a w) (hown : w.ownsRow B e size v n xs) (hB : a.heap.size ≤ B) (hg : w.grownBy w' v.ownBlock) : Ext a w' :=
  Below.grown h hg h.size (fun k hk => Nat.le_trans hB (hown.lt k hk).1)
theorem Blk.grown {g : Nat} {t : TypeId} {cs : Array Value} (h : Blk w g t cs) (hown : w.ownsRow B e size v n xs) (hB : g < B) (hg : w.grownBy w' v.ownBlock) : Blk w' g t cs :=
  (hg.block g h.lt (fun he => by have := (hown.lt g he.symm).1; omega)).trans h
theorem own_form (h : w.ownsRow B e size v n xs) (h0 : 0 < n) : ∃ g c, v = .slice (some ⟨g, 0, none⟩) n c ∧ g < w.heap.size ∧ B ≤ g ∧ n ≤ c ∧ ∀ j u, xs[j]? = some u → w.cell? ⟨g, j, none⟩ = some u := by
  have hh := h
  rcases h.2 with ⟨rfl, h1⟩ | ⟨g, cap, cur, rfl, hb, hgg, hnc, _⟩
  · omega
  · refine ⟨g, cap, rfl, (hh.lt g rfl).2, hb, hnc, fun j u hu => ?_⟩
    have := hh.cells (g := g) rfl j u hu
    have hadd : (⟨g, 0, none⟩ : Addr).add j = ⟨g, j, none⟩ := by unfold Addr.add; split <;> simp_all
    rwa [hadd] at this
end
section
variable {P : Program}
/-- 'v = append(v, x)', x laid into a new block of its own just ahead -/
theorem wpList_app1 {ops : Array Oper} {rest : List Oper} {o : Oper} {a : Act} {Q : Exit → Act → World → Prop} (wr : World) (cs : Array Value) (e : TypeId) (hgd : o.guard = none) (s x : Operand) (t : TypeId)
    (ho : o.op = .call { callee := .builtin .append, args := #[s, x], argTypes := #[t, t] })
    (z : Value) (size bytes : Nat) (ht : P.underlying t = some (.slice e)) (hinfo : (P.info? e).map (fun i => (i.zero, i.size, i.bytes)) = some (some z, size, bytes)) (hzs : z.cells.size = size) (hsz : 0 < size) (hby : bytes ≤ 1000)
    (B : Nat) (v : Value) (n : Nat) (xs : List Value) (hs : a.eval s = v) (hown : wr.ownsRow B e size v n xs)
    (c : Nat) (hx : a.eval x = .slice (some ⟨wr.heap.size, 0, none⟩) 1 c) (hcs : cs.size = size) (h1 : ∀ u ∈ cs.toList, u.oneCell' = true) (hn : n ≤ 100000000) (hbase : B ≤ wr.heap.size)
    (h : ∀ v' w', w'.ownsRow B e size v' (n + 1) (xs ++ cs.toList) → (∀ a', Ext a' wr → a'.heap.size ≤ B → Ext a' w') → (∀ g t' ds, Blk wr g t' ds → g < B → Blk w' g t' ds) → wpList P ops Q rest (a.put o.dst v') w') :
    wpList P ops Q (o :: rest) a (wr.alloc (.cells cs e)) := by
  obtain ⟨i, hi, hz0, hz1, hz2⟩ := info_parts hinfo
  have hnew := Blk.new wr e cs
  refine wpList_append_own (wr.alloc (.cells cs e)) hgd s x t ho B e i z size bytes ht hi hz0 hz1 hz2 hzs hsz v n xs hs (hown.alloc _) ⟨wr.heap.size, 0, none⟩ 1 c cs.toList hx (by simp [hcs]) ?_ h1 ?_ ?_ (by simp; omega) ?_
  · intro j u hu
    have hadd : (⟨wr.heap.size, 0, none⟩ : Addr).add j = ⟨wr.heap.size, j, none⟩ := by unfold Addr.add; split <;> simp_all
    rw [hadd, hnew.cell]
    simpa using hu
  · simp only [maxLen]; omega
  · have : (n + 1) * bytes ≤ 100000001 * 1000 := Nat.mul_le_mul (by omega) hby
    omega
  · intro v' w' hown' hg _
    refine h v' w' hown' (fun a' ha hB => ?_) (fun g t' ds hb hlt => ?_)
    · exact (ha.alloc _).grown (hown.alloc _) hB hg
    · exact (hb.alloc _).grown (hown.alloc _) hlt hg
/-- the same, where the new block's number is spelled otherwise -/
theorem wpList_app1g {ops : Array Oper} {rest : List Oper} {o : Oper} {a : Act} {Q : Exit → Act → World → Prop} (wr : World) (cs : Array Value) (e : TypeId) (hgd : o.guard = none) (s x : Operand) (t : TypeId)
    (ho : o.op = .call { callee := .builtin .append, args := #[s, x], argTypes := #[t, t] })
    (z : Value) (size bytes : Nat) (ht : P.underlying t = some (.slice e)) (hinfo : (P.info? e).map (fun i => (i.zero, i.size, i.bytes)) = some (some z, size, bytes)) (hzs : z.cells.size = size) (hsz : 0 < size) (hby : bytes ≤ 1000)
    (B : Nat) (v : Value) (n : Nat) (xs : List Value) (hs : a.eval s = v) (hown : wr.ownsRow B e size v n xs)
    (c gA : Nat) (hx : a.eval x = .slice (some ⟨gA, 0, none⟩) 1 c) (hgA : wr.heap.size = gA) (hcs : cs.size = size) (h1 : ∀ u ∈ cs.toList, u.oneCell' = true) (hn : n ≤ 100000000) (hbase : B ≤ wr.heap.size)
    (h : ∀ v' w', w'.ownsRow B e size v' (n + 1) (xs ++ cs.toList) → (∀ a', Ext a' wr → a'.heap.size ≤ B → Ext a' w') → (∀ g t' ds, Blk wr g t' ds → g < B → Blk w' g t' ds) → wpList P ops Q rest (a.put o.dst v') w') :
    wpList P ops Q (o :: rest) a (wr.alloc (.cells cs e)) :=
  wpList_app1 wr cs e hgd s x t ho z size bytes ht hinfo hzs hsz hby B v n xs hs hown c (by rw [hgA]; exact hx) hcs h1 hn hbase h
end
theorem info_string : (Tryz.prog.info? 9).map (fun i => (i.zero, i.size, i.bytes)) = some (some (.string ⟨#[]⟩), 1, 16) := by kernel_rfl

/-! ### strings.Join -/
theorem join_len : ∀ (L : List Str) (sep : Str) (m : Nat), (∀ p ∈ L, p.length ≤ m) → (Lib.join L sep).length ≤ L.length * (m + sep.length)
  | [], sep, m, _ => by simp [Lib.join_nil]
  | x :: r, sep, m, h => by
    have hx := h x (by simp)
    have hl : ∀ r : List Str, (∀ p ∈ r, p.length ≤ m) → Lib.lens r ≤ r.length * m := fun r => by
      induction r with
      | nil => intro _; simp [Lib.lens]
      | cons y t ih =>
        intro hr
        have h1 := ih (fun p hp => hr p (List.mem_cons_of_mem _ hp))
        have h2 := hr y (by simp)
        unfold Lib.lens at h1 ⊢
        rw [List.map_cons, List.sum_cons, List.length_cons, Nat.add_mul]
        omega
    have h3 := hl (x :: r) h
    rw [Lib.join_length, Nat.mul_add, List.length_cons] at *
    rw [Nat.mul_comm sep.length]
    have : r.length * sep.length ≤ (r.length + 1) * sep.length := Nat.mul_le_mul_right _ (by omega)
    omega
theorem join_own {B : Nat} {v : Value} {n : Nat} {L : List Str} (sep : ByteArray) (w : World) (h : w.ownsRow B 9 1 v n (L.map S)) (hn : L.length = n) (h0 : 0 < n) (hl : n ≤ 100000000) (hlen : (Lib.join L (bs sep)).length ≤ 100000000) :
    Calls Tryz.prog 92 #[v, .string sep] w fun e w' => e = .returned (S (Lib.join L (bs sep))) ∧ Ext w w' := by
  obtain ⟨g, c, rfl, hg, _, hc, hcell⟩ := own_form h h0
  have hm : ((L.map fun l => (⟨l.toArray⟩ : ByteArray)).map (·.data.toList)) = L := by
    rw [List.map_map]
    exact List.map_id'' (fun l => by simp) L
  subst hn
  have key := Tryz.strings_Join g 0 c (L.map fun l => (⟨l.toArray⟩ : ByteArray)) sep w (fun j x hx => by
    rw [Nat.zero_add]
    refine hcell j _ ?_
    rw [List.getElem?_map] at hx ⊢
    cases hL : L[j]? with
    | none => rw [hL] at hx; cases hx
    | some l => rw [hL] at hx; simp only [Option.map_some] at hx ⊢; injection hx with hx; rw [← hx]) hg (by simp; omega) (by simpa using hc) (by rw [hm]; exact Nat.le_trans hlen (by decide))
  rw [hm, List.length_map] at key
  exact key
end Go.Proofs.YtcmceeihdhcmnaaGreatDoor

namespace Go.Proofs.YtcmceeihdhcmnaaGreatDoor
open Go.RowKit

theorem isRow_any (s : ByteArray) (w : World) (hg : Good w) (hs : s.size ≤ 2097152) :
    Calls Tryz.prog 142 #[.string s] w fun e w' => e = .returned (.bool (rowL (bs s))) ∧ w = w' := by
  go_enter Tryz.func142, Tryz.ntmps142
  go_wp2_with (go_at_call 66; refine (contains_any 32 s _ hg hs).mono ?_; rintro e w' ⟨rfl, rfl⟩)
  go_ret
  exact ⟨ret_bool (by simp [rowL]), rfl⟩
theorem parseV_size' {l : Str} {r : (Int × Int × Int × Str) × Int} (hr : parseV l = r) : r.1.2.2.2.length ≤ l.length := by
  have hc := (cutC_size 45 l).2
  unfold parseV at hr
  split at hr
  · split at hr
    · subst hr; exact Nat.zero_le _
    · split at hr
      · subst hr; exact Nat.zero_le _
      · split at hr
        · subst hr; exact hc
        · subst hr; exact Nat.zero_le _
  · subst hr; exact Nat.zero_le _
theorem parse_val {s b : ByteArray} (hb : bs b = (parseV (bs s)).1.2.2.2) : (⟨(parseV (bs s)).1.2.2.2.toArray⟩ : ByteArray) = b := by rw [← hb, mk_bs]
/-- ver.Parse -/
theorem Parse_x (s : ByteArray) (w : World) (hg : GoodN w) (hs : s.size ≤ 2097152) :
    Calls Tryz.prog 34 #[.string s] w fun e w' => ∃ v r, pV (bs s) = (v, r) ∧ e = .returned (.tuple #[verV v, .int .i64 r]) ∧ v.a.size ≤ s.size ∧ Ext w w' :=
  (Parse_any s w hg hs).mono fun _ _ ⟨b, hp, hb, hz, hx⟩ => by
    rw [bs_length] at hz
    refine ⟨⟨(parseV (bs s)).1.1, (parseV (bs s)).1.2.1, (parseV (bs s)).1.2.2.1, b⟩, (parseV (bs s)).2, ?_, hp, hz, hx⟩
    unfold pV
    rw [parse_val hb]
/-- outref2.ReadVersion -/
theorem Read_x (s : ByteArray) (w : World) (hg : GoodN w) (hs : s.size ≤ 2097152) :
    Calls Tryz.prog 35 #[.string s] w fun e w' => ∃ v r, pV (bs s) = (v, r) ∧ e = .returned (.tuple #[verV v, .int .i64 r]) ∧ v.a.size ≤ s.size ∧ Ext w w' :=
  (ReadVersion_any s w hg hs).mono fun _ _ ⟨b, hp, hb, hz, hx⟩ => by
    rw [bs_length] at hz
    refine ⟨⟨(parseV (bs s)).1.1, (parseV (bs s)).1.2.1, (parseV (bs s)).1.2.2.1, b⟩, (parseV (bs s)).2, ?_, hp, hz, hx⟩
    unfold pV
    rw [parse_val hb]
/-- ver.Next, outref2.NextOf -/
theorem Next_x (v : V4) (part : Int) (w : World) (hg : Good w) (hs : v.a.size ≤ 2097152) :
    Calls Tryz.prog 22 #[verV v, .int .i64 part] w fun e w' => ∃ x y z r, nV v part = (⟨x, y, z, ⟨#[]⟩⟩, r) ∧ e = .returned (.tuple #[verV ⟨x, y, z, ⟨#[]⟩⟩, .int .i64 r]) ∧ Ext w w' :=
  (Next_any v.a1 v.a2 v.a3 part v.a w hg hs).mono fun _ _ ⟨h, hx⟩ => ⟨_, _, _, _, rfl, h, hx⟩
theorem NextOf_x (v : V4) (part : Int) (w : World) (hg : Good w) (hs : v.a.size ≤ 2097152) :
    Calls Tryz.prog 23 #[verV v, .int .i64 part] w fun e w' => ∃ x y z r, nV v part = (⟨x, y, z, ⟨#[]⟩⟩, r) ∧ e = .returned (.tuple #[verV ⟨x, y, z, ⟨#[]⟩⟩, .int .i64 r]) ∧ Ext w w' :=
  (NextOf_any v.a1 v.a2 v.a3 part v.a w hg hs).mono fun _ _ ⟨h, hx⟩ => ⟨_, _, _, _, rfl, h, hx⟩
set_option maxHeartbeats 1000000 in
theorem wrong_any (s : ByteArray) (w : World) (hg : GoodN w) (hs : s.size ≤ 2097152) :
    Calls Tryz.prog 94 #[.string s] w fun e w' => e = .returned (.bool (wrongL (bs s))) ∧ Ext w w' := by
  go_enter Tryz.func94, Tryz.ntmps94
  go_wp2_with fail
  refine (Parse_x s _ hg hs).mono ?_
  rintro e w1 ⟨⟨x, y, z, b⟩, r, hp, rfl, _, hx1⟩
  have HP := Lib.hid hp
  clear hp
  by_cases h8 : r = 8
  · subst h8
    go_wp2
    go_ret
    exact ⟨ret_bool (by unfold wrongL; rw [HP.out]; rfl), hx1.alloc _⟩
  · have H8 := Lib.hid h8
    have hb : (r == 8) = false := by rw [beq_eq_false_iff_ne]; exact h8
    go_wp2
    go_ret
    exact ⟨ret_bool (by unfold wrongL; rw [HP.out]; exact (decide_eq_false H8.out).symm), hx1.alloc _⟩

/-! ### Texts -/
theorem early_len {v : V4} (h : v.err = 0) : (bs v.a).length ≤ 40 := by
  obtain ⟨_, _, _, he⟩ := checkV_ok (show checkV v.a1 v.a2 v.a3 (bs v.a) = 0 from h)
  rcases he with he | he
  · rw [he]; simp
  · unfold earlyL at he
    simp only [Bool.and_eq_true, decide_eq_true_eq] at he
    exact he.2
theorem text_len {v : V4} (h : v.err = 0) : v.text.length ≤ 110 := by
  have h40 := early_len h
  rw [bs_length] at h40
  obtain ⟨⟨a1, a2⟩, ⟨b1, b2⟩, ⟨c1, c2⟩, _⟩ := checkV_ok (show checkV v.a1 v.a2 v.a3 (bs v.a) = 0 from h)
  have la := Lib.itoa_length_le v.a1 (by omega) (by omega)
  have li := Lib.itoa_length_le v.a2 (by omega) (by omega)
  have lp := Lib.itoa_length_le v.a3 (by omega) (by omega)
  unfold V4.text textL
  split <;> simp <;> omega
theorem spText_len {s : Sp} (h1 : s.f.err = 0) (h2 : s.t.err = 0) : (spText s).length ≤ 224 := by
  have l1 := text_len h1
  have l2 := text_len h2
  unfold spText
  split <;> split <;> simp <;> omega
theorem text_x (v : V4) (w : World) (hg : GoodN w) (hs : v.a.size ≤ 2097152) (h : v.err = 0) :
    Calls Tryz.prog 74 #[verV v] w fun e w' => e = .returned (S v.text) ∧ Ext w w' := by
  obtain ⟨⟨a1, a2⟩, ⟨b1, b2⟩, ⟨c1, c2⟩, _⟩ := checkV_ok (show checkV v.a1 v.a2 v.a3 (bs v.a) = 0 from h)
  exact text_any v.a1 v.a2 v.a3 v.a w hg hs a1 a2 b1 b2 c1 c2
theorem vtext_x (v : V4) (w : World) (hg : GoodN w) (hs : v.a.size ≤ 2097152) (h : v.err = 0) :
    Calls Tryz.prog 32 #[verV v] w fun e w' => e = .returned (S v.text) ∧ Ext w w' := by
  obtain ⟨⟨a1, a2⟩, ⟨b1, b2⟩, ⟨c1, c2⟩, _⟩ := checkV_ok (show checkV v.a1 v.a2 v.a3 (bs v.a) = 0 from h)
  exact VersionText_any v.a1 v.a2 v.a3 v.a w hg hs a1 a2 b1 b2 c1 c2
set_option maxHeartbeats 2000000 in
set_option maxRecDepth 100000 in
theorem spanText_any (s : Sp) (w : World) (hg : GoodN w) (hfs : s.f.a.size ≤ 2097152) (hts : s.t.a.size ≤ 2097152) (h1 : s.f.err = 0) (h2 : s.t.err = 0) :
    Calls Tryz.prog 91 #[spV s] w fun e w' => e = .returned (S (spText s)) ∧ Ext w w' := by
  obtain ⟨hf, ht, f, t⟩ := s
  dsimp only at hfs hts h1 h2
  have cF : ∀ W w', Ext w W → Ext W w' → Calls Tryz.prog 74 #[verV f] w' fun e w'' => e = .returned (S f.text) ∧ Ext W w'' := fun W w' hx hy => (text_x f w' (hg.ext (hx.trans hy)) hfs h1).mono fun _ _ h => ⟨h.1, hy.trans h.2⟩
  have cT : ∀ W w', Ext w W → Ext W w' → Calls Tryz.prog 74 #[verV t] w' fun e w'' => e = .returned (S t.text) ∧ Ext W w'' := fun W w' hx hy => (text_x t w' (hg.ext (hx.trans hy)) hts h2).mono fun _ _ h => ⟨h.1, hy.trans h.2⟩
  have lF := text_len h1
  have lT := text_len h2
  have hX : spText ⟨hf, ht, f, t⟩ = if hf = true then (if ht = true then [62, 61] ++ f.text ++ [32, 60] ++ t.text else [62, 61] ++ f.text) else if ht = true then [60] ++ t.text else [42] := rfl
  have HX := Lib.hid hX
  clear hX
  generalize spText ⟨hf, ht, f, t⟩ = X at *
  generalize f.text = F at *
  generalize t.text = T at *
  clear h1 h2
  obtain ⟨f1, f2, f3, fa⟩ := f
  obtain ⟨t1, t2, t3, ta⟩ := t
  dsimp only [verV] at cF cT
  dsimp only [spV]
  have CF := Lib.hid cF
  have CT := Lib.hid cT
  clear cF cT
  go_enter Tryz.func91, Tryz.ntmps91
  cases hf <;> cases ht
  · go_wp2
    go_ret
    exact ⟨ret_strS (by rw [HX.out]; rfl), (by repeat (first | with_reducible exact Ext.refl _ | with_reducible assumption | with_reducible apply Ext.drewN | with_reducible apply Ext.drew | with_reducible apply Ext.alloc | exact Ext.refl _ | assumption | apply Ext.drewN | apply Ext.drew | apply Ext.alloc))⟩
  · go_wp2_with fail
    refine (CT.out _ _ (by repeat (first | with_reducible exact Ext.refl _ | with_reducible assumption | with_reducible apply Ext.drewN | with_reducible apply Ext.drew | with_reducible apply Ext.alloc | exact Ext.refl _ | assumption | apply Ext.drewN | apply Ext.drew | apply Ext.alloc)) (Ext.refl _)).mono ?_
    rintro e w1 ⟨rfl, hx1⟩
    go_wp2
    go_ret
    exact ⟨ret_strS (by rw [HX.out]; simp), Ext.trans (by repeat (first | with_reducible exact Ext.refl _ | with_reducible assumption | with_reducible apply Ext.drewN | with_reducible apply Ext.drew | with_reducible apply Ext.alloc | exact Ext.refl _ | assumption | apply Ext.drewN | apply Ext.drew | apply Ext.alloc)) hx1⟩
  · go_wp2_with fail
    refine (CF.out _ _ (by repeat (first | with_reducible exact Ext.refl _ | with_reducible assumption | with_reducible apply Ext.drewN | with_reducible apply Ext.drew | with_reducible apply Ext.alloc | exact Ext.refl _ | assumption | apply Ext.drewN | apply Ext.drew | apply Ext.alloc)) (Ext.refl _)).mono ?_
    rintro e w1 ⟨rfl, hx1⟩
    go_wp2
    go_ret
    exact ⟨ret_strS (by rw [HX.out]; simp), Ext.trans (by repeat (first | with_reducible exact Ext.refl _ | with_reducible assumption | with_reducible apply Ext.drewN | with_reducible apply Ext.drew | with_reducible apply Ext.alloc | exact Ext.refl _ | assumption | apply Ext.drewN | apply Ext.drew | apply Ext.alloc)) hx1⟩
  · go_wp2_with fail
    refine wp_region_ext (by kernel_rfl) (by kernel_rfl) ?_
    repeat (first | go_big_quiet_skip | (refine wpQuiet_step (fun K hK => ?_); go_simp; first | (refine hK _ ?_; clear hK K) | (apply Exists.intro; refine ⟨fun wq hwq => ?_, hK _ ?_⟩; (obtain ⟨hqc, hqf⟩ := hwq.cells; have hqs := hwq.size; (try go_simp); first | rfl | ((first | rw [if_neg (by omega)] | rw [if_pos (by omega)]); (try go_simp); rfl) | ((first | (go_at_call 74; with_reducible exact CF.out _ _ (by repeat (first | with_reducible exact Ext.refl _ | with_reducible assumption | with_reducible apply Ext.drewN | with_reducible apply Ext.drew | with_reducible apply Ext.alloc | exact Ext.refl _ | assumption | apply Ext.drewN | apply Ext.drew | apply Ext.alloc)) hwq) | (go_at_call 74; with_reducible exact CT.out _ _ (by repeat (first | with_reducible exact Ext.refl _ | with_reducible assumption | with_reducible apply Ext.drewN | with_reducible apply Ext.drew | with_reducible apply Ext.alloc | exact Ext.refl _ | assumption | apply Ext.drewN | apply Ext.drew | apply Ext.alloc)) hwq)))); clear hK K)))
    refine wpQuiet_nil ?_
    intro wN hxN
    obtain ⟨hcN, hfN⟩ := hxN.cells
    have hsN := hxN.size
    go_wp2
    go_ret
    exact ⟨ret_strS (by rw [HX.out]; simp), Ext.trans (by repeat (first | with_reducible exact Ext.refl _ | with_reducible assumption | with_reducible apply Ext.drewN | with_reducible apply Ext.drew | with_reducible apply Ext.alloc | exact Ext.refl _ | assumption | apply Ext.drewN | apply Ext.drew | apply Ext.alloc)) hxN⟩
end Go.Proofs.YtcmceeihdhcmnaaGreatDoor
