/- append of one element onto a slice of the call's own, in a world that grows; strings.Join over such a slice. Contracts of ver.isRow, wrong, spanText, PrintRange; ver.Parse, Next, text in the words of V4. Contract of ver.PrintRange. Contracts of ver.itemOf, behind. -/
import Derived.Test.YtghhjlcbcojcnaaGreatDoorMt01
import Derived.Laws.AppendOwn
import Derived.Laws.OwnMore
import Derived.Maps.AppendAt
import Derived.OwnWalk
import Derived.Lib.Join
import Derived.Test.YtghhjlcbcojcnaaGreatDoorMt08
import Derived.Test.YtghhjlcbcojcnaaGreatDoorMt07
import Derived.Deep.LoopGhost
import Derived.Test.YtghhjlcbcojcnaaGreatDoorMt06

namespace Go.Proofs.YtghhjlcbcojcnaaGreatDoor
open Go.RowKit

section
variable {w w' a : World} {B : Nat} {e : TypeId} {size n : Nat} {v : Value} {xs : List Value}
theorem own_ext (h : w.ownsRow B e size v n xs) (hx : Ext w w') : w'.ownsRow B e size v n xs :=
  h.kept (row := none) ⟨hx.os, hx.tape, hx.output, hx.size, fun k hk _ => hx.block k hk⟩ (by cases hv : v.ownBlock <;> simp)
theorem Ext.grown (h : Ext a w) (hown : w.ownsRow B e size v n xs) (hB : a.heap.size ≤ B) (hg : w.grownBy w' v.ownBlock) : Ext a w' :=
  Below.grown h hg h.size (fun k hk => Nat.le_trans hB (hown.lt k hk).1)
theorem Blk.grown {g : Nat} {t : TypeId} {cs : Array Value} (h : Blk w g t cs) (hown : w.ownsRow B e size v n xs) (hB : g < B) (hg : w.grownBy w' v.ownBlock) : Blk w' g t cs :=
  (hg.block g h.lt (fun he => by have := (hown.lt g he.symm).1; omega)).trans h
theorem own_form (h : w.ownsRow B e size v n xs) (h0 : 0 < n) : ∃ g c, v = .slice (some ⟨g, 0, none⟩) n c ∧ g < w.heap.size ∧ B ≤ g ∧ n ≤ c ∧ ∀ j u, xs[j]? = some u → w.cell? ⟨g, j, none⟩ = some u := by
  have hh := h
  rcases h.2 with ⟨rfl, h1⟩ | ⟨g, cap, cur, rfl, hb, hgg, hnc, _⟩
  · omega
  · refine ⟨g, cap, rfl, (hh.lt g rfl).2, hb, hnc, fun j u hu => ?_⟩
    have := hh.cells (g := g) rfl j u hu
    have hadd : (⟨g, 0, none⟩ : Addr).add j = ⟨g, j, none⟩ := by unfold Addr.add; split <;> simp_all
    rwa [hadd] at this
end
section
variable {P : Program}
/-- 'v = append(v, x)', x laid into a new block of its own just ahead -/
theorem wpList_app1 {ops : Array Oper} {rest : List Oper} {o : Oper} {a : Act} {Q : Exit → Act → World → Prop} (wr : World) (cs : Array Value) (e : TypeId) (hgd : o.guard = none) (s x : Operand) (t : TypeId)
    (ho : o.op = .call { callee := .builtin .append, args := #[s, x], argTypes := #[t, t] })
    (z : Value) (size bytes : Nat) (ht : P.underlying t = some (.slice e)) (hinfo : (P.info? e).map (fun i => (i.zero, i.size, i.bytes)) = some (some z, size, bytes)) (hzs : z.cells.size = size) (hsz : 0 < size) (hby : bytes ≤ 1000)
    (B : Nat) (v : Value) (n : Nat) (xs : List Value) (hs : a.eval s = v) (hown : wr.ownsRow B e size v n xs)
    (c : Nat) (hx : a.eval x = .slice (some ⟨wr.heap.size, 0, none⟩) 1 c) (hcs : cs.size = size) (h1 : ∀ u ∈ cs.toList, u.oneCell' = true) (hn : n ≤ 100000000) (hbase : B ≤ wr.heap.size)
    (h : ∀ v' w', w'.ownsRow B e size v' (n + 1) (xs ++ cs.toList) → (∀ a', Ext a' wr → a'.heap.size ≤ B → Ext a' w') → (∀ g t' ds, Blk wr g t' ds → g < B → Blk w' g t' ds) → wpList P ops Q rest (a.put o.dst v') w') :
    wpList P ops Q (o :: rest) a (wr.alloc (.cells cs e)) := by
  obtain ⟨i, hi, hz0, hz1, hz2⟩ := info_parts hinfo
  have hnew := Blk.new wr e cs
  refine wpList_append_own (wr.alloc (.cells cs e)) hgd s x t ho B e i z size bytes ht hi hz0 hz1 hz2 hzs hsz v n xs hs (hown.alloc _) ⟨wr.heap.size, 0, none⟩ 1 c cs.toList hx (by simp [hcs]) ?_ h1 ?_ ?_ (by simp; omega) ?_
  · intro j u hu
    have hadd : (⟨wr.heap.size, 0, none⟩ : Addr).add j = ⟨wr.heap.size, j, none⟩ := by unfold Addr.add; split <;> simp_all
    rw [hadd, hnew.cell]
    simpa using hu
  · simp only [maxLen]; omega
  · have : (n + 1) * bytes ≤ 100000001 * 1000 := Nat.mul_le_mul (by omega) hby
    omega
  · intro v' w' hown' hg _
    refine h v' w' hown' (fun a' ha hB => ?_) (fun g t' ds hb hlt => ?_)
    · exact (ha.alloc _).grown (hown.alloc _) hB hg
    · exact (hb.alloc _).grown (hown.alloc _) hlt hg
/-- the same, where the new block's number is spelled otherwise -/
theorem wpList_app1g {ops : Array Oper} {rest : List Oper} {o : Oper} {a : Act} {Q : Exit → Act → World → Prop} (wr : World) (cs : Array Value) (e : TypeId) (hgd : o.guard = none) (s x : Operand) (t : TypeId)
    (ho : o.op = .call { callee := .builtin .append, args := #[s, x], argTypes := #[t, t] })
    (z : Value) (size bytes : Nat) (ht : P.underlying t = some (.slice e)) (hinfo : (P.info? e).map (fun i => (i.zero, i.size, i.bytes)) = some (some z, size, bytes)) (hzs : z.cells.size = size) (hsz : 0 < size) (hby : bytes ≤ 1000)
    (B : Nat) (v : Value) (n : Nat) (xs : List Value) (hs : a.eval s = v) (hown : wr.ownsRow B e size v n xs)
    (c gA : Nat) (hx : a.eval x = .slice (some ⟨gA, 0, none⟩) 1 c) (hgA : wr.heap.size = gA) (hcs : cs.size = size) (h1 : ∀ u ∈ cs.toList, u.oneCell' = true) (hn : n ≤ 100000000) (hbase : B ≤ wr.heap.size)
    (h : ∀ v' w', w'.ownsRow B e size v' (n + 1) (xs ++ cs.toList) → (∀ a', Ext a' wr → a'.heap.size ≤ B → Ext a' w') → (∀ g t' ds, Blk wr g t' ds → g < B → Blk w' g t' ds) → wpList P ops Q rest (a.put o.dst v') w') :
    wpList P ops Q (o :: rest) a (wr.alloc (.cells cs e)) :=
  wpList_app1 wr cs e hgd s x t ho z size bytes ht hinfo hzs hsz hby B v n xs hs hown c (by rw [hgA]; exact hx) hcs h1 hn hbase h
end
/-! ### strings.Join -/
end Go.Proofs.YtghhjlcbcojcnaaGreatDoor

namespace Go.Proofs.YtghhjlcbcojcnaaGreatDoor
open Go.RowKit

theorem isRow_any (s : ByteArray) (w : World) (hg : Good w) (hs : s.size ≤ 2097152) :
    Calls Tryz.prog 174 #[.string s] w fun e w' => e = .returned (.bool (rowL (bs s))) ∧ w = w' := by
  go_enter Tryz.func174, Tryz.ntmps174
  go_wp2_with (go_at_call 85; refine (contains_any 32 s _ hg hs).mono ?_; rintro e w' ⟨rfl, rfl⟩)
  go_ret
  exact ⟨ret_bool (by simp [rowL]), rfl⟩
theorem parse_val {s b : ByteArray} (hb : bs b = (parseV (bs s)).1.2.2.2) : (⟨(parseV (bs s)).1.2.2.2.toArray⟩ : ByteArray) = b := by rw [← hb, mk_bs]
/-- ver.Parse -/
theorem Parse_x (s : ByteArray) (w : World) (hg : GoodN w) (hs : s.size ≤ 2097152) :
    Calls Tryz.prog 37 #[.string s] w fun e w' => ∃ v r, pV (bs s) = (v, r) ∧ e = .returned (.tuple #[verV v, .int .i64 r]) ∧ v.a.size ≤ s.size ∧ Ext w w' :=
  (Parse_any s w hg hs).mono fun _ _ ⟨b, hp, hb, hz, hx⟩ => by
    rw [bs_length] at hz
    refine ⟨⟨(parseV (bs s)).1.1, (parseV (bs s)).1.2.1, (parseV (bs s)).1.2.2.1, b⟩, (parseV (bs s)).2, ?_, hp, hz, hx⟩
    unfold pV
    rw [parse_val hb]
/-- ver.Next, outref2.NextOf -/
theorem Next_x (v : V4) (part : Int) (w : World) (hg : Good w) (hs : v.a.size ≤ 2097152) :
    Calls Tryz.prog 25 #[verV v, .int .i64 part] w fun e w' => ∃ x y z r, nV v part = (⟨x, y, z, ⟨#[]⟩⟩, r) ∧ e = .returned (.tuple #[verV ⟨x, y, z, ⟨#[]⟩⟩, .int .i64 r]) ∧ Ext w w' :=
  (Next_any v.a1 v.a2 v.a3 part v.a w hg hs).mono fun _ _ ⟨h, hx⟩ => ⟨_, _, _, _, rfl, h, hx⟩
set_option maxHeartbeats 1000000 in
theorem wrong_any (s : ByteArray) (w : World) (hg : GoodN w) (hs : s.size ≤ 2097152) :
    Calls Tryz.prog 113 #[.string s] w fun e w' => e = .returned (.bool (wrongL (bs s))) ∧ Ext w w' := by
  go_enter Tryz.func113, Tryz.ntmps113
  go_wp2_with fail
  refine (Parse_x s _ hg hs).mono ?_
  rintro e w1 ⟨⟨x, y, z, b⟩, r, hp, rfl, _, hx1⟩
  have HP := Lib.hid hp
  clear hp
  by_cases h8 : r = 8
  · subst h8
    go_wp2
    go_ret
    exact ⟨ret_bool (by unfold wrongL; rw [HP.out]; rfl), hx1.alloc _⟩
  · have H8 := Lib.hid h8
    have hb : (r == 8) = false := by rw [beq_eq_false_iff_ne]; exact h8
    go_wp2
    go_ret
    exact ⟨ret_bool (by unfold wrongL; rw [HP.out]; exact (decide_eq_false H8.out).symm), hx1.alloc _⟩

/-! ### Texts -/
end Go.Proofs.YtghhjlcbcojcnaaGreatDoor

namespace Go.Proofs.YtghhjlcbcojcnaaGreatDoor
open Go.RowKit

end Go.Proofs.YtghhjlcbcojcnaaGreatDoor

namespace Go.Proofs.YtghhjlcbcojcnaaGreatDoor
open Go.RowKit

abbrev itV (sg : UInt8) (a b : ByteArray) : Value := .agg #[.int .u8 sg.toNat, .string a, .string b]
def ItemPost (s : ByteArray) (w : World) (E : Ending) (w' : World) : Prop :=
  ∃ (sg : UInt8) (a b : ByteArray) (ok : Bool), itemL (bs s) = (⟨sg, bs a, bs b⟩, ok) ∧ E = .returned (.tuple #[itV sg a b, .bool ok]) ∧ a.size ≤ s.size ∧ b.size ≤ s.size ∧ Ext w w'
theorem item_star {l : Str} (h : l = [42]) : itemL l = (⟨42, [], []⟩, true) := by rw [itemL, if_pos h]
theorem item_two {l a b : Str} (h0 : ¬ l = [42]) (h1 : Lib.hasPrefix l [62, 61] = true) (h2 : cutC 32 (l.drop 2) = (a, b, true)) :
    itemL l = (⟨98, a, Lib.trimPrefix b [60]⟩, Lib.hasPrefix b [60] && rowL a && rowL (Lib.trimPrefix b [60])) := by
  rw [itemL, if_neg h0, if_pos h1, h2, if_pos rfl]
theorem item_from {l a b : Str} (h0 : ¬ l = [42]) (h1 : Lib.hasPrefix l [62, 61] = true) (h2 : cutC 32 (l.drop 2) = (a, b, false)) : itemL l = (⟨62, l.drop 2, []⟩, rowL (l.drop 2)) := by
  rw [itemL, if_neg h0, if_pos h1, h2, if_neg (by simp)]
theorem item_sign {l : Str} (h0 : ¬ l = [42]) (h1 : ¬ Lib.hasPrefix l [62, 61] = true) (h2 : (!l.isEmpty && [60, 61, 94, 126].contains (l.headD 0)) = true) : itemL l = (⟨l.headD 0, l.drop 1, []⟩, rowL (l.drop 1)) := by
  rw [itemL, if_neg h0, if_neg h1, if_pos h2]
theorem item_else {l : Str} (h0 : ¬ l = [42]) (h1 : ¬ Lib.hasPrefix l [62, 61] = true) (h2 : ¬ (!l.isEmpty && [60, 61, 94, 126].contains (l.headD 0)) = true) : itemL l = (⟨94, l, []⟩, rowL l) := by
  rw [itemL, if_neg h0, if_neg h1, if_neg h2]
theorem trimPrefix_size (b : ByteArray) (p : Str) : (⟨(Lib.trimPrefix (bs b) p).toArray⟩ : ByteArray).size ≤ b.size := by
  have := Lib.trimPrefix_le (bs b) p
  rw [bs_length] at this
  rw [← bs_length, bs_mk]
  exact this
theorem trim_hit {l p : Str} (h : Lib.hasPrefix l p = true) : Lib.trimPrefix l p = l.drop p.length := by rw [Lib.trimPrefix, if_pos h]
set_option maxHeartbeats 8000000 in
theorem itemOf_any (s : ByteArray) (w : World) (hg : Good w) (hs : s.size ≤ 2097152) :
    Calls Tryz.prog 112 #[.string s] w (ItemPost s w) := by
  go_enter Tryz.func112, Tryz.ntmps112
  by_cases h0 : bs s = [42]
  · have he : (s.toList == [42]) = true := by rw [lit_beq, beq_iff_eq]; exact h0
    have HI := Lib.hid (item_star h0)
    clear h0
    go_wp2
    refine bodyPost_ret (v := .tuple #[itV 42 ⟨#[]⟩ ⟨#[]⟩, .bool true]) (by simp [results, Tryz.results112, go_sem]) rfl ⟨42, ⟨#[]⟩, ⟨#[]⟩, true, HI.out, rfl, Nat.zero_le _, Nat.zero_le _, (by repeat (first | with_reducible exact Ext.refl _ | with_reducible assumption | with_reducible apply Ext.drewN | with_reducible apply Ext.drew | with_reducible apply Ext.alloc | exact Ext.refl _ | assumption | apply Ext.drewN | apply Ext.drew | apply Ext.alloc))⟩
  have he : (s.toList == [42]) = false := by rw [lit_beq, beq_eq_false_iff_ne]; exact h0
  have H0 := Lib.hid h0
  clear h0
  go_wp2_with fail
  refine (cutPrefix_any s ⟨#[62, 61]⟩ _).mono ?_
  rintro e w' ⟨rfl, rfl⟩
  by_cases h1 : Lib.hasPrefix (bs s) [62, 61] = true
  · have h1' : (bs ⟨#[62, 61]⟩).isPrefixOf (bs s) = true := h1
    rw [h1']
    have htp : bs (⟨(Lib.trimPrefix (bs s) (bs ⟨#[62, 61]⟩)).toArray⟩ : ByteArray) = (bs s).drop 2 := by rw [bs_mk]; exact trim_hit h1
    have hsz : (⟨(Lib.trimPrefix (bs s) (bs ⟨#[62, 61]⟩)).toArray⟩ : ByteArray).size ≤ s.size := trimPrefix_size s _
    dsimp only [S]
    generalize (⟨(Lib.trimPrefix (bs s) (bs ⟨#[62, 61]⟩)).toArray⟩ : ByteArray) = fr at *
    have HTP := Lib.hid htp
    have H1 := Lib.hid h1
    clear h1 h1' htp
    go_wp2_with fail
    refine (cut_ex 32 fr _ (hg.ext (by repeat (first | with_reducible exact Ext.refl _ | with_reducible assumption | with_reducible apply Ext.drewN | with_reducible apply Ext.drew | with_reducible apply Ext.alloc | exact Ext.refl _ | assumption | apply Ext.drewN | apply Ext.drew | apply Ext.alloc))) (by omega)).mono ?_
    rintro e w1 ⟨a, b, fl, rfl, hcut, hsa, hsb, hx1⟩
    rw [HTP.out] at hcut
    have hx : Ext w w1 := Ext.trans (by repeat (first | with_reducible exact Ext.refl _ | with_reducible assumption | with_reducible apply Ext.drewN | with_reducible apply Ext.drew | with_reducible apply Ext.alloc | exact Ext.refl _ | assumption | apply Ext.drewN | apply Ext.drew | apply Ext.alloc)) hx1
    have bR := ((Blk.new w 150 #[.int .u8 0, .string ⟨#[]⟩, .string ⟨#[]⟩]).alloc (.cells #[.int .u8 62, .string fr, .string ⟨#[]⟩] 150)).ext hx1
    have bI := (Blk.new (w.alloc (.cells #[.int .u8 0, .string ⟨#[]⟩, .string ⟨#[]⟩] 150)) 150 #[.int .u8 62, .string fr, .string ⟨#[]⟩]).ext hx1
    rw [World.size_alloc] at bI
    have cR := bR.cell; have fR := bR.free; have zR := bR.lt
    have cI := bI.cell; have zI := bI.lt
    clear hx1
    cases fl
    · have HI := Lib.hid (item_from H0.out H1.out hcut)
      rw [← HTP.out] at HI
      clear hcut
      go_wp2_with fail
      refine wp_region_ext_tail 4 (by kernel_rfl) (by kernel_rfl) ?_
      simp only [List.take_succ_cons, List.take_zero, List.drop_succ_cons, List.drop_zero]
      repeat (first | go_big_quiet_skip | (refine wpQuiet_step (fun K hK => ?_); go_simp; first | (refine hK _ ?_; clear hK K) | (apply Exists.intro; refine ⟨fun wq hwq => ?_, hK _ ?_⟩; (obtain ⟨hqc, hqf⟩ := hwq.cells; have hqs := hwq.size; (try go_simp); first | rfl | ((first | rw [if_neg (by omega)] | rw [if_pos (by omega)]); (try go_simp); rfl) | ((go_at_call 174; exact (isRow_any fr _ ((hg.ext hx).ext hwq) (by omega)).mono (fun e w'' h => ⟨h.1, h.2 ▸ hwq⟩)))); clear hK K)))
      refine wpQuiet_nil ?_
      intro wN hxN
      obtain ⟨hcN, hfN⟩ := hxN.cells
      have hsN := hxN.size
      have bRN := bR.ext hxN
      have cRN := bRN.cell; have fRN := bRN.free; have zRN := bRN.lt
      go_wp2
      refine bodyPost_ret (v := .tuple #[itV 62 fr ⟨#[]⟩, .bool (rowL (bs fr))]) (by simp [results, Tryz.results112, go_sem, cRN]) rfl ⟨62, fr, ⟨#[]⟩, _, HI.out, rfl, hsz, Nat.zero_le _, ?_⟩
      have hxWN := hx.trans hxN
      exact (by repeat (first | with_reducible exact Ext.refl _ | with_reducible assumption | with_reducible apply Ext.drewN | with_reducible apply Ext.drew | with_reducible apply Ext.alloc | ((with_reducible refine Ext.setCell ?_ ?_ _); rotate_left; (first | (dsimp only; omega) | (simp; omega) | skip)) | exact Ext.refl _ | assumption | apply Ext.drewN | apply Ext.drew | apply Ext.alloc | refine Ext.setCell ?_ (by first | (dsimp only; omega) | (simp; omega)) _))
    · have HI := Lib.hid (item_two H0.out H1.out hcut)
      clear hcut
      go_wp2_with fail
      refine (cutPrefix_any b ⟨#[60]⟩ _).mono ?_
      rintro e w' ⟨rfl, rfl⟩
      have hto : bs (⟨(Lib.trimPrefix (bs b) (bs ⟨#[60]⟩)).toArray⟩ : ByteArray) = Lib.trimPrefix (bs b) [60] := by rw [bs_mk]
      have hsz2 : (⟨(Lib.trimPrefix (bs b) (bs ⟨#[60]⟩)).toArray⟩ : ByteArray).size ≤ b.size := trimPrefix_size b _
      dsimp only [S]
      have hle : (bs ⟨#[60]⟩).isPrefixOf (bs b) = Lib.hasPrefix (bs b) [60] := rfl
      rw [hle]
      generalize (⟨(Lib.trimPrefix (bs b) (bs ⟨#[60]⟩)).toArray⟩ : ByteArray) = tb at *
      rw [← hto] at HI
      clear hto hle
      have HIX : Hid (∃ ok, itemL (bs s) = (⟨98, bs a, bs tb⟩, ok) ∧ ok = (Lib.hasPrefix (bs b) [60] && rowL (bs a) && rowL (bs tb))) := Lib.hid ⟨_, HI.out, rfl⟩
      clear HI
      cases hp : Lib.hasPrefix (bs b) [60]
      · rw [hp] at HIX
        clear hp
        go_wp2
        refine bodyPost_ret (v := .tuple #[itV 98 a tb, .bool false]) (by simp [results, Tryz.results112, go_sem, cR]) rfl ⟨98, a, tb, false, ?_, rfl, by omega, by omega, ?_⟩
        · obtain ⟨ok, h1, h2⟩ := HIX.out
          rw [h1, h2]; rfl
        · exact (by repeat (first | with_reducible exact Ext.refl _ | with_reducible assumption | with_reducible apply Ext.drewN | with_reducible apply Ext.drew | with_reducible apply Ext.alloc | ((with_reducible refine Ext.setCell ?_ ?_ _); rotate_left; (first | (dsimp only; omega) | (simp; omega) | skip)) | exact Ext.refl _ | assumption | apply Ext.drewN | apply Ext.drew | apply Ext.alloc | refine Ext.setCell ?_ (by first | (dsimp only; omega) | (simp; omega)) _))
      · rw [hp] at HIX
        clear hp
        go_wp2_with fail
        refine (isRow_any a _ (hg.ext hx) (by omega)).mono ?_
        rintro e w' ⟨rfl, rfl⟩
        cases hp : rowL (bs a)
        · rw [hp] at HIX
          clear hp
          go_wp2
          refine bodyPost_ret (v := .tuple #[itV 98 a tb, .bool false]) (by simp [results, Tryz.results112, go_sem, cR]) rfl ⟨98, a, tb, false, ?_, rfl, by omega, by omega, ?_⟩
          · obtain ⟨ok, h1, h2⟩ := HIX.out
            rw [h1, h2]; rfl
          · exact (by repeat (first | with_reducible exact Ext.refl _ | with_reducible assumption | with_reducible apply Ext.drewN | with_reducible apply Ext.drew | with_reducible apply Ext.alloc | ((with_reducible refine Ext.setCell ?_ ?_ _); rotate_left; (first | (dsimp only; omega) | (simp; omega) | skip)) | exact Ext.refl _ | assumption | apply Ext.drewN | apply Ext.drew | apply Ext.alloc | refine Ext.setCell ?_ (by first | (dsimp only; omega) | (simp; omega)) _))
        · rw [hp] at HIX
          clear hp
          go_wp2_with fail
          refine (isRow_any tb _ (hg.ext hx) (by omega)).mono ?_
          rintro e w' ⟨rfl, rfl⟩
          go_wp2
          refine bodyPost_ret (v := .tuple #[itV 98 a tb, .bool (rowL (bs tb))]) (by simp [results, Tryz.results112, go_sem, cR]) rfl ⟨98, a, tb, rowL (bs tb), ?_, rfl, by omega, by omega, ?_⟩
          · obtain ⟨ok, h1, h2⟩ := HIX.out
            rw [h1, h2]; rfl
          · exact (by repeat (first | with_reducible exact Ext.refl _ | with_reducible assumption | with_reducible apply Ext.drewN | with_reducible apply Ext.drew | with_reducible apply Ext.alloc | ((with_reducible refine Ext.setCell ?_ ?_ _); rotate_left; (first | (dsimp only; omega) | (simp; omega) | skip)) | exact Ext.refl _ | assumption | apply Ext.drewN | apply Ext.drew | apply Ext.alloc | refine Ext.setCell ?_ (by first | (dsimp only; omega) | (simp; omega)) _))
  have h1f : (bs ⟨#[62, 61]⟩).isPrefixOf (bs s) = false := by
    have : Lib.hasPrefix (bs s) [62, 61] = false := by simpa using h1
    exact this
  rw [h1f]
  have H1 := Lib.hid h1
  clear h1 h1f
  have tail : ∀ (sg : UInt8) (x : ByteArray), x.size ≤ s.size → itemL (bs s) = (⟨sg, bs x, []⟩, rowL (bs x)) → True := fun _ _ _ _ => trivial
  rcases Nat.eq_zero_or_pos s.size with hz | hz
  · have hi := emp_bool hz
    have HI := Lib.hid (item_else H0.out H1.out (by rw [bs_nil hz]; decide))
    have bR := (Blk.new w 150 #[.int .u8 0, .string ⟨#[]⟩, .string ⟨#[]⟩]).alloc (.cells #[.int .u8 94, .string s, .string ⟨#[]⟩] 150)
    go_wp2_with fail
    refine wp_region_ext_tail 4 (by kernel_rfl) (by kernel_rfl) ?_
    simp only [List.take_succ_cons, List.take_zero, List.drop_succ_cons, List.drop_zero]
    repeat (first | go_big_quiet_skip | (refine wpQuiet_step (fun K hK => ?_); go_simp; first | (refine hK _ ?_; clear hK K) | (apply Exists.intro; refine ⟨fun wq hwq => ?_, hK _ ?_⟩; (obtain ⟨hqc, hqf⟩ := hwq.cells; have hqs := hwq.size; (try go_simp); first | rfl | ((first | rw [if_neg (by omega)] | rw [if_pos (by omega)]); (try go_simp); rfl) | ((go_at_call 174; exact (isRow_any s _ (hg.ext (Ext.trans (by repeat (first | with_reducible exact Ext.refl _ | with_reducible assumption | with_reducible apply Ext.drewN | with_reducible apply Ext.drew | with_reducible apply Ext.alloc | exact Ext.refl _ | assumption | apply Ext.drewN | apply Ext.drew | apply Ext.alloc)) hwq)) (by omega)).mono (fun e w'' h => ⟨h.1, h.2 ▸ hwq⟩)))); clear hK K)))
    refine wpQuiet_nil ?_
    intro wN hxN
    obtain ⟨hcN, hfN⟩ := hxN.cells
    have hsN := hxN.size
    have bRN := bR.ext hxN
    have cRN := bRN.cell; have fRN := bRN.free; have zRN := bRN.lt
    go_wp2
    refine bodyPost_ret (v := .tuple #[itV 94 s ⟨#[]⟩, .bool (rowL (bs s))]) (by simp [results, Tryz.results112, go_sem, cRN]) rfl ⟨94, s, ⟨#[]⟩, _, HI.out, rfl, Nat.le_refl _, Nat.zero_le _, ?_⟩
    have hxWN : Ext w wN := Ext.trans (by repeat (first | with_reducible exact Ext.refl _ | with_reducible assumption | with_reducible apply Ext.drewN | with_reducible apply Ext.drew | with_reducible apply Ext.alloc | exact Ext.refl _ | assumption | apply Ext.drewN | apply Ext.drew | apply Ext.alloc)) hxN
    exact (by repeat (first | with_reducible exact Ext.refl _ | with_reducible assumption | with_reducible apply Ext.drewN | with_reducible apply Ext.drew | with_reducible apply Ext.alloc | ((with_reducible refine Ext.setCell ?_ ?_ _); rotate_left; (first | (dsimp only; omega) | (simp; omega) | skip)) | exact Ext.refl _ | assumption | apply Ext.drewN | apply Ext.drew | apply Ext.alloc | refine Ext.setCell ?_ (by first | (dsimp only; omega) | (simp; omega)) _))
  have hi := nemp_bool hz
  have hne : (bs s).isEmpty = false := by rw [ByteArray.toList_eq] at hi; exact hi
  have HNE := Lib.hid hne
  have HHD := Lib.hid (head_bs s hz)
  clear hne tail
  go_wp2_with fail
  refine (indexByte_any ⟨#[60, 61, 94, 126]⟩ s[0] _).mono ?_
  rintro e w' ⟨rfl, rfl⟩
  have bR := (Blk.new w 150 #[.int .u8 0, .string ⟨#[]⟩, .string ⟨#[]⟩]).alloc (.cells #[.int .u8 94, .string s, .string ⟨#[]⟩] 150)
  have bI := Blk.new (w.alloc (.cells #[.int .u8 0, .string ⟨#[]⟩, .string ⟨#[]⟩] 150)) 150 #[.int .u8 94, .string s, .string ⟨#[]⟩]
  rw [World.size_alloc] at bI
  cases hc : ([60, 61, 94, 126] : Str).contains s[0]
  · have hge : ¬ 0 ≤ Lib.indexByte (bs ⟨#[60, 61, 94, 126]⟩) s[0] := by have := indexByte_out hc; show ¬ 0 ≤ Lib.indexByte [60, 61, 94, 126] s[0]; omega
    have HI := Lib.hid (item_else H0.out H1.out (by rw [HNE.out, HHD.out, hc]; decide))
    clear hc
    go_wp2_with fail
    refine wp_region_ext_tail 4 (by kernel_rfl) (by kernel_rfl) ?_
    simp only [List.take_succ_cons, List.take_zero, List.drop_succ_cons, List.drop_zero]
    repeat (first | go_big_quiet_skip | (refine wpQuiet_step (fun K hK => ?_); go_simp; first | (refine hK _ ?_; clear hK K) | (apply Exists.intro; refine ⟨fun wq hwq => ?_, hK _ ?_⟩; (obtain ⟨hqc, hqf⟩ := hwq.cells; have hqs := hwq.size; (try go_simp); first | rfl | ((first | rw [if_neg (by omega)] | rw [if_pos (by omega)]); (try go_simp); rfl) | ((go_at_call 174; exact (isRow_any s _ (hg.ext (Ext.trans (by repeat (first | with_reducible exact Ext.refl _ | with_reducible assumption | with_reducible apply Ext.drewN | with_reducible apply Ext.drew | with_reducible apply Ext.alloc | exact Ext.refl _ | assumption | apply Ext.drewN | apply Ext.drew | apply Ext.alloc)) hwq)) (by omega)).mono (fun e w'' h => ⟨h.1, h.2 ▸ hwq⟩)))); clear hK K)))
    refine wpQuiet_nil ?_
    intro wN hxN
    obtain ⟨hcN, hfN⟩ := hxN.cells
    have hsN := hxN.size
    have bRN := bR.ext hxN
    have cRN := bRN.cell; have fRN := bRN.free; have zRN := bRN.lt
    go_wp2
    refine bodyPost_ret (v := .tuple #[itV 94 s ⟨#[]⟩, .bool (rowL (bs s))]) (by simp [results, Tryz.results112, go_sem, cRN]) rfl ⟨94, s, ⟨#[]⟩, _, HI.out, rfl, Nat.le_refl _, Nat.zero_le _, ?_⟩
    have hxWN : Ext w wN := Ext.trans (by repeat (first | with_reducible exact Ext.refl _ | with_reducible assumption | with_reducible apply Ext.drewN | with_reducible apply Ext.drew | with_reducible apply Ext.alloc | exact Ext.refl _ | assumption | apply Ext.drewN | apply Ext.drew | apply Ext.alloc)) hxN
    exact (by repeat (first | with_reducible exact Ext.refl _ | with_reducible assumption | with_reducible apply Ext.drewN | with_reducible apply Ext.drew | with_reducible apply Ext.alloc | ((with_reducible refine Ext.setCell ?_ ?_ _); rotate_left; (first | (dsimp only; omega) | (simp; omega) | skip)) | exact Ext.refl _ | assumption | apply Ext.drewN | apply Ext.drew | apply Ext.alloc | refine Ext.setCell ?_ (by first | (dsimp only; omega) | (simp; omega)) _))
  · have hge : 0 ≤ Lib.indexByte (bs ⟨#[60, 61, 94, 126]⟩) s[0] := by have := indexByte_in hc; show 0 ≤ Lib.indexByte [60, 61, 94, 126] s[0]; omega
    have hi2 := item_sign H0.out H1.out (by rw [HNE.out, HHD.out, hc]; rfl)
    rw [HHD.out] at hi2
    have hd : bs (s.extract 1 s.size) = (bs s).drop 1 := Lib.extract_to_end s 1
    rw [← hd] at hi2
    have HI := Lib.hid hi2
    have hsz : (s.extract 1 s.size).size ≤ s.size := by simp
    clear hc hi2 hd
    go_wp2_with fail
    refine wp_region_ext_tail 5 (by kernel_rfl) (by kernel_rfl) ?_
    simp only [List.take_succ_cons, List.take_zero, List.drop_succ_cons, List.drop_zero]
    repeat (first | go_big_quiet_skip | (refine wpQuiet_step (fun K hK => ?_); go_simp; first | (refine hK _ ?_; clear hK K) | (apply Exists.intro; refine ⟨fun wq hwq => ?_, hK _ ?_⟩; (obtain ⟨hqc, hqf⟩ := hwq.cells; have hqs := hwq.size; (try go_simp); first | rfl | ((first | rw [if_neg (by omega)] | rw [if_pos (by omega)]); (try go_simp); rfl) | ((fail))); clear hK K)))
    refine wpQuiet_nil ?_
    intro wN hxN
    obtain ⟨hcN, hfN⟩ := hxN.cells
    have hsN := hxN.size
    have bRN := bR.ext hxN
    have bIN := bI.ext hxN
    have cRN := bRN.cell; have fRN := bRN.free; have zRN := bRN.lt
    have cIN := bIN.cell; have fIN := bIN.free; have zIN := bIN.lt
    have hxWN : Ext w wN := Ext.trans (by repeat (first | with_reducible exact Ext.refl _ | with_reducible assumption | with_reducible apply Ext.drewN | with_reducible apply Ext.drew | with_reducible apply Ext.alloc | exact Ext.refl _ | assumption | apply Ext.drewN | apply Ext.drew | apply Ext.alloc)) hxN
    go_wp2_with fail
    have hW : Ext w (((wN.setCell ⟨w.heap.size + 1, 0, none⟩ (.int .u8 s[0].toNat)).setCell ⟨w.heap.size + 1, 1, none⟩ (.string (s.extract 1 s.size))).setCell ⟨w.heap.size + 1, 2, none⟩ (.string ⟨#[]⟩)) := (by repeat (first | with_reducible exact Ext.refl _ | with_reducible assumption | with_reducible apply Ext.drewN | with_reducible apply Ext.drew | with_reducible apply Ext.alloc | ((with_reducible refine Ext.setCell ?_ ?_ _); rotate_left; (first | (dsimp only; omega) | (simp; omega) | skip)) | exact Ext.refl _ | assumption | apply Ext.drewN | apply Ext.drew | apply Ext.alloc | refine Ext.setCell ?_ (by first | (dsimp only; omega) | (simp; omega)) _))
    have bI2 := ((bIN.set 0 (.int .u8 s[0].toNat)).set 1 (.string (s.extract 1 s.size))).set 2 (.string ⟨#[]⟩)
    have bR2 := ((bRN.far (p := ⟨w.heap.size + 1, 0, none⟩) (by simp) (.int .u8 s[0].toNat)).far (p := ⟨w.heap.size + 1, 1, none⟩) (by simp) (.string (s.extract 1 s.size))).far (p := ⟨w.heap.size + 1, 2, none⟩) (by simp) (.string ⟨#[]⟩)
    clear bRN bIN cRN fRN zRN cIN fIN zIN hxN hcN hfN hsN hxWN bR bI
    generalize (((wN.setCell ⟨w.heap.size + 1, 0, none⟩ (.int .u8 s[0].toNat)).setCell ⟨w.heap.size + 1, 1, none⟩ (.string (s.extract 1 s.size))).setCell ⟨w.heap.size + 1, 2, none⟩ (.string ⟨#[]⟩)) = W2 at *
    have cI2 := bI2.cell
    have zI2 := bI2.lt
    refine wp_region_ext_tail 4 (by kernel_rfl) (by kernel_rfl) ?_
    simp only [List.take_succ_cons, List.take_zero, List.drop_succ_cons, List.drop_zero]
    repeat (first | go_big_quiet_skip | (refine wpQuiet_step (fun K hK => ?_); go_simp; first | (refine hK _ ?_; clear hK K) | (apply Exists.intro; refine ⟨fun wq hwq => ?_, hK _ ?_⟩; (obtain ⟨hqc, hqf⟩ := hwq.cells; have hqs := hwq.size; (try go_simp); first | rfl | ((first | rw [if_neg (by omega)] | rw [if_pos (by omega)]); (try go_simp); rfl) | ((go_at_call 174; exact (isRow_any (s.extract 1 s.size) _ ((hg.ext hW).ext hwq) (by omega)).mono (fun e w'' h => ⟨h.1, h.2 ▸ hwq⟩)))); clear hK K)))
    refine wpQuiet_nil ?_
    intro wM hxM
    obtain ⟨hcM, hfM⟩ := hxM.cells
    have hsM := hxM.size
    have hxWM := hW.trans hxM
    have bRM := bR2.ext hxM
    have cRM := bRM.cell; have fRM := bRM.free; have zRM := bRM.lt
    go_wp2
    refine bodyPost_ret (v := .tuple #[itV s[0] (s.extract 1 s.size) ⟨#[]⟩, .bool (rowL (bs (s.extract 1 s.size)))]) (by simp [results, Tryz.results112, go_sem, cRM]) rfl ⟨s[0], s.extract 1 s.size, ⟨#[]⟩, _, HI.out, rfl, hsz, Nat.zero_le _, ?_⟩
    exact (by repeat (first | with_reducible exact Ext.refl _ | with_reducible assumption | with_reducible apply Ext.drewN | with_reducible apply Ext.drew | with_reducible apply Ext.alloc | ((with_reducible refine Ext.setCell ?_ ?_ _); rotate_left; (first | (dsimp only; omega) | (simp; omega) | skip)) | exact Ext.refl _ | assumption | apply Ext.drewN | apply Ext.drew | apply Ext.alloc | refine Ext.setCell ?_ (by first | (dsimp only; omega) | (simp; omega)) _))
end Go.Proofs.YtghhjlcbcojcnaaGreatDoor
