/- strings.NewReplacer(..).Replace at quotes: the replacing. Contracts of strings.(*Replacer).Replace at quotes, and of ver.Quoted. Reading a text in quotes, byte by byte; contract of outref2.quotedAt. Contracts of migrate.uses, ruleWords, below, CheckRule, and of outref2.ruleWord, RuleError. Contracts of migrate.CheckRule and of outref2.RuleError. (Printed by gen/rulb.py.) Contract of outref2.RuleError. (Printed by gen/rulb.py.) -/
import Derived.Test.YtaobnifiengglaaGreatDoorCe20
import Derived.Test.YtaobnifiengglaaGreatDoorCe19
import Derived.Test.YtaobnifiengglaaGreatDoorCe02
import Derived.Test.YtaobnifiengglaaGreatDoorCe03
import Derived.Laws.CopyOwn
import Derived.Deep.RegionLaw
import Derived.Deep.CutBlock
import Derived.Test.YtaobnifiengglaaGreatDoorCe14
import Derived.Test.YtaobnifiengglaaGreatDoorCe06
import Derived.Deep.DeepCutAuto

namespace Go.Proofs.YtaobnifiengglaaGreatDoor
open Go.RowKit

/-- how many bytes are replaced -/
def spec (l : Str) : Nat := l.count 34 + l.count 92
theorem spec_snoc (l : Str) (c : UInt8) : spec (l ++ [c]) = spec l + if c = 34 ∨ c = 92 then 1 else 0 := by
  unfold spec
  rw [List.count_append, List.count_append]
  by_cases h1 : c = 34
  · subst h1; simp; omega
  · by_cases h2 : c = 92
    · subst h2; simp; omega
    · rw [if_neg (fun e => e.elim h1 h2), List.count_singleton, List.count_singleton]
      have a : (c == 34) = false := by simpa using h1
      have b : (c == 92) = false := by simpa using h2
      rw [a, b]; rfl
theorem spec_le (l : Str) : spec l ≤ 2 * l.length := by
  have := esc_len l
  have := esc_le l
  unfold spec
  omega
/-- what the table holds at a byte -/
def rowAt (v34 v92 : Value) (c : UInt8) : Value := if c = 34 then v34 else if c = 92 then v92 else .slice none 0 0
theorem tab_at {cs : Array Value} {v34 v92 : Value} (h : ∀ i : Nat, i < 256 → ¬ i = 34 → ¬ i = 92 → cs[i]? = some (.slice none 0 0)) (h34 : cs[34]? = some v34) (h92 : cs[92]? = some v92) (c : UInt8) : cs[c.toNat]? = some (rowAt v34 v92 c) := by
  unfold rowAt
  by_cases h1 : c = 34
  · rw [if_pos h1, h1]; exact h34
  · rw [if_neg h1]
    by_cases h2 : c = 92
    · rw [if_pos h2, h2]; exact h92
    · rw [if_neg h2]
      exact h _ c.toNat_lt (fun e => h1 (UInt8.toNat_inj.1 e)) (fun e => h2 (UInt8.toNat_inj.1 e))
/-- what the buffer holds behind so many bytes -/
def EscR (w0 wr : World) (s : ByteArray) (k N : Nat) : Prop := ∃ cur : List Value, Blk wr w0.heap.size 5 cur.toArray ∧ cur.length = N ∧ cur.take (esc ((bs s).take k)).length = u8s (esc ((bs s).take k)) ∧ Ext w0 wr
theorem esc_take_le (l : Str) (k : Nat) : (esc (l.take k)).length ≤ (esc l).length := by
  have h : esc l = esc (l.take k) ++ esc (l.drop k) := by rw [← esc_append, List.take_append_drop]
  rw [h, List.length_append]; omega
theorem esc_snoc (s : ByteArray) (k : Nat) (h : k < s.size) : esc ((bs s).take (k + 1)) = esc ((bs s).take k) ++ (if s[k] = 34 ∨ s[k] = 92 then [92, s[k]] else [s[k]]) := by
  rw [take_snocB s k h, esc_append]
  congr 1
theorem take_splice {cur : List Value} {E X : Str} (h : cur.take E.length = u8s E) (_hl : E.length + X.length ≤ cur.length) : (splice cur E.length (u8s X)).take (E ++ X).length = u8s (E ++ X) := by
  unfold splice
  rw [h, u8s_append, ← List.append_assoc, List.take_append_of_le_length (by simp), List.take_of_length_le (by simp)]
theorem take_set {cur : List Value} {E : Str} {c : UInt8} (h : cur.take E.length = u8s E) (hl : E.length < cur.length) : (cur.set E.length (.int .u8 c.toNat)).take (E ++ [c]).length = u8s (E ++ [c]) := by
  rw [u8s_append, ← h]
  apply List.ext_getElem?
  intro j
  have hm : min E.length cur.length = E.length := Nat.min_eq_left (Nat.le_of_lt hl)
  rw [List.getElem?_take]
  by_cases hj : j < E.length
  · rw [if_pos (by simp; omega), List.getElem?_set_ne (by omega), List.getElem?_append_left (by simp; omega), List.getElem?_take_of_lt hj]
  · by_cases hj2 : j = E.length
    · subst hj2
      rw [if_pos (by simp), List.getElem?_set_self hl, List.getElem?_append_right (by simp; omega), List.length_take, hm, Nat.sub_self]
      rfl
    · rw [if_neg (by simp; omega), List.getElem?_eq_none]
      rw [List.length_append, List.length_take, hm, u8s_length]
      simp; omega
set_option maxRecDepth 100000 in
/-- 'string(buf)' of a buffer that is full -/
theorem conv_buf {w : World} {g N : Nat} {cur : List Value} {l : Str} (hb : Blk w g 5 cur.toArray) (h : cur = u8s l) (hN : l.length = N) (c : Nat) :
    (convert 222 9 (.slice (some ⟨g, 0, none⟩) N c)).run Tryz.prog w = .ok (S l) w := by
  subst hN
  have := run_convert_bytes_arg (P := Tryz.prog) w 222 5 Tryz.underlying222 Tryz.underlying5 g 0 l.length c (l.map fun x => (x.toNat : Int)) (by simp) (fun i hi => by
    rw [Nat.zero_add, hb.cell, h]
    simp [List.getD, hi, u8s]) 9 Tryz.underlying9
  rw [this]
  have e : (l.map fun x => (x.toNat : Int)).map (fun n => UInt8.ofNat n.toNat) = l := by
    rw [List.map_map]
    exact List.map_id'' (fun x => by simp) l
  unfold strOfNums
  rw [e]
theorem copy_src {W : World} {qx : Nat} {a : Option Addr} {x : Value} (h0 : W.cell? ⟨qx, 0, none⟩ = some (.int .u8 92)) (h1 : W.cell? ⟨qx, 1, none⟩ = some x) :
    0 < ([.int .u8 92, x] : List Value).length → a = a ∧ ∃ ad, (some (⟨qx, 0, none⟩ : Addr)) = some ad ∧ ∀ (j : Nat) v, ([.int .u8 92, x] : List Value)[j]? = some v → W.cell? (ad.add j) = some v := fun _ => by
  refine ⟨rfl, _, rfl, fun j v hv => ?_⟩
  match j, hv with
  | 0, hv => simp at hv; subst hv; exact h0
  | 1, hv => simp at hv; subst hv; exact h1
  | j + 2, hv => simp at hv
theorem count_any (s : ByteArray) (c : UInt8) (n : Nat) (h : (bs s).count c = n) (w : World) :
    Calls Tryz.prog 224 #[.string s, .string ⟨#[c]⟩] w fun e w' => e = .returned (.int .i64 (n : Int)) ∧ w = w' :=
  (Tryz.strings_Count_one s c w).mono fun _ _ ⟨a, b⟩ => ⟨by rw [a, ← h]; rfl, b.symm⟩
theorem wrap_add1 {a : Int} {c : Nat} (h0 : 0 ≤ a) (h : a + c ≤ 100000000) : IntKind.i64.wrap (a + IntKind.i64.wrap ((c : Int) * IntKind.i64.wrap 1)) = a + c := by
  have w1 : IntKind.i64.wrap 1 = 1 := by decide
  rw [w1, Int.mul_one, IntKind.wrap_i64, IntKind.wrap_i64]
  omega
set_option maxRecDepth 100000 in
set_option maxHeartbeats 8000000 in
theorem BSReplace_any (p n : Nat) (s : ByteArray) (w : World) (hb : BSR w n p) (hs : s.size ≤ 2097152) :
    Calls Tryz.prog 368 #[.pointer (some ⟨p, 0, none⟩), .string s] w fun e w' => e = .returned (S (esc (bs s))) ∧ Ext w w' := by
  obtain ⟨cs, hn, hB, htab, ⟨v34, h34, q34, c34, cur34, fz34, rfl, _, hh34, hc34⟩, ⟨v92, h92, q92, c92, cur92, fz92, rfl, _, hh92, hc92⟩, q, c, h256, hq, hq0, hq1⟩ := hb.ex
  have t256 := (hB.cell 256).trans h256
  have htb : ∀ b : UInt8, cs[b.toNat]? = some (rowAt (.slice (some ⟨q34, 0, none⟩) 2 c34) (.slice (some ⟨q92, 0, none⟩) 2 c92) b) := tab_at htab h34 h92
  have HTB := Lib.hid htb
  have HB := Lib.hid hB
  have HC34 := Lib.hid hc34
  have HC92 := Lib.hid hc92
  clear htab h34 h92 h256 htb hB hc34 hc92 hb
  have hlen := esc_len (bs s)
  rw [bs_length] at hlen
  have hsp := spec_le (bs s)
  rw [bs_length] at hsp
  obtain ⟨C34, hC34⟩ : ∃ x, (bs s).count 34 = x := ⟨_, rfl⟩
  obtain ⟨C92, hC92⟩ : ∃ x, (bs s).count 92 = x := ⟨_, rfl⟩
  unfold spec at hsp
  rw [hC34, hC92] at hlen hsp
  obtain ⟨N, hN⟩ : ∃ N, (esc (bs s)).length = N := ⟨_, rfl⟩
  rw [hN] at hlen
  have HN := Lib.hid hN
  have H34 := Lib.hid hC34
  have H92 := Lib.hid hC92
  have HLEN := Lib.hid hlen
  have hN2 : N ≤ 6291456 := by omega
  clear hN hC34 hC92 hlen
  go_enter Tryz.func368, Tryz.ntmps368
  go_upto_if 26 with fail
  go_cut [5, 6] (fun a b wx => a = .int .i64 (N : Int) ∧ b = .bool (decide (0 < C34 + C92)) ∧ Ext w wx)
  case first =>
    by_cases h16 : 16 ≤ s.size
    · have h16' : decide ((16 : Int) ≤ (s.size : Int)) = true := decide_eq_true (by omega)
      rw [h16']
      clear h16'
      go_wp2
      go_loopw [5, 6, 32] (fun a b i wr => Ext w wr ∧ ((i = .int .i64 0 ∧ a = .int .i64 (s.size : Int) ∧ b = .bool false) ∨ (i = .int .i64 1 ∧ a = .int .i64 ((s.size + C34 : Nat) : Int) ∧ b = .bool (decide (0 < C34))) ∨ (i = .int .i64 2 ∧ a = .int .i64 (N : Int) ∧ b = .bool (decide (0 < C34 + C92))))) (fun _ _ i _ => 2 - (intOf i).toNat)
      case atStart => exact ⟨Ext.refl _, .inl ⟨rfl, rfl, rfl⟩⟩
      case round =>
        obtain ⟨hxr, hh⟩ := hrel
        rcases hh with ⟨rfl, rfl, rfl⟩ | ⟨rfl, rfl, rfl⟩ | ⟨rfl, rfl, rfl⟩
        · have hcell := hxr.cell hq0
          have t34 : wr.cell? ⟨p, 34, none⟩ = some (.slice (some ⟨q34, 0, none⟩) 2 c34) := hxr.cell ((HB.out.cell 34).trans (HTB.out 34))
          have hpl := lt_of_cell t34
          have hx : ∀ h, (⟨#[34]⟩ : ByteArray)[0]'h = 34 := fun _ => rfl
          go_wp2_with fail
          refine (count_any s 34 _ H34.out _).mono ?_
          rintro e w' ⟨rfl, rfl⟩
          by_cases hz : C34 = 0
          · subst hz
            go_wp2
            go_roundw
            case rel => exact ⟨hxr, .inr (.inl ⟨rfl, by simp, by simp⟩)⟩
            case measure => simp [intOf]
          · have hz1 : ((C34 : Int) != 0) = true := by rw [bne_iff_ne]; omega
            have HZ := Lib.hid hz
            clear hz
            go_wp2
            go_outline
            refine wp_region_ext (by kernel_rfl) (by kernel_rfl) ?_
            repeat (first | go_big_quiet_skip | (refine wpQuiet_step (fun K hK => ?_); go_simp; first | (refine hK _ ?_; clear hK K) | (apply Exists.intro; refine ⟨fun wq hwq => ?_, hK _ ?_⟩; (obtain ⟨hqc, hqf⟩ := hwq.cells; have hqs := hwq.size; (try go_simp); first | rfl | ((first | rw [if_neg (by omega)] | rw [if_pos (by omega)]); (try go_simp); rfl) | ((fail))); clear hK K)))
            refine wpQuiet_nil ?_
            intro wN hxN
            obtain ⟨hcN, hfN⟩ := hxN.cells
            have hsN := hxN.size
            go_wp2
            go_roundw
            case rel => exact ⟨hxr.trans hxN, .inr (.inl ⟨rfl, by rw [wrap_add1 (by omega) (by omega)]; go_num, by rw [decide_eq_true (show 0 < C34 by have := HZ.out; omega)]⟩)⟩
            case measure => simp [intOf]
        · have hcell := hxr.cell hq1
          have t92 : wr.cell? ⟨p, 92, none⟩ = some (.slice (some ⟨q92, 0, none⟩) 2 c92) := hxr.cell ((HB.out.cell 92).trans (HTB.out 92))
          have hpl := lt_of_cell t92
          have hx : ∀ h, (⟨#[92]⟩ : ByteArray)[0]'h = 92 := fun _ => rfl
          go_wp2_with fail
          refine (count_any s 92 _ H92.out _).mono ?_
          rintro e w' ⟨rfl, rfl⟩
          by_cases hz : C92 = 0
          · subst hz
            go_wp2
            go_roundw
            case rel => exact ⟨hxr, .inr (.inr ⟨rfl, by rw [HLEN.out]; simp, by simp⟩)⟩
            case measure => simp [intOf]
          · have hz1 : ((C92 : Int) != 0) = true := by rw [bne_iff_ne]; omega
            have HZ := Lib.hid hz
            clear hz
            go_wp2
            go_outline
            refine wp_region_ext (by kernel_rfl) (by kernel_rfl) ?_
            repeat (first | go_big_quiet_skip | (refine wpQuiet_step (fun K hK => ?_); go_simp; first | (refine hK _ ?_; clear hK K) | (apply Exists.intro; refine ⟨fun wq hwq => ?_, hK _ ?_⟩; (obtain ⟨hqc, hqf⟩ := hwq.cells; have hqs := hwq.size; (try go_simp); first | rfl | ((first | rw [if_neg (by omega)] | rw [if_pos (by omega)]); (try go_simp); rfl) | ((fail))); clear hK K)))
            refine wpQuiet_nil ?_
            intro wN hxN
            obtain ⟨hcN, hfN⟩ := hxN.cells
            have hsN := hxN.size
            go_wp2
            go_roundw
            case rel => exact ⟨hxr.trans hxN, .inr (.inr ⟨rfl, by rw [wrap_add1 (by omega) (by omega), HLEN.out]; go_num, by rw [decide_eq_true (show 0 < C34 + C92 by have := HZ.out; omega)]⟩)⟩
            case measure => simp [intOf]
        · go_wp2
          go_meet
          case rel => exact ⟨rfl, rfl, hxr⟩
    · have h16' : decide ((16 : Int) ≤ (s.size : Int)) = false := decide_eq_false (by omega)
      rw [h16']
      clear h16'
      go_wp2
      go_loopw [5, 6, 10] (fun a b i wr => ∃ k : Nat, k ≤ s.size ∧ i = .int .i64 k ∧ a = .int .i64 ((s.size + spec ((bs s).take k) : Nat) : Int) ∧ b = .bool (decide (0 < spec ((bs s).take k))) ∧ Ext w wr) (fun _ _ i _ => s.size - (intOf i).toNat)
      case atStart => exact ⟨0, Nat.zero_le _, rfl, rfl, rfl, Ext.refl _⟩
      case round =>
        obtain ⟨k, hk, rfl, rfl, rfl, hxr⟩ := hrel
        have hspk := spec_le ((bs s).take k)
        have htl : ((bs s).take k).length ≤ k := List.length_take_le _ _
        by_cases hlt : k < s.size
        · have hss := spec_snoc ((bs s).take k) s[k]
          rw [← take_snocB s k hlt] at hss
          have tk : wr.cell? ⟨p, s[k].toNat, none⟩ = some (rowAt (.slice (some ⟨q34, 0, none⟩) 2 c34) (.slice (some ⟨q92, 0, none⟩) 2 c92) s[k]) := hxr.cell ((HB.out.cell _).trans (HTB.out _))
          have hlb := s[k].toNat_lt
          by_cases hsp1 : s[k] = 34 ∨ s[k] = 92
          · rw [if_pos hsp1] at hss
            have hrow : ∃ qx cx, rowAt (.slice (some ⟨q34, 0, none⟩) 2 c34) (.slice (some ⟨q92, 0, none⟩) 2 c92) s[k] = .slice (some ⟨qx, 0, none⟩) 2 cx := by
              unfold rowAt
              rcases hsp1 with e | e
              · exact ⟨q34, c34, by rw [if_pos e]⟩
              · exact ⟨q92, c92, by rw [e]; rfl⟩
            obtain ⟨qx, cx, hrow⟩ := hrow
            rw [hrow] at tk
            have HSS := Lib.hid hss
            clear hss hrow hsp1
            generalize spec ((bs s).take k) = Sk at *
            go_wp2
            go_roundw
            case rel => exact ⟨k + 1, by omega, by go_num, by rw [HSS.out]; go_num, by rw [HSS.out, decide_eq_true (by omega)], hxr⟩
            case measure => simp [intOf]; omega
          · rw [if_neg hsp1] at hss
            have hrow : rowAt (.slice (some ⟨q34, 0, none⟩) 2 c34) (.slice (some ⟨q92, 0, none⟩) 2 c92) s[k] = .slice none 0 0 := by
              unfold rowAt
              rw [if_neg (fun e => hsp1 (.inl e)), if_neg (fun e => hsp1 (.inr e))]
            rw [hrow] at tk
            have HSS := Lib.hid hss
            clear hss hrow hsp1
            generalize spec ((bs s).take k) = Sk at *
            go_wp2
            go_roundw
            case rel => exact ⟨k + 1, by omega, by go_num, by rw [HSS.out]; rfl, by rw [HSS.out]; rfl, hxr⟩
            case measure => simp [intOf]; omega
        · obtain rfl : k = s.size := by omega
          have hfin : spec ((bs s).take s.size) = C34 + C92 := by
            rw [take_size, spec, H34.out, H92.out]
          have HF := Lib.hid hfin
          clear hfin
          generalize spec ((bs s).take s.size) = Sk at *
          go_wp2
          go_meet
          case rel => exact ⟨by rw [HLEN.out, HF.out], by rw [HF.out], hxr⟩
  case rest =>
    obtain ⟨rfl, rfl, hx1⟩ := hcut
    by_cases hz : 0 < C34 + C92
    rotate_left
    · rw [decide_eq_false hz]
      have he : esc (bs s) = bs s := esc_same (by rw [H34.out]; omega) (by rw [H92.out]; omega)
      have HE := Lib.hid he
      clear he
      go_wp2
      go_ret
      exact ⟨by rw [HE.out, S_bs]; rfl, hx1⟩
    rw [decide_eq_true hz]
    obtain ⟨i5, hi, hz0, hz1, hz2⟩ := info_parts info_u8
    have hmk : ∀ W, (Instr.makeSlice 222 (.int .i64 (N : Int)) (.int .i64 (N : Int))).run Tryz.prog W = .ok (.slice (some ⟨W.heap.size, 0, none⟩) N N) (W.alloc (.cells (madeCells (Value.int .u8 0).cells N) 5)) := fun W => by
      have := run_make (P := Tryz.prog) W 222 5 i5 (.int .u8 0) Tryz.underlying222 hi hz0 .i64 .i64 N N (by omega) (Int.le_refl _) (by rw [hz2]; omega) (by omega)
      rw [hz1, Nat.mul_one, Int.toNat_natCast] at this
      exact this
    obtain ⟨Z, hZ⟩ : ∃ Z : List Value, madeCells (Value.int .u8 0).cells N = Z.toArray := ⟨(madeCells (Value.int .u8 0).cells N).toList, by simp⟩
    have hZl : Z.length = N := by
      have := congrArg Array.size hZ
      rw [size_madeCells] at this
      simpa using this.symm
    rw [hZ] at hmk
    have HZL := Lib.hid hZl
    clear hZ hZl hi hz0 hz1 hz2
    go_wp2
    go_loopw [13, 14] (fun j i wr => ∃ k : Nat, k ≤ s.size ∧ i = .int .i64 k ∧ j = .int .i64 ((esc ((bs s).take k)).length : Nat) ∧ EscR wc wr s k N) (fun _ i _ => s.size - (intOf i).toNat)
    case atStart => exact ⟨0, Nat.zero_le _, rfl, rfl, Z, Blk.new _ _ _, HZL.out, rfl, (Ext.refl _).alloc _⟩
    case round =>
      obtain ⟨k, hk, rfl, rfl, cur, hbuf, hcl, hpre, hxr⟩ := hrel
      by_cases hlt : k < s.size
      · have hes := esc_snoc s k hlt
        have hle := esc_take_le (bs s) (k + 1)
        rw [HN.out] at hle
        have tk : wr.cell? ⟨p, s[k].toNat, none⟩ = some (rowAt (.slice (some ⟨q34, 0, none⟩) 2 c34) (.slice (some ⟨q92, 0, none⟩) 2 c92) s[k]) := hxr.cell (hx1.cell ((HB.out.cell _).trans (HTB.out _)))
        have hlb := s[k].toNat_lt
        have hpl := lt_of_cell tk
        have hbl := hbuf.lt
        generalize hE : esc ((bs s).take k) = E at *
        clear hE
        by_cases hsp1 : s[k] = 34 ∨ s[k] = 92
        · rw [if_pos hsp1] at hes
          have hrow : ∃ qx cx, rowAt (.slice (some ⟨q34, 0, none⟩) 2 c34) (.slice (some ⟨q92, 0, none⟩) 2 c92) s[k] = .slice (some ⟨qx, 0, none⟩) 2 cx ∧ wr.cell? ⟨qx, 0, none⟩ = some (.int .u8 92) ∧ wr.cell? ⟨qx, 1, none⟩ = some (.int .u8 s[k].toNat) := by
            unfold rowAt
            rcases hsp1 with e | e
            · exact ⟨q34, c34, by rw [if_pos e], hxr.cell (hx1.cell (HC34.out 0 92 rfl)), by rw [e]; exact hxr.cell (hx1.cell (HC34.out 1 34 rfl))⟩
            · exact ⟨q92, c92, by rw [e]; rfl, hxr.cell (hx1.cell (HC92.out 0 92 rfl)), by rw [e]; exact hxr.cell (hx1.cell (HC92.out 1 92 rfl))⟩
          obtain ⟨qx, cx, hrow, hy0, hy1⟩ := hrow
          rw [hrow] at tk
          rw [hes, List.length_append] at hle
          have hle2 : E.length + 2 ≤ N := hle
          have hJ : E.length < N := by omega
          have hJ2 : (E.length : Int) < N := by omega
          have hlb2 : (s[k].toNat : Int) < 256 := by omega
          have hJ3 : ¬ N = E.length := by omega
          have hJ4 : E.length ≤ N := by omega
          have HES := Lib.hid hes
          have HPRE := Lib.hid hpre
          have HCL := Lib.hid hcl
          have HBUF := Lib.hid hbuf
          have hmin : ([.int .u8 92, .int .u8 s[k].toNat] : List Value).length = Nat.min 2 (N - E.length) := by
            show 2 = min 2 (N - E.length)
            omega
          have hyy0 : ∀ W, Ext wr W → W.cell? ⟨qx, 0, none⟩ = some (.int .u8 92) := fun W hW => hW.cell hy0
          have hyy1 : ∀ W, Ext wr W → W.cell? ⟨qx, 1, none⟩ = some (.int .u8 s[k].toNat) := fun W hW => hW.cell hy1
          have hfit : E.length + ([.int .u8 92, .int .u8 s[k].toNat] : List Value).length ≤ cur.length := by
            show E.length + 2 ≤ cur.length
            omega
          have hxrr : ∀ W, Ext wr W → Ext wc W := fun W hW => hxr.trans hW
          have HMIN := Lib.hid hmin
          have HY0 := Lib.hid hyy0
          have HY1 := Lib.hid hyy1
          have HFIT := Lib.hid hfit
          have HXR := Lib.hid hxrr
          clear hmin hyy0 hyy1 hfit hxrr hy0 hy1
          clear hes hrow hsp1 hpre hcl hbuf hle
          go_wp2
          go_region_law ((refine step_copy_splice rfl (.tmp 105) (.tmp 111) 222 222 rfl 5 Tryz.underlying222 (by kernel_rfl) (some ⟨wc.heap.size, E.length, none⟩) (some ⟨qx, 0, none⟩) (N - E.length) (N - E.length) 2 cx rfl rfl wc.heap.size E.length cur 5 HBUF.out [.int .u8 92, .int .u8 s[k].toNat] HMIN.out (copy_src (HY0.out _ (by repeat (first | with_reducible exact Ext.refl _ | with_reducible assumption | with_reducible apply Ext.drewN | with_reducible apply Ext.drew | with_reducible apply Ext.alloc | exact Ext.refl _ | assumption | apply Ext.drewN | apply Ext.drew | apply Ext.alloc))) (HY1.out _ (by repeat (first | with_reducible exact Ext.refl _ | with_reducible assumption | with_reducible apply Ext.drewN | with_reducible apply Ext.drew | with_reducible apply Ext.alloc | exact Ext.refl _ | assumption | apply Ext.drewN | apply Ext.drew | apply Ext.alloc)))) HFIT.out (by simp [Value.oneCell']) wc.heap.size wc (HXR.out _ (by repeat (first | with_reducible exact Ext.refl _ | with_reducible assumption | with_reducible apply Ext.drewN | with_reducible apply Ext.drew | with_reducible apply Ext.alloc | exact Ext.refl _ | assumption | apply Ext.drewN | apply Ext.drew | apply Ext.alloc))) (Nat.le_refl _) ?_); (intro w4 hg4 hb4))
          go_wp2
          go_roundw
          case rel =>
            have hlen2 : (esc ((bs s).take (k + 1))).length = E.length + 2 := by rw [HES.out, List.length_append]; rfl
            refine ⟨k + 1, by omega, by go_num, by rw [hlen2]; go_num, splice cur E.length (u8s [92, s[k]]), hg4.out, ?_, ?_, hb4⟩
            · exact (length_splice _ _ _ HFIT.out).trans HCL.out
            · rw [HES.out]; exact take_splice HPRE.out HFIT.out
          case measure => simp [intOf]; omega
        · rw [if_neg hsp1] at hes
          have hrow : rowAt (.slice (some ⟨q34, 0, none⟩) 2 c34) (.slice (some ⟨q92, 0, none⟩) 2 c92) s[k] = .slice none 0 0 := by
            unfold rowAt
            rw [if_neg (fun e => hsp1 (.inl e)), if_neg (fun e => hsp1 (.inr e))]
          rw [hrow] at tk
          rw [hes, List.length_append] at hle
          have hle2 : E.length + 1 ≤ N := hle
          have hJ2 : (E.length : Int) < N := by omega
          have hJ4 : E.length < N := by omega
          have hlb2 : (s[k].toNat : Int) < 256 := by omega
          obtain ⟨x0, hx0⟩ : ∃ x, cur[E.length]? = some x := ⟨_, List.getElem?_eq_getElem (by omega)⟩
          have hcb : wr.cell? ⟨wc.heap.size, E.length, none⟩ = some x0 := by
            rw [hbuf.cell]; simpa using hx0
          clear hx0
          have hfb := hbuf.free E.length
          have hset := hbuf.set E.length (.int .u8 s[k].toNat)
          rw [List.setIfInBounds_toArray] at hset
          have HES := Lib.hid hes
          have HPRE := Lib.hid hpre
          have HCL := Lib.hid hcl
          have HSET := Lib.hid hset
          clear hes hrow hsp1 hpre hcl hbuf hle hset
          go_wp2
          go_roundw
          case rel =>
            have hlen2 : (esc ((bs s).take (k + 1))).length = E.length + 1 := by rw [HES.out, List.length_append]; rfl
            refine ⟨k + 1, by omega, by go_num, by rw [hlen2]; go_num, cur.set E.length (.int .u8 s[k].toNat), HSET.out, ?_, ?_, hxr.setCell (Nat.le_refl _) _⟩
            · rw [List.length_set]; exact HCL.out
            · rw [HES.out]; exact take_set HPRE.out (by have := HCL.out; omega)
          case measure => simp [intOf]; omega
      · obtain rfl : k = s.size := by omega
        have hfull : (bs s).take s.size = bs s := take_size s
        rw [hfull, HN.out] at hpre
        have hcur : cur = u8s (esc (bs s)) := by
          rw [← hpre, List.take_of_length_le (by omega)]
        have hcv := conv_buf hbuf hcur HN.out N
        clear hcur hpre hfull hbuf hcl
        go_wp2
        go_ret
        exact ⟨rfl, hx1.trans hxr⟩
end Go.Proofs.YtaobnifiengglaaGreatDoor

namespace Go.Proofs.YtaobnifiengglaaGreatDoor
open Go.RowKit

theorem BSR.mono {w : World} {n m p : Nat} (h : BSR w n p) (hm : m ≤ n) : BSR w m p := by
  obtain ⟨cs, hn, h1, h2, ⟨v, h3, h4⟩, ⟨u, h5, h6⟩, q, c, h7, hq, h8, h9⟩ := h.ex
  exact ⟨cs, Nat.le_trans hm hn, h1, h2, ⟨v, h3, h4.mono hm⟩, ⟨u, h5, h6.mono hm⟩, q, c, h7, Nat.le_trans hm hq, h8, h9⟩
set_option maxHeartbeats 1600000 in
theorem buildOnce_q (g q c : Nat) (w0 W : World) (hx : Ext w0 W) (hg0 : w0.heap.size ≤ g) (hB : Blk W g 270 (rep5 0 1 0 .nilIface (.slice (some ⟨q, 0, none⟩) 4 c))) (ho : OldNew W q) :
    Calls Tryz.prog 220 #[.pointer (some ⟨g, 0, none⟩)] W (Built w0 g) := by
  go_enter Tryz.func220, Tryz.ntmps220
  go_wp2_with fail
  refine (build_q g q c W hB ho).mono ?_
  rintro e w1 ⟨p, rfl, hbs, hx1⟩
  have hlt := hB.lt
  have b1 := hB.ext hx1
  have b2 := b1.set 3 (.iface 349 (.pointer (some ⟨p, 0, none⟩)))
  have b3 := b2.set 4 (.slice none 0 0)
  have d3 : w1.cell? ⟨g, 3, none⟩ = some .nilIface := b1.cell 3
  have f3 := b1.free 3
  have d4 : (w1.setCell ⟨g, 3, none⟩ (.iface 349 (.pointer (some ⟨p, 0, none⟩)))).cell? ⟨g, 4, none⟩ = some (.slice (some ⟨q, 0, none⟩) 4 c) := b2.cell 4
  have f4 := b2.free 4
  have hres : Built w0 g (.returned (.tuple #[])) ((w1.setCell ⟨g, 3, none⟩ (.iface 349 (.pointer (some ⟨p, 0, none⟩)))).setCell ⟨g, 4, none⟩ (.slice none 0 0)) :=
    ⟨p, rfl, b3, ((hbs.mono hlt).far (Nat.lt_succ_self g) _ _).far (Nat.lt_succ_self g) _ _, ((hx.trans hx1).setCell hg0 _).setCell hg0 _⟩
  have HRES := Lib.hid hres
  clear hres b1 b2 b3 hbs hB ho
  go_wp2
  go_end0
  exact HRES.out
set_option maxHeartbeats 1600000 in
set_option maxRecDepth 100000 in
theorem ReplacerReplace_q (g q c : Nat) (s : ByteArray) (w0 w : World) (hx : Ext w0 w) (hg0 : w0.heap.size ≤ g) (hqg : q < g) (hB : Blk w g 270 (rep5 0 0 0 .nilIface (.slice (some ⟨q, 0, none⟩) 4 c))) (ho : OldNew w q) (hs : s.size ≤ 2097152) :
    Calls Tryz.prog 165 #[.pointer (some ⟨g, 0, none⟩), .string s] w fun e w' => e = .returned (S (esc (bs s))) ∧ Ext w0 w' := by
  have hdo := do_q g (.slice (some ⟨q, 0, none⟩) 4 c) w0 w hx hg0 hB (fun W h1 h2 h3 h4 => buildOnce_q g q c w0 W h1 hg0 h4 ⟨by have := ho.lt; omega, (h3 q 0 (by omega)).trans ho.s0, (h3 q 1 (by omega)).trans ho.s1, (h3 q 2 (by omega)).trans ho.s2, (h3 q 3 (by omega)).trans ho.s3⟩)
  have HDO := Lib.hid hdo
  clear hdo
  have hme : ∀ (a : Addr) w, (method 524 349 (.pointer (some a)) "Replace").run Tryz.prog w = .ok (368, .pointer (some a)) w := fun _ _ => by kernel_rfl
  go_enter Tryz.func165, Tryz.ntmps165
  go_wp2_with fail
  refine HDO.out.mono ?_
  rintro e w1 ⟨rfl, p, b1, hbs, hx1⟩
  have d3 : w1.cell? ⟨g, 3, none⟩ = some (.iface 349 (.pointer (some ⟨p, 0, none⟩))) := b1.cell 3
  clear b1
  go_wp2_with fail
  refine (BSReplace_any p (g + 1) s w1 hbs hs).mono ?_
  rintro e w2 ⟨rfl, hx2⟩
  go_wp2
  go_ret
  exact ⟨rfl, hx1.trans hx2⟩
theorem quoteL_eq (l : Str) : quoteL l = [34] ++ esc l ++ [34] := rfl
set_option maxRecDepth 100000 in
set_option maxHeartbeats 1600000 in
/-- ver.Quoted -/
theorem Quoted_any (s : ByteArray) (w : World) (hs : s.size ≤ 2097152) :
    Calls Tryz.prog 77 #[.string s] w fun e w' => e = .returned (S (quoteL (bs s))) ∧ Ext w w' := by
  have hle := esc_le (bs s)
  rw [bs_length] at hle
  obtain ⟨E, hE⟩ : ∃ E : ByteArray, S (esc (bs s)) = .string E ∧ bs E = esc (bs s) ∧ E.size ≤ 6291456 := ⟨⟨(esc (bs s)).toArray⟩, rfl, by rw [bs_mk], by rw [← bs_length, bs_mk]; omega⟩
  obtain ⟨hE1, hE2, hE3⟩ := hE
  have HQ := Lib.hid (quoteL_eq (bs s))
  have HE2 := Lib.hid hE2
  clear hE2 hle
  have ho : OldNew (w.alloc (.cells #[.string ⟨#[92]⟩, .string ⟨#[92, 92]⟩, .string ⟨#[34]⟩, .string ⟨#[92, 34]⟩] 9)) w.heap.size := ⟨by simp, by rw [(Blk.new w _ _).cell]; rfl, by rw [(Blk.new w _ _).cell]; rfl, by rw [(Blk.new w _ _).cell]; rfl, by rw [(Blk.new w _ _).cell]; rfl⟩
  have HO := Lib.hid ho
  clear ho
  go_enter Tryz.func77, Tryz.ntmps77
  go_wp2_with fail
  refine (NewReplacer_q w.heap.size _ HO.out).mono ?_
  rintro e w1 ⟨g, q, c, rfl, hg, hqg, hB, ho1, hx1⟩
  have hx : Ext w w1 := Ext.trans (by repeat (first | with_reducible exact Ext.refl _ | with_reducible assumption | with_reducible apply Ext.drewN | with_reducible apply Ext.drew | with_reducible apply Ext.alloc | exact Ext.refl _ | assumption | apply Ext.drewN | apply Ext.drew | apply Ext.alloc)) hx1
  have hg2 : w.heap.size ≤ g := Nat.le_trans (by simp) hg
  have HO1 := Lib.hid ho1
  have HB := Lib.hid hB
  clear ho1 hB
  go_wp2_with fail
  refine (ReplacerReplace_q g q c s w w1 hx hg2 hqg HB.out HO1.out hs).mono ?_
  rw [hE1]
  rintro e w2 ⟨rfl, hx2⟩
  clear hE1
  go_wp2
  go_ret
  refine ⟨ret_strS ?_, hx2⟩
  rw [HQ.out, bs_append, bs_append, HE2.out]
end Go.Proofs.YtaobnifiengglaaGreatDoor

namespace Go.Proofs.YtaobnifiengglaaGreatDoor
open Go.RowKit

/-! ### Reading on, byte by byte -/
def InvQ (L : Str) (R : Option (Str × Str)) (k : Nat) (done : Str) : Prop := R = (unq (L.drop k)).map fun x => (done ++ x.1, x.2)
theorem drop_cons (s : ByteArray) (k : Nat) (h : k < s.size) : (bs s).drop k = s[k] :: (bs s).drop (k + 1) := by
  rw [List.drop_eq_getElem_cons (by rw [bs_length]; exact h)]; rfl
theorem invQ_start (L : Str) (i : Nat) : InvQ L (unq (L.drop i)) i [] := by
  unfold InvQ
  cases unq (L.drop i) <;> rfl
section
variable {s : ByteArray} {R : Option (Str × Str)} {k : Nat} {done : Str}
theorem invQ_out (h : InvQ (bs s) R k done) (hk : s.size ≤ k) : R = none := by
  rw [h, List.drop_of_length_le (by rw [bs_length]; exact hk), unq_nil]; rfl
theorem invQ_end (h : InvQ (bs s) R k done) (hk : k < s.size) (h1 : s[k] = 34) : R = some (done, (bs s).drop (k + 1)) := by
  rw [h, drop_cons s k hk, h1, unq_end]; simp
theorem invQ_one (h : InvQ (bs s) R k done) (hk : k < s.size) (h1 : ¬ s[k] = 34) (h2 : ¬ s[k] = 92) : InvQ (bs s) R (k + 1) (done ++ [s[k]]) := by
  unfold InvQ at h ⊢
  rw [h, drop_cons s k hk, unq_one h1 h2, Option.map_map]
  congr 1
  funext x
  simp
theorem invQ_last (h : InvQ (bs s) R k done) (hk : k + 1 = s.size) (h1 : s[k] = 92) : R = none := by
  rw [h, drop_cons s k (by omega), h1, List.drop_of_length_le (by rw [bs_length]; omega), unq_back0]; rfl
theorem invQ_bad (h : InvQ (bs s) R k done) (hk : k + 1 < s.size) (h1 : s[k] = 92) (h2 : ¬ s[k + 1] = 34) (h3 : ¬ s[k + 1] = 92) : R = none := by
  rw [h, drop_cons s k (by omega), h1, drop_cons s (k + 1) hk, unq_bad (fun e => e.elim h2 h3)]; rfl
theorem invQ_two (h : InvQ (bs s) R k done) (hk : k + 1 < s.size) (h1 : s[k] = 92) (h2 : s[k + 1] = 34 ∨ s[k + 1] = 92) : InvQ (bs s) R (k + 1 + 1) (done ++ [s[k + 1]]) := by
  unfold InvQ at h ⊢
  rw [h, drop_cons s k (by omega), h1, drop_cons s (k + 1) hk, unq_two h2, Option.map_map]
  congr 1
  funext x
  simp
end
theorem byte_no {c : UInt8} {n : UInt8} (h : ¬ c = n) (z : Int) (hz : z = n.toNat) : ((c.toNat : Int) == z) = false := by
  rw [beq_eq_false_iff_ne]
  intro e
  exact h (UInt8.toNat_inj.1 (by omega))
theorem byte_ne {c : UInt8} {n : UInt8} (h : ¬ c = n) (z : Int) (hz : z = n.toNat) : ((c.toNat : Int) != z) = true := by
  rw [bne, byte_no h z hz]; rfl

/-- outref2.quotedAt -/
def qatR (n : Nat) : Option (Str × Str) → Str × Nat × Bool
  | none => ([], 0, false)
  | some (t, z) => (t, n - z.length, true)
def qat (l : Str) (i : Nat) : Str × Nat × Bool := qatR l.length (unq (l.drop (i + 1)))
theorem conv_own {w : World} {B m : Nat} {v : Value} {l : Str} (h : w.ownsRow B 5 1 v m (u8s l)) :
    ∀ W, Ext w W → (convert 222 9 v).run Tryz.prog W = .ok (S l) W := fun W hW => by
  have hl : l.length = m := by have := h.1; rw [u8s_length, Nat.mul_one] at this; exact this
  rcases Nat.eq_zero_or_pos m with h0 | h0
  · rcases h.2 with ⟨rfl, _⟩ | ⟨g, cap, cur, rfl, _, _, _, _⟩
    · have e : l = [] := List.eq_nil_of_length_eq_zero (by omega)
      rw [e]
      exact run_convert_bytes_nil (P := Tryz.prog) W 222 5 Tryz.underlying222 Tryz.underlying5 0 0 9 Tryz.underlying9
    · have e : l = [] := List.eq_nil_of_length_eq_zero (by omega)
      subst h0
      rw [e]
      exact run_convert_bytes_arg (P := Tryz.prog) W 222 5 Tryz.underlying222 Tryz.underlying5 g 0 0 cap [] rfl (fun i hi => absurd hi (Nat.not_lt_zero _)) 9 Tryz.underlying9
  · obtain ⟨g, c, rfl, _, _, _, hc⟩ := own_form h h0
    subst hl
    have := run_convert_bytes_arg (P := Tryz.prog) W 222 5 Tryz.underlying222 Tryz.underlying5 g 0 l.length c (l.map fun x => (x.toNat : Int)) (by simp) (fun i hi => by
      rw [Nat.zero_add]
      refine (hW.cell (hc i (.int .u8 l[i].toNat) (by simp [u8s, hi]))).trans ?_
      simp [List.getD, hi]) 9 Tryz.underlying9
    rw [this]
    have e : (l.map fun x => (x.toNat : Int)).map (fun n => UInt8.ofNat n.toNat) = l := by
      rw [List.map_map]
      exact List.map_id'' (fun x => by simp) l
    unfold strOfNums
    rw [e]
end Go.Proofs.YtaobnifiengglaaGreatDoor

namespace Go.Proofs.YtaobnifiengglaaGreatDoor
open Go.RowKit

/-- a rule as memory has it -/
structure RB where
  kind : Int
  key : ByteArray
  tt : ByteArray
  old : ByteArray
  new : ByteArray
def RB.l (r : RB) : Ru := ⟨r.kind, bs r.key, bs r.tt, bs r.old, bs r.new⟩
structure SmallR (r : RB) : Prop where
  key : r.key.size ≤ 2097152
  tt : r.tt.size ≤ 2097152
  old : r.old.size ≤ 2097152
  new : r.new.size ≤ 2097152

/-! ### CheckRule -/
end Go.Proofs.YtaobnifiengglaaGreatDoor

namespace Go.Proofs.YtaobnifiengglaaGreatDoor
open Go.RowKit

end Go.Proofs.YtaobnifiengglaaGreatDoor

namespace Go.Proofs.YtaobnifiengglaaGreatDoor
open Go.RowKit

end Go.Proofs.YtaobnifiengglaaGreatDoor
