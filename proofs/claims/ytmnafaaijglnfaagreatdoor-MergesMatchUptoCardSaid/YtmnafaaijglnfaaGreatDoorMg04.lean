/- Contracts of ver.Check, Print. Contracts of ver.compareWords, compareEarly, Order, Compare. Contracts of cmp.Or[int], ver.Order, Compare. Contracts of ver.number, Parse. Contracts of outref2: inner, Of, NameOf, PathOf, ValueOf. Contracts of outref2: ValueOf, Number, VersionText. The condition reader of the program: 'take'. Plain law: the program's reading of a condition, as it runs; its places only go on. A condition in memory. Plain law: the reference's words of a condition's text, its reading as it runs, and the program's states that fit it. Plain law: the program's and the reference's reading of a condition answer alike. -/
import Derived.Test.YtmnafaaijglnfaaGreatDoorMg02
namespace Go.Proofs.YtmnafaaijglnfaaGreatDoor
section
open Go.RowKit
theorem outside_num (n:Int) (w:World) :
 Calls Tryz.prog 74 #[.int .i64 n,.int .i64 0,.int .i64 999999] w fun e w'=>e=.returned (.bool (!inNum n))∧w=w' :=
 (outside_any n 0 999999 w).mono fun _ _ ⟨h,k⟩=>⟨by
   rw[h]
   refine ret_bool ?_
   unfold inNum
   rw[<-decide_not,decide_eq_decide]
   omega,k⟩
def checkV (ma mi pa:Int) (e:Str):Int:=if (inNum ma&&inNum mi&&inNum pa)=false then 3 else if (!e.isEmpty&&!earlyL e)=true then 2 else 0
set_option maxHeartbeats 1000000 in
theorem Check_any (ma mi pa:Int) (ea:ByteArray) (w:World) (hg:Good w) (hs:ea.size<=2097152) :
 Calls Tryz.prog 17 #[.agg #[.int .i64 ma,.int .i64 mi,.int .i64 pa,.string ea]] w fun e w'=>e=.returned (.int .i64 (checkV ma mi pa (bs ea)))∧Ext w w':=by
 have i0:∀ w,(Instr.index 115 (.agg #[.int .i64 ma,.int .i64 mi,.int .i64 pa]) (.int .i64 0)).run Tryz.prog w=.ok (.int .i64 ma) w:=fun _=>by kernel_rfl
 have i1:∀ w,(Instr.index 115 (.agg #[.int .i64 ma,.int .i64 mi,.int .i64 pa]) (.int .i64 1)).run Tryz.prog w=.ok (.int .i64 mi) w:=fun _=>by kernel_rfl
 have i2:∀ w,(Instr.index 115 (.agg #[.int .i64 ma,.int .i64 mi,.int .i64 pa]) (.int .i64 2)).run Tryz.prog w=.ok (.int .i64 pa) w:=fun _=>by kernel_rfl
 go_enter Tryz.func17,Tryz.ntmps17
 go_wp2
 go_loop [12] (fun i=>(i=.int .i64 0∨(i=.int .i64 1∧inNum ma=true)∨(i=.int .i64 2∧inNum ma=true∧inNum mi=true)∨(i=.int .i64 3∧inNum ma=true∧inNum mi=true∧inNum pa=true))) (fun i=>3 - (intOf i).toNat)
 case atStart=>exact .inl rfl
 case round =>
  rcases hrel with rfl|⟨rfl,h1⟩|⟨rfl,h1,h2⟩|⟨rfl,h1,h2,h3⟩
  ·go_wp2_with fail
   refine (outside_num _ _).mono ?_
   rintro e w' ⟨rfl,rfl⟩
   cases h1:inNum ma
   ·go_wp2
    go_ret
    exact⟨ret_int (by rw[checkV,h1];rfl),Ext.au⟩
   ·go_wp2
    go_round
    case rel=>exact .inr (.inl ⟨rfl,h1⟩)
    case measure=>decide
  ·go_wp2_with fail
   refine (outside_num _ _).mono ?_
   rintro e w' ⟨rfl,rfl⟩
   cases h2:inNum mi
   ·go_wp2
    go_ret
    exact⟨ret_int (by rw[checkV,h1,h2];rfl),Ext.au⟩
   ·go_wp2
    go_round
    case rel=>exact .inr (.inr (.inl ⟨rfl,h1,h2⟩))
    case measure=>decide
  ·go_wp2_with fail
   refine (outside_num _ _).mono ?_
   rintro e w' ⟨rfl,rfl⟩
   cases h3:inNum pa
   ·go_wp2
    go_ret
    exact⟨ret_int (by rw[checkV,h1,h2,h3];rfl),Ext.au⟩
   ·go_wp2
    go_round
    case rel=>exact .inr (.inr (.inr ⟨rfl,h1,h2,h3⟩))
    case measure=>decide
  ·have H1:=Hy h1
   have H2:=Hy h2
   have H3:=Hy h3
   clear h1 h2 h3
   rcases Nat.eq_zero_or_pos ea.size with h0|h0
   ·have he:=emp_of_size h0
    have hi:ea.toList.isEmpty=true:=by rw[he];rfl
    go_wp2
    go_ret
    exact⟨ret_int (by rw[checkV,H1.out,H2.out,H3.out,bs_nil h0];rfl),Ext.au⟩
   ·have he:=nemp_of_size h0
    have hi:=nemp_bool h0
    have hb:(bs ea).isEmpty=false:=by rw[ByteArray.toList_eq] at hi;exact hi
    have HB:=Hy hb
    clear hb
    go_wp2_with fail
    refine (isEarly_any _ _ (hg.ext Ext.au) hs).mono ?_
    rintro e w1 ⟨rfl,hx1⟩
    cases h4:earlyL (bs ea)
    ·go_wp2
     go_ret
     exact⟨ret_int (by rw[checkV,H1.out,H2.out,H3.out,HB.out,h4];rfl),Ext.trans Ext.au hx1⟩
    ·go_wp2
     go_ret
     exact⟨ret_int (by rw[checkV,H1.out,H2.out,H3.out,HB.out,h4];rfl),Ext.trans Ext.au hx1⟩
theorem checkV_ok {ma mi pa:Int} {e:Str} (h:checkV ma mi pa e=0):(0<=ma∧ma<=999999)∧(0<=mi∧mi<=999999)∧(0<=pa∧pa<=999999)∧(e=[]∨earlyL e=true):=by
 unfold checkV at h
 split at h
 ·cases h
 ·rename_i h1
  split at h
  ·cases h
  ·rename_i h2
   have h1':(inNum ma&&inNum mi&&inNum pa)=true:=by cases hX:(inNum ma&&inNum mi&&inNum pa) with|false=>exact absurd hX h1|true=>rfl
   simp only[Bool.and_eq_true,inNum,decide_eq_true_eq] at h1'
   refine⟨h1'.1.1,h1'.1.2,h1'.2,?_⟩
   by_cases h3:e=[]
   ·exact .inl h3
   ·refine .inr ?_
    cases h4:earlyL e
    ·exact absurd (by rw[h4];simpa using h3) h2
    ·rfl
end
section
open Go.RowKit
set_option maxHeartbeats 400000 in
theorem compareWords_any (a b:ByteArray) (w:World) (ha:a.size<=2097152) (hb:b.size<=2097152) :
 Calls Tryz.prog 223 #[.string a,.string b] w fun e w'=>e=.returned (.int .i64 (cmpWordL (bs a) (bs b)))∧w=w':=by
 go_enter Tryz.func223,Tryz.ntmps223
 go_wp2_with fail
 refine (isNumeral_any a _ ha).mono ?_
 rintro e w' ⟨rfl,rfl⟩
 go_wp2_with fail
 refine (isNumeral_any b _ hb).mono ?_
 rintro e w' ⟨rfl,rfl⟩
 cases h1:numeralL (bs a)<;>cases h2:numeralL (bs b)
 ·go_wp2_with fail
  refine (compare_any a b _).mono ?_
  rintro e w' ⟨rfl,rfl⟩
  go_wp2
  go_ret
  exact⟨ret_int (by rw[cmpWordL,h1,h2];rfl),rfl⟩
 ·go_wp2
  go_ret
  exact⟨ret_int (by rw[cmpWordL,h1,h2];rfl),rfl⟩
 ·go_wp2
  go_ret
  exact⟨ret_int (by rw[cmpWordL,h1,h2];rfl),rfl⟩
 ·by_cases h3:a.size=b.size
  ·have h4:(((a.size:Nat):Int) != ((b.size:Nat):Int))=false:=by rw[h3];simp
   have h5:(bs a).length=(bs b).length:=by rw[bs_length,bs_length,h3]
   have H5:=Hy h5
   clear h3 h5
   go_wp2_with fail
   refine (compare_any a b _).mono ?_
   rintro e w' ⟨rfl,rfl⟩
   go_wp2
   go_ret
   exact⟨ret_int (by rw[cmpWordL,h1,h2,if_pos (by rfl),if_pos H5.out]),rfl⟩
  ·have h4:(((a.size:Nat):Int) != ((b.size:Nat):Int))=true:=by rw[bne_iff_ne];omega
   have h5:¬ (bs a).length=(bs b).length:=by rw[bs_length,bs_length];exact h3
   have H5:=Hy h5
   clear h3 h5
   go_wp2_with fail
   refine (compareInt_any _ _ _).mono ?_
   rintro e w' ⟨rfl,rfl⟩
   go_wp2
   go_ret
   exact⟨ret_int (by rw[cmpWordL,h1,h2,if_pos (by rfl),if_neg H5.out,bs_length,bs_length]),rfl⟩
theorem map_bs_get {xs:List ByteArray} {k:Nat} (h:k < (xs.map bs).length):(xs.map bs)[k]=bs (xs[k]'(by simpa using h)):=by simp
theorem cmpWords_all {xs ys:List ByteArray} {X Y:List Str} (hX:xs.map bs=X) (hY:ys.map bs=Y) (h:∀ j (h1:j < xs.length) (h2:j < ys.length),cmpWordL (bs xs[j]) (bs ys[j])=0):cmpWordsL cmpWordL X Y=Lib.compareInt xs.length ys.length:=by
 subst hX hY
 rw[cmpWords_end _ _ _ (fun j h1 h2=>by rw[map_bs_get,map_bs_get];exact h j (by simpa using h1) (by simpa using h2))]
 simp
theorem cmpWords_hit {xs ys:List ByteArray} {X Y:List Str} (hX:xs.map bs=X) (hY:ys.map bs=Y) {k:Nat} (h1:k < xs.length) (h2:k < ys.length) (h:∀ j (hj:j < k),cmpWordL (bs xs[j]) (bs ys[j])=0) (hk:cmpWordL (bs xs[k]) (bs ys[k])≠0):cmpWordsL cmpWordL X Y=cmpWordL (bs xs[k]) (bs ys[k]):=by
 subst hX hY
 rw[cmpWords_at _ _ _ k (by simpa using h1) (by simpa using h2) (fun j hj=>by rw[map_bs_get,map_bs_get];exact h j hj) (by rw[map_bs_get,map_bs_get];exact hk),map_bs_get,map_bs_get]
theorem bs_inj {a b:ByteArray} (h:bs a=bs b):a=b:=by rw[<-mk_bs a,<-mk_bs b,h]
set_option maxHeartbeats 1000000 in
theorem compareEarly_any (a b:ByteArray) (w:World) (hg:Good w) (ha:a.size<=2097152) (hb:b.size<=2097152) :
 Calls Tryz.prog 148 #[.string a,.string b] w fun e w'=>e=.returned (.int .i64 (cmpEarlyL (bs a) (bs b)))∧Ext w w':=by
 go_enter Tryz.func148,Tryz.ntmps148
 by_cases hab:a=b
 ·subst hab
  have h1:(a.toList==a.toList)=true:=by simp
  go_wp2
  go_ret
  exact⟨ret_int (by rw[cmpEarlyL,if_pos rfl]),Ext.refl _⟩
 have hne:(a.toList==b.toList)=false:=by
  rw[beq_eq_false_iff_ne,ByteArray.toList_eq,ByteArray.toList_eq]
  exact fun e=>hab (bs_inj e)
 have hne2:¬ bs a=bs b:=fun e=>hab (bs_inj e)
 have HNE:=Hy hne2
 clear hab hne2
 rcases Nat.eq_zero_or_pos a.size with ha0|ha0
 ·have hi:=emp_bool ha0
  go_wp2
  go_ret
  exact⟨ret_int (by rw[cmpEarlyL,if_neg HNE.out,if_pos (bs_nil ha0)]),Ext.refl _⟩
 have hia:=nemp_bool ha0
 have hna:¬ bs a=[]:=fun e=>by have:=bs_length a;rw[e] at this;simp at this;omega
 have HNA:=Hy hna
 clear hna
 rcases Nat.eq_zero_or_pos b.size with hb0|hb0
 ·have hi:=emp_bool hb0
  go_wp2
  go_ret
  exact⟨ret_int (by rw[cmpEarlyL,if_neg HNE.out,if_neg HNA.out,if_pos (bs_nil hb0)]),Ext.refl _⟩
 have hib:=nemp_bool hb0
 have hnb:¬ bs b=[]:=fun e=>by have:=bs_length b;rw[e] at this;simp at this;omega
 have HNB:=Hy hnb
 clear hnb
 go_wp2_with fail
 refine (split_any 46 a _ hg ha).mono ?_
 rintro e w1 ⟨b1,xs,rfl,hb1,hst1,hxs,hx1⟩
 go_wp2_with fail
 refine (split_any 46 b _ (hg.ext hx1) hb).mono ?_
 rintro e w2 ⟨b2,ys,rfl,hb2,hst2,hys,hx2⟩
 have hl1:=pieces_le hxs
 have hl2:=pieces_le hys
 have HXS:=Hy hxs
 have HYS:=Hy hys
 clear hxs hys
 have hc1:=(hst1.ext hx2).cell
 have hc2:=hst2.cell
 have HC1:=Hy hc1
 have HC2:=Hy hc2
 have hx:=hx1.trans hx2
 clear hc1 hc2 hst1 hst2 hx1 hx2 hb2
 go_wp2
 go_loopw [28] (fun i wr=>∃ k:Nat,i=.int .i64 k∧k<=xs.length∧k<=ys.length∧(∀ j (h1:j < xs.length) (h2:j < ys.length),j < k->cmpWordL (bs xs[j]) (bs ys[j])=0)∧Ext w2 wr) (fun i _=>xs.length - (intOf i).toNat)
 case atStart=>exact⟨0,rfl,Nat.zero_le _,Nat.zero_le _,fun j _ _ h=>absurd h (by omega),Ext.refl _⟩
 case round =>
  obtain⟨k,rfl,hk1,hk2,hall,hxr⟩:=hrel
  have HALL:=Hy hall
  clear hall
  by_cases hlt:k < xs.length∧k < ys.length
  ·obtain⟨hlt1,hlt2⟩:=hlt
   have hm:(k:Int) < min (xs.length:Int) (ys.length:Int):=by omega
   have d1:=hxr.cell (HC1.out k hlt1)
   have d2:=hxr.cell (HC2.out k hlt2)
   have q1:=lt_of_cell d1
   have q2:=lt_of_cell d2
   have s1:=piece_le HXS.out hlt1
   have s2:=piece_le HYS.out hlt2
   go_wp2_with fail
   refine wp_region_ext (by kernel_rfl) (by kernel_rfl) ?_
   repeat (first|go_big_quiet_skip|(refine wpQuiet_step (fun K hK=>?_);go_simp;first|(refine hK _ ?_;clear hK K)|(apply Exists.intro;refine⟨fun wq hwq=>?_,hK _ ?_⟩;(obtain⟨hqc,hqf⟩:=hwq.cells;have hqs:=hwq.size;(try go_simp);first|rfl|((first|rw[if_neg (by omega)]|rw[if_pos (by omega)]);(try go_simp);rfl)|((go_at_call 223;refine (compareWords_any xs[k] ys[k] _ (by omega) (by omega)).mono (fun e w'' h=>⟨h.1,h.2 ▸ hwq⟩))));clear hK K)))
   refine wpQuiet_nil ?_
   intro wN hxN
   obtain⟨hcN,hfN⟩:=hxN.cells
   have hsN:=hxN.size
   by_cases hz:cmpWordL (bs xs[k]) (bs ys[k])=0
   ·have hz2:(cmpWordL (bs xs[k]) (bs ys[k]) != 0)=false:=by rw[hz];rfl
    have HZ:=Hy hz
    clear hz
    go_wp2
    go_roundw
    case rel =>
     refine⟨k+1,by go_num,by omega,by omega,fun j h1 h2 h3=>?_,hxr.trans hxN⟩
     by_cases hj:j=k
     ·subst hj;exact HZ.out
     ·exact HALL.out j h1 h2 (by omega)
    case measure=>simp[intOf];omega
   ·have hz2:(cmpWordL (bs xs[k]) (bs ys[k]) != 0)=true:=by rw[bne_iff_ne];exact hz
    have HZ:=Hy hz
    clear hz
    go_wp2
    go_ret
    refine⟨ret_int ?_,(hx.trans hxr).trans hxN⟩
    rw[cmpEarlyL,if_neg HNE.out,if_neg HNA.out,if_neg HNB.out,cmpWords_hit HXS.out HYS.out hlt1 hlt2 (fun j hj=>HALL.out j (by omega) (by omega) hj) HZ.out]
  ·have hm:¬ (k:Int) < min (xs.length:Int) (ys.length:Int):=by omega
   have hfin:cmpEarlyL (bs a) (bs b)=Lib.compareInt xs.length ys.length:=by
    rw[cmpEarlyL,if_neg HNE.out,if_neg HNA.out,if_neg HNB.out,cmpWords_all HXS.out HYS.out (fun j h1 h2=>HALL.out j h1 h2 (by omega))]
   have HFIN:=Hy hfin
   clear hfin
   go_wp2_with fail
   refine (compareInt_any _ _ _).mono ?_
   rintro e w' ⟨rfl,rfl⟩
   go_wp2
   go_ret
   exact⟨ret_int HFIN.out.symm,hx.trans hxr⟩
end
section
open Go.RowKit
set_option maxHeartbeats 400000 in
theorem Or_any (b c:Nat) (es:List Int) (w:World) (hc:∀ k (h:k < es.length),w.cell? ⟨b,k,none⟩=some (.int .i64 es[k])) (hl:es.length<=1000) :
 Calls Tryz.prog 83 #[.slice (some ⟨b,0,none⟩) es.length c] w fun e w'=>e=.returned (.int .i64 (firstI es))∧w=w':=by
 go_enter Tryz.func83,Tryz.ntmps83
 go_wp2
 go_loop [8] (fun i=>∃ k:Nat,k<=es.length∧i=.int .i64 k∧∀ x∈es.take k,x=0) (fun i=>es.length - (intOf i).toNat)
 case atStart=>exact⟨0,Nat.zero_le _,rfl,by simp⟩
 case round =>
  obtain⟨k,hk,rfl,hall⟩:=hrel
  have HALL:=Hy hall
  clear hall
  by_cases hlt:k < es.length
  ·have hk1:=hc k hlt
   have HC:=Hy hc
   clear hc
   by_cases h0:es[k]=0
   ·have H0:=Hy h0
    rw[h0] at hk1
    clear h0
    go_wp2
    go_round
    case rel=>exact⟨k+1,by omega,by go_num,take_zero_succ hlt HALL.out H0.out⟩
    case measure=>simp[intOf];omega
   ·have h1:(es[k] != 0)=true:=by rw[bne_iff_ne];exact h0
    go_wp2
    go_ret
    exact⟨ret_int (firstI_at hlt HALL.out h0).symm,rfl⟩
  ·obtain rfl:k=es.length:=by omega
   have HC:=Hy hc
   clear hc
   go_wp2
   go_ret
   exact⟨ret_int (firstI_zero (by simpa using HALL.out)).symm,rfl⟩
set_option maxHeartbeats 2000000 in
theorem Order_any (a1 a2 a3 b1 b2 b3:Int) (a b:ByteArray) (w:World) (hg:Good w) (ha:a.size<=2097152) (hb:b.size<=2097152) :
 Calls Tryz.prog 73 #[.agg #[.int .i64 a1,.int .i64 a2,.int .i64 a3,.string a],.agg #[.int .i64 b1,.int .i64 b2,.int .i64 b3,.string b]] w
  fun e w'=>e=.returned (.int .i64 (orderL a1 a2 a3 (bs a) b1 b2 b3 (bs b)))∧Ext w w':=by
 go_enter Tryz.func73,Tryz.ntmps73
 go_wp2_with fail
 refine wp_region_ext_tail 20 (by kernel_rfl) (by kernel_rfl) ?_
 simp only[List.take_succ_cons,List.take_zero,List.drop_succ_cons,List.drop_zero]
 repeat (first|go_big_quiet_skip|(refine wpQuiet_step (fun K hK=>?_);go_simp;first|(refine hK _ ?_;clear hK K)|(apply Exists.intro;refine⟨fun wq hwq=>?_,hK _ ?_⟩;(obtain⟨hqc,hqf⟩:=hwq.cells;have hqs:=hwq.size;(try go_simp);first|rfl|((first|rw[if_neg (by omega)]|rw[if_pos (by omega)]);(try go_simp);rfl)|((first|(go_at_call 84;exact (compareInt_any _ _ _).mono (fun e w'' h=>⟨h.1,h.2 ▸ hwq⟩))|(go_at_call 148;exact (compareEarly_any a b _ (hg.ext (Ext.trans Ext.au hwq)) ha hb).mono (fun e w'' h=>⟨h.1,hwq.trans h.2⟩)))));clear hK K)))
 refine wpQuiet_nil ?_
 intro wN hxN
 obtain⟨hcN,hfN⟩:=hxN.cells
 have hsN:=hxN.size
 go_wp2_with fail
 refine (Or_any _ _ [Lib.compareInt a1 b1,Lib.compareInt a2 b2,Lib.compareInt a3 b3,cmpEarlyL (bs a) (bs b)] _ ?_ (by simp)).mono ?_
 ·intro k hk
  rw[World.cell?_alloc_at _ _ _ _ rfl]
  match k,hk with
  | 0,_=>rfl
  | 1,_=>rfl
  | 2,_=>rfl
  | 3,_=>rfl
 rintro e w' ⟨rfl,rfl⟩
 go_wp2
 go_ret
 exact⟨rfl,(Ext.trans Ext.au hxN).alloc _⟩
structure Ver4 (w:World) (g:Nat) (a1 a2 a3:Int) (a:ByteArray):Prop where
 c0:w.cell? ⟨g,0,none⟩=some (.int .i64 a1)
 c1:w.cell? ⟨g,1,none⟩=some (.int .i64 a2)
 c2:w.cell? ⟨g,2,none⟩=some (.int .i64 a3)
 c3:w.cell? ⟨g,3,none⟩=some (.string a)
theorem Ver4.ext {w w':World} {g:Nat} {a1 a2 a3:Int} {a:ByteArray} (h:Ver4 w g a1 a2 a3 a) (hx:Ext w w'):Ver4 w' g a1 a2 a3 a:=⟨hx.cell h.c0,hx.cell h.c1,hx.cell h.c2,hx.cell h.c3⟩
theorem Ver4.lt {w:World} {g:Nat} {a1 a2 a3:Int} {a:ByteArray} (h:Ver4 w g a1 a2 a3 a):g < w.heap.size:=lt_of_cell h.c0
end
section
open Go.RowKit
def numOk (l:Str):Bool:=eachL digitB l 9&&!((l.headD 0==48)&&(l != [48]))
def numV (l:Str):Int:=if numOk l=true then decVal l else 0
theorem eachL_digits {l:Str} {n:Nat} (h:eachL digitB l n=true):l.all digitB=true∧0 < l.length∧l.length<=n:=by
 unfold eachL at h
 simp only[Bool.and_eq_true,decide_eq_true_eq] at h
 exact⟨h.1.1,h.1.2,h.2⟩
theorem no_bad {x:ByteArray} {h0:0 < x.size} (hh:(bs x).headD 0=x[0]) (h1:(x[0].toNat:Int)=48) (h2:(!x.toList==[48])=true):numOk (bs x)=false:=by
 have h3:x[0]=48:=UInt8.toNat_inj.1 (by show x[0].toNat=48;omega)
 rw[ByteArray.toList_eq] at h2
 have h4:(bs x != [48])=true:=h2
 rw[numOk,hh,h3,h4]
 simp
theorem no_good1 {x:ByteArray} (hp:eachL digitB (bs x) 9=true) (h2:(!x.toList==[48])=false):numOk (bs x)=true:=by
 rw[ByteArray.toList_eq] at h2
 have h4:(bs x != [48])=false:=h2
 rw[numOk,hp,h4]
 simp
theorem no_good2 {x:ByteArray} {h0:0 < x.size} (hp:eachL digitB (bs x) 9=true) (hh:(bs x).headD 0=x[0]) (h1:¬ (x[0].toNat:Int)=48):numOk (bs x)=true:=by
 have h3:(x[0]==48)=false:=by
  rw[beq_eq_false_iff_ne]
  intro e
  rw[e] at h1
  exact h1 rfl
 rw[numOk,hp,hh,h3]
 simp
set_option maxHeartbeats 1000000 in
theorem number_any (s:ByteArray) (w:World) (hg:GoodN w) (hs:s.size<=2097152) :
 Calls Tryz.prog 87 #[.string s] w fun e w'=>e=.returned (.tuple #[.int .i64 (numV (bs s)),.bool (numOk (bs s))])∧Ext w w':=by
 go_enter Tryz.func87,Tryz.ntmps87
 go_wp2_with fail
 refine (each_list _ _ s 9 _ hs isDigit_pred).mono ?_
 rintro e w' ⟨rfl,rfl⟩
 cases hp:eachL digitB (bs s) 9
 ·go_wp2
  go_ret2
  refine⟨?_,Ext.refl _⟩
  have h1:numOk (bs s)=false:=by rw[numOk,hp];rfl
  rw[numV,h1]
  rfl
 ·have h0:=eachL_pos hp
  have hh:=head_bs s h0
  have HH:=Hy hh
  clear hh
  have hok:numOk (bs s)=true->numV (bs s)=(decVal (bs s):Nat)∧Lib.atoiAll (bs s)=.ok ((decVal (bs s):Nat):Int):=fun h=>by
   obtain⟨d1,d2,d3⟩:=eachL_digits hp
   exact⟨by rw[numV,if_pos h],atoi_digits _ d1 d2 (by omega)⟩
  have HOK:=Hy hok
  clear hok
  go_wp2_with fail
  ·go_ret2
   refine⟨?_,Ext.refl _⟩
   have h1:numOk (bs s)=false:=no_bad HH.out (by assumption) (by assumption)
   rw[numV,h1]
   rfl
  ·have hN:numOk (bs s)=true:=no_good1 hp (by assumption)
   have HN:=Hy hN
   clear hN
   refine (atoi_any s _ hg hs).mono ?_
   rintro e w1 ⟨v,ev,rfl,hx1,hv,hev⟩
   obtain⟨rfl,rfl⟩:=hv _ (HOK.out HN.out).2
   have hV:=(HOK.out HN.out).1
   have HV:=Hy hV
   clear hV hv hev
   go_wp2_with fail
   refine wp_region_ext (by kernel_rfl) (by kernel_rfl) ?_
   repeat (first|go_big_quiet_skip|(refine wpQuiet_step (fun K hK=>?_);go_simp;first|(refine hK _ ?_;clear hK K)|(apply Exists.intro;refine⟨fun wq hwq=>?_,hK _ ?_⟩;(obtain⟨hqc,hqf⟩:=hwq.cells;have hqs:=hwq.size;(try go_simp);first|rfl|((first|rw[if_neg (by omega)]|rw[if_pos (by omega)]);(try go_simp);rfl)|((fail)));clear hK K)))
   refine wpQuiet_nil ?_
   intro wN hxN
   obtain⟨hcN,hfN⟩:=hxN.cells
   have hsN:=hxN.size
   go_wp2
   go_ret2
   refine⟨?_,hx1.trans hxN⟩
   rw[HV.out,HN.out]
   rfl
  ·have hN:numOk (bs s)=true:=no_good2 hp HH.out (by assumption)
   have HN:=Hy hN
   clear hN
   refine (atoi_any s _ hg hs).mono ?_
   rintro e w1 ⟨v,ev,rfl,hx1,hv,hev⟩
   obtain⟨rfl,rfl⟩:=hv _ (HOK.out HN.out).2
   have hV:=(HOK.out HN.out).1
   have HV:=Hy hV
   clear hV hv hev
   go_wp2_with fail
   refine wp_region_ext (by kernel_rfl) (by kernel_rfl) ?_
   repeat (first|go_big_quiet_skip|(refine wpQuiet_step (fun K hK=>?_);go_simp;first|(refine hK _ ?_;clear hK K)|(apply Exists.intro;refine⟨fun wq hwq=>?_,hK _ ?_⟩;(obtain⟨hqc,hqf⟩:=hwq.cells;have hqs:=hwq.size;(try go_simp);first|rfl|((first|rw[if_neg (by omega)]|rw[if_pos (by omega)]);(try go_simp);rfl)|((fail)));clear hK K)))
   refine wpQuiet_nil ?_
   intro wN hxN
   obtain⟨hcN,hfN⟩:=hxN.cells
   have hsN:=hxN.size
   go_wp2
   go_ret2
   refine⟨?_,hx1.trans hxN⟩
   rw[HV.out,HN.out]
   rfl
end
section
open Go.RowKit
theorem u8_all (p:UInt8->Bool) (h:(List.range 256).all (fun n=>p (UInt8.ofNat n))=true) (c:UInt8):p c=true:=by
 have h1:=List.all_eq_true.1 h c.toNat (List.mem_range.2 c.toNat_lt)
 simpa using h1
def ofL (l cs:Str):Bool:=l.all (cs.contains ·)
theorem indexByte_out {c:UInt8} {l:Str} (h:l.contains c=false):Lib.indexByte l c < 0:=by
 rw[indexByte_none c l (by simpa using h)];decide
theorem indexByte_in {c:UInt8} {l:Str} (h:l.contains c=true):¬ Lib.indexByte l c < 0:=by
 rcases first_cut c l with h1|⟨a,r,ha,rfl⟩
 ·exact absurd h (by simpa using h1)
 ·rw[indexByte_app c r a ha];omega
theorem trim_empty (l cs:Str) (h:ofL l cs=true):Lib.trimS l cs=[]:=by
 unfold Lib.trimS Lib.trimRightS Lib.trimLeftS
 have h1:∀ x∈l.reverse,cs.contains x=true:=fun x hx=>by
  have:=List.all_eq_true.1 h x (by simpa using hx)
  exact this
 rw[(while_all (fun x=>cs.contains x) l.reverse h1).2]
 rfl
set_option maxHeartbeats 400000 in
theorem inner_any (s cs:ByteArray) (w:World) (hs:s.size<=2097152) :
 Calls Tryz.prog 147 #[.string s,.string cs] w fun e w'=>e=.returned (.bool (ofL (bs s) (bs cs)))∧w=w':=by
 go_enter Tryz.func147,Tryz.ntmps147
 go_wp2
 go_loop [8] (fun i=>∃ k:Nat,k<=s.size∧i=.int .i64 k∧(s.data.toList.take k).all (fun c=>(bs cs).contains c)=true) (fun i=>s.size - (intOf i).toNat)
 case atStart=>exact⟨0,Nat.zero_le _,rfl,by simp⟩
 case round =>
  obtain⟨k,hk,rfl,hall⟩:=hrel
  have HALL:=Hy hall
  clear hall
  by_cases hlt:k < s.size
  ·have hfa:=all_false_of (fun c=>(bs cs).contains c) s k hlt
   have hsu:=all_take_succ (fun c=>(bs cs).contains c) s k hlt
   have HFA:=Hy hfa
   have HSU:=Hy hsu
   clear hfa hsu
   go_wp2_with fail
   refine (indexByte_any cs s[k] _).mono ?_
   rintro e w' ⟨rfl,rfl⟩
   cases hp:(bs cs).contains s[k]
   ·have hn:=indexByte_out hp
    have HP:=Hy hp
    clear hp
    go_wp2
    go_ret
    refine⟨ret_bool ?_,rfl⟩
    unfold ofL
    exact (HFA.out HP.out).symm
   ·have hn:=indexByte_in hp
    have HP:=Hy hp
    clear hp
    go_wp2
    go_round
    case rel=>exact⟨k+1,by omega,by go_num,by rw[HSU.out,HALL.out,HP.out];rfl⟩
    case measure=>simp[intOf];omega
  ·obtain rfl:k=s.size:=by omega
   go_wp2
   go_ret
   refine⟨ret_bool ?_,rfl⟩
   rw[take_size] at HALL
   exact HALL.out.symm
def asciiB (l:Str):Bool:=l.all fun c=>decide (c.toNat < 128)
theorem ascii_at {l:Str} (h:asciiB l=true):∀ (j:Nat) b,l[j]?=some b->b.toNat < 128:=fun j b hb=>by
 have:=List.all_eq_true.1 h b (List.mem_of_getElem? hb)
 simpa using this
set_option maxHeartbeats 400000 in
theorem Of_any (s cs:ByteArray) (w:World) (hs:s.size<=2097152) (hcs:cs.size<=1000) (ha:asciiB (bs cs)=true) :
 Calls Tryz.prog 71 #[.string s,.string cs] w fun e w'=>e=.returned (.bool (ofL (bs s) (bs cs)))∧Ext w w':=by
 have hasc:=ascii_at ha
 have HASC:=Hy hasc
 clear hasc
 go_enter Tryz.func71,Tryz.ntmps71
 go_wp2_with fail
 refine (trim_any s cs _ hs hcs HASC.out).mono ?_
 rintro e w1 ⟨rfl,hx1⟩
 by_cases ht:Lib.trimS (bs s) (bs cs)=[]
 ·have HT:=Hy ht
  rw[ht]
  clear ht
  go_wp2_with fail
  refine (inner_any s cs _ hs).mono ?_
  rintro e w' ⟨rfl,rfl⟩
  go_wp2
  go_ret
  exact⟨rfl,hx1⟩
 ·have hf:ofL (bs s) (bs cs)=false:=by
   cases h:ofL (bs s) (bs cs)
   ·rfl
   ·exact absurd (trim_empty _ _ h) ht
  have HF:=Hy hf
  clear hf
  go_wp2
  go_ret
  exact⟨ret_bool HF.out.symm,hx1⟩
def smallS:Str:=[97,98,99,100,101,102,103,104,105,106,107,108,109,110,111,112,113,114,115,116,117,118,119,120,121,122]
def greatS:Str:=[65,66,67,68,69,70,71,72,73,74,75,76,77,78,79,80,81,82,83,84,85,86,87,88,89,90]
def digitS:Str:=[48,49,50,51,52,53,54,55,56,57]
theorem small_set (c:UInt8):smallS.contains c=smallB c:=eq_of_beq (u8_all (fun c=>smallS.contains c==smallB c) (by decide +kernel) c)
theorem digit_set (c:UInt8):digitS.contains c=digitB c:=eq_of_beq (u8_all (fun c=>digitS.contains c==digitB c) (by decide +kernel) c)
theorem word_set (c:UInt8):(smallS++digitS).contains c=wordB c:=eq_of_beq (u8_all (fun c=>(smallS++digitS).contains c==wordB c) (by decide +kernel) c)
theorem name_set (c:UInt8):(smallS++digitS++[45,46]).contains c=nameB c:=eq_of_beq (u8_all (fun c=>(smallS++digitS++[45,46]).contains c==nameB c) (by decide +kernel) c)
theorem part_set (c:UInt8):(smallS++greatS++digitS++[45,46,95]).contains c=partB c:=eq_of_beq (u8_all (fun c=>(smallS++greatS++digitS++[45,46,95]).contains c==partB c) (by decide +kernel) c)
theorem of_set {p:UInt8->Bool} {cs:Str} (h:∀ c,cs.contains c=p c) (l:Str):ofL l cs=l.all p:=by
 unfold ofL
 congr 1
 funext c
 exact h c
theorem of_name (s:ByteArray) (w:World) (hs:s.size<=2097152) :
 Calls Tryz.prog 71 #[.string s,.string ⟨#[97,98,99,100,101,102,103,104,105,106,107,108,109,110,111,112,113,114,115,116,117,118,119,120,121,122,48,49,50,51,52,53,54,55,56,57,45,46]⟩] w fun e w'=>e=.returned (.bool ((bs s).all nameB))∧Ext w w' :=
 (Of_any s ⟨#[97,98,99,100,101,102,103,104,105,106,107,108,109,110,111,112,113,114,115,116,117,118,119,120,121,122,48,49,50,51,52,53,54,55,56,57,45,46]⟩ w hs (by decide) (by decide)).mono fun _ _ ⟨h,k⟩=>⟨by rw[h];exact ret_bool (of_set name_set (bs s)),k⟩
theorem of_small (s:ByteArray) (w:World) (hs:s.size<=2097152) :
 Calls Tryz.prog 71 #[.string s,.string ⟨#[97,98,99,100,101,102,103,104,105,106,107,108,109,110,111,112,113,114,115,116,117,118,119,120,121,122]⟩] w fun e w'=>e=.returned (.bool ((bs s).all smallB))∧Ext w w' :=
 (Of_any s ⟨#[97,98,99,100,101,102,103,104,105,106,107,108,109,110,111,112,113,114,115,116,117,118,119,120,121,122]⟩ w hs (by decide) (by decide)).mono fun _ _ ⟨h,k⟩=>⟨by rw[h];exact ret_bool (of_set small_set (bs s)),k⟩
theorem of_digit (s:ByteArray) (w:World) (hs:s.size<=2097152) :
 Calls Tryz.prog 71 #[.string s,.string ⟨#[48,49,50,51,52,53,54,55,56,57]⟩] w fun e w'=>e=.returned (.bool ((bs s).all digitB))∧Ext w w' :=
 (Of_any s ⟨#[48,49,50,51,52,53,54,55,56,57]⟩ w hs (by decide) (by decide)).mono fun _ _ ⟨h,k⟩=>⟨by rw[h];exact ret_bool (of_set digit_set (bs s)),k⟩
theorem of_word (s:ByteArray) (w:World) (hs:s.size<=2097152) :
 Calls Tryz.prog 71 #[.string s,.string ⟨#[97,98,99,100,101,102,103,104,105,106,107,108,109,110,111,112,113,114,115,116,117,118,119,120,121,122,48,49,50,51,52,53,54,55,56,57]⟩] w fun e w'=>e=.returned (.bool ((bs s).all wordB))∧Ext w w' :=
 (Of_any s ⟨#[97,98,99,100,101,102,103,104,105,106,107,108,109,110,111,112,113,114,115,116,117,118,119,120,121,122,48,49,50,51,52,53,54,55,56,57]⟩ w hs (by decide) (by decide)).mono fun _ _ ⟨h,k⟩=>⟨by rw[h];exact ret_bool (of_set word_set (bs s)),k⟩
theorem of_part (s:ByteArray) (w:World) (hs:s.size<=2097152) :
 Calls Tryz.prog 71 #[.string s,.string ⟨#[97,98,99,100,101,102,103,104,105,106,107,108,109,110,111,112,113,114,115,116,117,118,119,120,121,122,65,66,67,68,69,70,71,72,73,74,75,76,77,78,79,80,81,82,83,84,85,86,87,88,89,90,48,49,50,51,52,53,54,55,56,57,45,46,95]⟩] w fun e w'=>e=.returned (.bool ((bs s).all partB))∧Ext w w' :=
 (Of_any s ⟨#[97,98,99,100,101,102,103,104,105,106,107,108,109,110,111,112,113,114,115,116,117,118,119,120,121,122,65,66,67,68,69,70,71,72,73,74,75,76,77,78,79,80,81,82,83,84,85,86,87,88,89,90,48,49,50,51,52,53,54,55,56,57,45,46,95]⟩ w hs (by decide) (by decide)).mono fun _ _ ⟨h,k⟩=>⟨by rw[h];exact ret_bool (of_set part_set (bs s)),k⟩
theorem head_take (s:ByteArray) (h:0 < s.size):bs (s.extract 0 1)=[s[0]]:=by
 have h1:s.data.toList[0]?=some s[0]:=Lib.data_getElem? s 0 h
 unfold bs
 rw[Lib.extract_data]
 cases hl:s.data.toList with
 | nil=>rw[hl] at h1;cases h1
 | cons x r=>rw[hl] at h1;simp at h1;simp[h1]
set_option maxHeartbeats 1000000 in
theorem NameOf_any (s:ByteArray) (w:World) (hs:s.size<=2097152) :
 Calls Tryz.prog 19 #[.string s] w fun e w'=>e=.returned (.bool (nameL (bs s)))∧Ext w w':=by
 go_enter Tryz.func19,Tryz.ntmps19
 rcases Nat.eq_zero_or_pos s.size with h0|h0
 ·have hi:=emp_bool h0
  go_wp2
  go_ret
  exact⟨ret_bool (by rw[bs_nil h0];rfl),Ext.refl _⟩
 ·have hi:=nemp_bool h0
  by_cases h40:s.size<=40
  ·have he:eachL nameB (bs s) 40=(bs s).all nameB:=by
    unfold eachL
    rw[bs_length,decide_eq_true h0,decide_eq_true h40,Bool.and_true,Bool.and_true]
   have hh:=head_bs s h0
   have ht:=head_take s h0
   have HE:=Hy he
   have HH:=Hy hh
   have HT:=Hy ht
   clear he hh ht
   go_wp2_with fail
   refine (of_name s _ hs).mono ?_
   rintro e w1 ⟨rfl,hx1⟩
   cases hn:(bs s).all nameB
   ·have HN:=Hy hn
    clear hn
    go_wp2
    go_ret
    exact⟨ret_bool (by rw[nameL,HE.out,HN.out];rfl),hx1⟩
   ·have HN:=Hy hn
    clear hn
    have hsz:(s.extract 0 1).size<=2097152:=by rw[<-bs_length,HT.out];simp
    go_wp2_with fail
    refine (of_small _ _ hsz).mono ?_
    rintro e w2 ⟨rfl,hx2⟩
    rw[HT.out]
    go_wp2
    go_ret
    exact⟨ret_bool (by rw[nameL,HE.out,HN.out,HH.out];simp),hx1.trans hx2⟩
  ·have hn:nameL (bs s)=false:=by
    have:eachL nameB (bs s) 40=false:=by
     unfold eachL
     rw[bs_length,decide_eq_false h40];simp
    rw[nameL,this];rfl
   have HN:=Hy hn
   clear hn
   go_wp2
   go_ret
   exact⟨ret_bool HN.out.symm,Ext.refl _⟩
theorem partL_eq (l:Str):partL l=((l != [])&&(l != [46])&&(l != [46,46])&&decide (l.length<=40)&&l.all partB):=by
 unfold partL eachL
 cases l with
 | nil=>simp
 | cons x r =>
   have:decide (0 < (x::r).length)=true:=by simp
   rw[this]
   have h2:((x::r) != ([]:Str))=true:=rfl
   rw[h2]
   generalize (x::r).all partB=a
   generalize decide ((x::r).length<=40)=b
   generalize ((x::r) != [46])=c
   generalize ((x::r) != [46,46])=d
   cases a<;>cases b<;>cases c<;>cases d<;>rfl
theorem tl_beq (s:ByteArray) (l:Str):(s.toList==l)=(bs s==l):=by rw[ByteArray.toList_eq]
set_option maxHeartbeats 2000000 in
theorem PathOf_any (s:ByteArray) (w:World) (hg:Good w) (hs:s.size<=2097152) :
 Calls Tryz.prog 21 #[.string s] w fun e w'=>e=.returned (.bool (pathL (bs s)))∧Ext w w':=by
 go_enter Tryz.func21,Tryz.ntmps21
 by_cases h200:200 < s.size
 ·have hn:pathL (bs s)=false:=by
   unfold pathL
   rw[bs_length,decide_eq_false (by omega)];simp
  have HN:=Hy hn
  clear hn
  go_wp2
  go_ret
  exact⟨ret_bool HN.out.symm,Ext.refl _⟩
 go_wp2_with fail
 refine (split_any 47 s _ hg hs).mono ?_
 rintro e w1 ⟨b,xs,rfl,hb0,hst,hxs,hx⟩
 have HXS:=Hy hxs
 have hcell:=hst.cell
 have HC:=Hy hcell
 clear hcell
 have hlen:=pieces_le hxs
 clear hxs
 go_wp2
 go_loopw [11] (fun i wr=>∃ k:Nat,k<=xs.length∧i=.int .i64 k∧(xs.take k).all (fun x=>partL (bs x))=true∧Ext w1 wr) (fun i _=>xs.length - (intOf i).toNat)
 case atStart=>exact⟨0,Nat.zero_le _,rfl,by simp,Ext.refl _⟩
 case round =>
  obtain⟨k,hk,rfl,hall,hxr⟩:=hrel
  have HALL:=Hy hall
  clear hall
  by_cases hlt:k < xs.length
  ·have hk1:=hxr.cell (HC.out k hlt)
   have hsz:=piece_le HXS.out hlt
   have hne:=allS_false partL xs k hlt
   have HNE:=Hy hne
   clear hne
   have hsu:=allS_succ partL xs k hlt HALL.out
   have HSU:=Hy hsu
   clear hsu
   generalize xs[k]=x at *
   have hpl:=partL_eq (bs x)
   have HPL:=Hy hpl
   clear hpl
   have hbad:partL (bs x)=false->pathL (bs s)=false:=fun h=>by
    unfold pathL
    rw[<-HXS.out,HNE.out h];rfl
   have HBAD:=Hy hbad
   clear hbad
   cases e1:(bs x==([]:Str))
   rotate_left
   ·have hz:x.size=0:=by rw[<-bs_length,eq_of_beq e1];rfl
    have hi:=emp_bool hz
    have HP:=Hy (HBAD.out (by rw[HPL.out,bne,e1];rfl))
    clear e1
    go_wp2
    go_ret
    exact⟨ret_bool HP.out.symm,hx.trans hxr⟩
   have hz:0 < x.size:=by
    rcases Nat.eq_zero_or_pos x.size with h|h
    ·rw[bs_nil h] at e1;cases e1
    ·exact h
   have hi:=nemp_bool hz
   cases e2:(bs x==[46])
   rotate_left
   ·have t2:(x.toList==[46])=true:=by rw[tl_beq];exact e2
    have HP:=Hy (HBAD.out (by rw[HPL.out,bne,bne,e2];simp))
    clear e1 e2
    go_wp2
    go_ret
    exact⟨ret_bool HP.out.symm,hx.trans hxr⟩
   have t2:(x.toList==[46])=false:=by rw[tl_beq];exact e2
   cases e3:(bs x==[46,46])
   rotate_left
   ·have t3:(x.toList==[46,46])=true:=by rw[tl_beq];exact e3
    have HP:=Hy (HBAD.out (by rw[HPL.out,bne,bne,bne,e3];simp))
    clear e1 e2 e3
    go_wp2
    go_ret
    exact⟨ret_bool HP.out.symm,hx.trans hxr⟩
   have t3:(x.toList==[46,46])=false:=by rw[tl_beq];exact e3
   by_cases h40:40 < x.size
   ·have HP:=Hy (HBAD.out (by rw[HPL.out,bs_length,decide_eq_false (by omega:¬ x.size<=40)];simp))
    clear e1 e2 e3
    go_wp2
    go_ret
    exact⟨ret_bool HP.out.symm,hx.trans hxr⟩
   have hgood:partL (bs x)=(bs x).all partB:=by
    rw[HPL.out,bne,bne,bne,e1,e2,e3,bs_length,decide_eq_true (by omega:x.size<=40)];simp
   have HG:=Hy hgood
   clear hgood e1 e2 e3
   go_wp2_with fail
   refine (of_part x _ (by omega)).mono ?_
   rintro e w2 ⟨rfl,hx2⟩
   cases hn:(bs x).all partB
   ·have HP:=Hy (HBAD.out (HG.out.trans hn))
    clear hn
    go_wp2
    go_ret
    exact⟨ret_bool HP.out.symm,(hx.trans hxr).trans hx2⟩
   ·have HP:=Hy (HG.out.trans hn)
    clear hn
    go_wp2
    go_roundw
    case rel=>exact⟨k+1,by omega,by go_num,HSU.out HP.out,hxr.trans hx2⟩
    case measure=>simp[intOf];omega
  ·obtain rfl:k=xs.length:=by omega
   go_wp2
   go_ret
   refine⟨ret_bool ?_,hx.trans hxr⟩
   unfold pathL
   rw[<-HXS.out,allS_true partL xs HALL.out,bs_length]
   simp
   omega
end
section
open Go.RowKit
set_option maxHeartbeats 1000000 in
theorem ValueOf_any (s:ByteArray) (w:World) (hs:s.size<=2097152) :
 Calls Tryz.prog 23 #[.string s] w fun e w'=>e=.returned (.bool (valueL (bs s)))∧w=w':=by
 go_enter Tryz.func23,Tryz.ntmps23
 go_wp2
 go_loop [6] (fun i=>∃ k:Nat,k<=s.size∧i=.int .i64 k∧(s.data.toList.take k).all valueB=true) (fun i=>s.size - (intOf i).toNat)
 case atStart=>exact⟨0,Nat.zero_le _,rfl,by simp⟩
 case round =>
  obtain⟨k,hk,rfl,hall⟩:=hrel
  have HALL:=Hy hall
  clear hall
  by_cases hlt:k < s.size
  ·have hfa:=all_false_of valueB s k hlt
   have hsu:=all_take_succ valueB s k hlt
   have HFA:=Hy hfa
   have HSU:=Hy hsu
   clear hfa hsu
   by_cases h1:s[k].toNat < 32
   ·have h1':((s[k].toNat:Nat):Int) < 32:=by omega
    have hv:valueB s[k]=false:=by simp[valueB];omega
    have HV:=Hy (HFA.out hv)
    clear hv h1
    go_wp2
    go_ret
    exact⟨ret_bool (by rw[valueL,show (bs s).all valueB=false from HV.out];rfl),rfl⟩
   ·have h1':¬ ((s[k].toNat:Nat):Int) < 32:=by omega
    by_cases h2:126 < s[k].toNat
    ·have h2':(126:Int) < ((s[k].toNat:Nat):Int):=by omega
     have hv:valueB s[k]=false:=by simp[valueB];omega
     have HV:=Hy (HFA.out hv)
     clear hv h1 h2
     go_wp2
     go_ret
     exact⟨ret_bool (by rw[valueL,show (bs s).all valueB=false from HV.out];rfl),rfl⟩
    ·have h2':¬ (126:Int) < ((s[k].toNat:Nat):Int):=by omega
     have hv:valueB s[k]=true:=by simp[valueB];omega
     have HV:=Hy hv
     clear hv h1 h2
     go_wp2
     go_round
     case rel=>exact⟨k+1,by omega,by go_num,by rw[HSU.out,HALL.out,HV.out];rfl⟩
     case measure=>simp[intOf];omega
  ·obtain rfl:k=s.size:=by omega
   go_wp2
   go_ret
   refine⟨ret_bool ?_,rfl⟩
   rw[take_size] at HALL
   rw[valueL,show (bs s).all valueB=true from HALL.out,bs_length]
   simp
   omega
theorem numOk_eq (l:Str):numOk l=((l != [])&&decide (l.length<=9)&&l.all digitB&&!(decide (1 < l.length)&&(l.headD 0==48))):=by
 unfold numOk eachL
 cases l with
 | nil=>simp
 | cons x r =>
   have h1:decide (0 < (x::r).length)=true:=by simp
   have h2:((x::r) != ([]:Str))=true:=rfl
   rw[h1,h2]
   by_cases hx:x=48
   ·subst hx
    cases r with
    | nil=>decide
    | cons y t =>
      have h3:((48::y::t:Str) != [48])=true:=rfl
      have h4:decide (1 < (48::y::t:Str).length)=true:=by simp
      rw[h3,h4]
      generalize (48::y::t:Str).all digitB=a
      generalize decide ((48::y::t:Str).length<=9)=b
      cases a<;>cases b<;>rfl
   ·have h3:(((x::r:Str).headD 0)==48)=false:=by simpa using hx
    rw[h3]
    generalize (x::r:Str).all digitB=a
    generalize decide ((x::r:Str).length<=9)=b
    generalize ((x::r:Str) != [48])=c
    generalize decide (1 < (x::r:Str).length)=d
    cases a<;>cases b<;>cases c<;>cases d<;>rfl
set_option maxHeartbeats 2000000 in
theorem Number_any (s:ByteArray) (w:World) (hg:GoodN w) (hs:s.size<=2097152) :
 Calls Tryz.prog 88 #[.string s,.int .i64 9] w fun e w'=>e=.returned (.tuple #[.int .i64 (numV (bs s)),.bool (numOk (bs s))])∧Ext w w':=by
 have hpl:=numOk_eq (bs s)
 have HPL:=Hy hpl
 clear hpl
 have hno:numOk (bs s)=false->numV (bs s)=0:=fun h=>by rw[numV,h];rfl
 have HNO:=Hy hno
 clear hno
 go_enter Tryz.func88,Tryz.ntmps88
 rcases Nat.eq_zero_or_pos s.size with hz|hz
 ·have hi:=emp_bool hz
  have hp:numOk (bs s)=false:=by rw[HPL.out,bs_nil hz];rfl
  have HP:=Hy hp
  clear hp
  go_wp2
  go_ret2
  exact⟨by rw[HNO.out HP.out,HP.out];rfl,Ext.refl _⟩
 have hi:=nemp_bool hz
 have e1:(bs s != ([]:Str))=true:=by
  rw[bne_iff_ne];intro e;have:=bs_length s;rw[e] at this;simp at this;omega
 by_cases h9:9 < s.size
 ·have hp:numOk (bs s)=false:=by rw[HPL.out,bs_length,decide_eq_false (by omega:¬ s.size<=9)];simp
  have HP:=Hy hp
  clear hp e1
  go_wp2
  go_ret2
  exact⟨by rw[HNO.out HP.out,HP.out];rfl,Ext.refl _⟩
 have e2:decide (s.size<=9)=true:=decide_eq_true (by omega)
 go_wp2_with fail
 refine (of_digit s _ hs).mono ?_
 rintro e w1 ⟨rfl,hx1⟩
 cases hd:(bs s).all digitB
 ·have hp:numOk (bs s)=false:=by rw[HPL.out,hd];simp
  have HP:=Hy hp
  clear hp hd e1 e2
  go_wp2
  go_ret2
  exact⟨by rw[HNO.out HP.out,HP.out];rfl,hx1⟩
 have hq:numOk (bs s)=!(decide (1 < s.size)&&(s[0]==48)):=by
  rw[HPL.out,e1,hd,bs_length,e2,head_bs s hz];simp
 have HQ:=Hy hq
 have hV:numOk (bs s)=true->numV (bs s)=(decVal (bs s):Nat)∧Lib.atoiAll (bs s)=.ok ((decVal (bs s):Nat):Int):=fun h =>
  ⟨by rw[numV,if_pos h],atoi_digits _ hd (by rw[bs_length];exact hz) (by rw[bs_length];omega)⟩
 have HV:=Hy hV
 clear hq hV hd e1 e2
 by_cases h1:1 < s.size
 ·by_cases h48:s[0].toNat=48
  ·have h48':((s[0].toNat:Nat):Int)=48:=by omega
   have hp:numOk (bs s)=false:=by
    have:s[0]=48:=UInt8.toNat_inj.1 h48
    rw[HQ.out,this,decide_eq_true h1];rfl
   have HP:=Hy hp
   have hb:(((s[0].toNat:Nat):Int)==48)=true:=by rw[beq_iff_eq];exact h48'
   have HB:=Hy hb
   clear hp h48 h48' hb
   have hb:=HB.out
   go_wp2
   go_ret2
   exact⟨by rw[HNO.out HP.out,HP.out];rfl,hx1⟩
  ·have hb:(((s[0].toNat:Nat):Int)==48)=false:=by rw[beq_eq_false_iff_ne];omega
   have hp:numOk (bs s)=true:=by
    have:(s[0]==48)=false:=by rw[beq_eq_false_iff_ne];intro e;rw[e] at h48;exact h48 rfl
    rw[HQ.out,this];simp
   have HP:=Hy hp
   clear hp h48
   go_wp2_with fail
   refine (atoi_any s _ (hg.ext hx1) hs).mono ?_
   rintro e w2 ⟨v,ev,rfl,hx2,hv,hev⟩
   obtain⟨rfl,rfl⟩:=hv _ (HV.out HP.out).2
   clear hv hev
   go_wp2_with fail
   refine wp_region_ext (by kernel_rfl) (by kernel_rfl) ?_
   repeat (first|go_big_quiet_skip|(refine wpQuiet_step (fun K hK=>?_);go_simp;first|(refine hK _ ?_;clear hK K)|(apply Exists.intro;refine⟨fun wq hwq=>?_,hK _ ?_⟩;(obtain⟨hqc,hqf⟩:=hwq.cells;have hqs:=hwq.size;(try go_simp);first|rfl|((first|rw[if_neg (by omega)]|rw[if_pos (by omega)]);(try go_simp);rfl)|((fail)));clear hK K)))
   refine wpQuiet_nil ?_
   intro wN hxN
   obtain⟨hcN,hfN⟩:=hxN.cells
   have hsN:=hxN.size
   go_wp2
   go_ret2
   exact⟨by rw[(HV.out HP.out).1,HP.out];rfl,(hx1.trans hx2).trans hxN⟩
 ·have hp:numOk (bs s)=true:=by rw[HQ.out,decide_eq_false h1];rfl
  have HP:=Hy hp
  clear hp
  go_wp2_with fail
  refine (atoi_any s _ (hg.ext hx1) hs).mono ?_
  rintro e w2 ⟨v,ev,rfl,hx2,hv,hev⟩
  obtain⟨rfl,rfl⟩:=hv _ (HV.out HP.out).2
  clear hv hev
  go_wp2_with fail
  refine wp_region_ext (by kernel_rfl) (by kernel_rfl) ?_
  repeat (first|go_big_quiet_skip|(refine wpQuiet_step (fun K hK=>?_);go_simp;first|(refine hK _ ?_;clear hK K)|(apply Exists.intro;refine⟨fun wq hwq=>?_,hK _ ?_⟩;(obtain⟨hqc,hqf⟩:=hwq.cells;have hqs:=hwq.size;(try go_simp);first|rfl|((first|rw[if_neg (by omega)]|rw[if_pos (by omega)]);(try go_simp);rfl)|((fail)));clear hK K)))
  refine wpQuiet_nil ?_
  intro wN hxN
  obtain⟨hcN,hfN⟩:=hxN.cells
  have hsN:=hxN.size
  go_wp2
  go_ret2
  exact⟨by rw[(HV.out HP.out).1,HP.out];rfl,(hx1.trans hx2).trans hxN⟩
end
section
open Go.RowKit
structure OkS (s:ByteArray) (σ:St):Prop where
 p:σ.p<=s.size
 a:σ.a<=s.size
 t:σ.t.size<=s.size
end
section
inductive Cd where
 | mk (kind:Int) (name value:ByteArray) (args:List Cd)
def zeroC:Cd:=.mk 0 ⟨#[]⟩ ⟨#[]⟩ []
section
variable (s:ByteArray) (f:Option (St->Cd × St))
end
structure On (s:ByteArray) (σ τ:St):Prop where
 ok:OkS s σ->OkS s τ
 p:OkS s σ->σ.p<=τ.p
 wr:¬ σ.wr < 0->τ.wr=σ.wr
theorem On.refl (s:ByteArray) (σ:St):On s σ σ:=⟨id,fun _=>Nat.le_refl _,fun _=>rfl⟩
theorem On.trans {s:ByteArray} {a b c:St} (h:On s a b) (k:On s b c):On s a c :=
 ⟨fun x=>k.ok (h.ok x),fun x=>Nat.le_trans (h.p x) (k.p (h.ok x)),fun x=>by rw[k.wr (by rw[h.wr x];exact x),h.wr x]⟩
end
section
open Go.RowKit
inductive CdIn (P:Nat->Prop) (w:World):Cd->Value->Prop where
 | mk (k:Int) (n x:ByteArray) (l:List Cd) (A:Option Addr) (c b o:Nat) (u0 u1 u2 u3:Nat->Value) (hA:0 < l.length->A=some ⟨b,o,none⟩) (hb:0 < l.length->P b)
   (h0:∀ j,j < l.length->w.cell? ⟨b,o+j * 4,none⟩=some (u0 j)) (h1:∀ j,j < l.length->w.cell? ⟨b,o+j * 4+1,none⟩=some (u1 j))
   (h2:∀ j,j < l.length->w.cell? ⟨b,o+j * 4+2,none⟩=some (u2 j)) (h3:∀ j,j < l.length->w.cell? ⟨b,o+j * 4+3,none⟩=some (u3 j))
   (hr:∀ j (hj:j < l.length),CdIn P w l[j] (.agg #[u0 j,u1 j,u2 j,u3 j])):CdIn P w (.mk k n x l) (.agg #[.int .i64 k,.string n,.string x,.slice A l.length c])
abbrev CdAt (B:Nat):World->Cd->Value->Prop:=CdIn (fun b=>B<=b)
theorem CdIn.keep {P:Nat->Prop} {w w':World} (hc:∀ b o v,P b->w.cell? ⟨b,o,none⟩=some v->w'.cell? ⟨b,o,none⟩=some v) {c:Cd} {v:Value} (h:CdIn P w c v):CdIn P w' c v:=by
 induction h with
 | mk k n x l A c b o u0 u1 u2 u3 hA hb h0 h1 h2 h3 hr ih =>
   have hp:∀ j,j < l.length->P b:=fun j hj=>hb (by omega)
   exact .mk k n x l A c b o u0 u1 u2 u3 hA hb (fun j hj=>hc b _ _ (hp j hj) (h0 j hj)) (fun j hj=>hc b _ _ (hp j hj) (h1 j hj)) (fun j hj=>hc b _ _ (hp j hj) (h2 j hj)) (fun j hj=>hc b _ _ (hp j hj) (h3 j hj)) ih
theorem CdIn.imp {P P':Nat->Prop} {w:World} (hp:∀ b,b < w.heap.size->P b->P' b) {c:Cd} {v:Value} (h:CdIn P w c v):CdIn P' w c v:=by
 induction h with
 | mk k n x l A c b o u0 u1 u2 u3 hA hb h0 h1 h2 h3 hr ih =>
   exact .mk k n x l A c b o u0 u1 u2 u3 hA (fun h=>hp b (lt_of_cell (h0 0 h)) (hb h)) h0 h1 h2 h3 ih
theorem CdIn.ext {P:Nat->Prop} {w w':World} (hx:Ext w w') {c:Cd} {v:Value} (h:CdIn P w c v):CdIn P w' c v:=h.keep fun _ _ _ _ e=>hx.cell e
theorem CdAt.ext {B:Nat} {w w':World} (hx:Ext w w') {c:Cd} {v:Value} (h:CdAt B w c v):CdAt B w' c v:=h.keep fun _ _ _ _ e=>hx.cell e
theorem cell_set_far {w:World} {p:Addr} {u v:Value} {b o:Nat} (hb:b≠p.block) (e:w.cell? ⟨b,o,none⟩=some v):(w.setCell p u).cell? ⟨b,o,none⟩=some v:=by
 unfold World.cell? at e ⊢
 simp only[World.setCell,Array.getElem?_modify]
 rw[if_neg (by omega)]
 exact e
theorem CdIn.set {P:Nat->Prop} {w:World} {p:Addr} (hp:¬ P p.block) (u:Value) {c:Cd} {v:Value} (h:CdIn P w c v):CdIn P (w.setCell p u) c v:=h.keep fun _ _ _ hb e=>cell_set_far (fun x=>hp (x ▸ hb)) e
theorem CdAt.set {B:Nat} {w:World} {p:Addr} (hp:p.block < B) (u:Value) {c:Cd} {v:Value} (h:CdAt B w c v):CdAt B (w.setCell p u) c v:=h.keep fun _ _ _ hb e=>cell_set_far (by omega) e
theorem CdIn.leaf (P:Nat->Prop) (w:World) (k:Int) (n x:ByteArray):CdIn P w (.mk k n x []) (.agg #[.int .i64 k,.string n,.string x,.slice none 0 0]) :=
 .mk k n x [] none 0 0 0 (fun _=>.int .i64 0) (fun _=>.int .i64 0) (fun _=>.int .i64 0) (fun _=>.int .i64 0) (fun h=>absurd h (Nat.lt_irrefl _)) (fun h=>absurd h (Nat.lt_irrefl _)) (fun _ h=>absurd h (Nat.not_lt_zero _)) (fun _ h=>absurd h (Nat.not_lt_zero _)) (fun _ h=>absurd h (Nat.not_lt_zero _)) (fun _ h=>absurd h (Nat.not_lt_zero _)) (fun _ h=>absurd h (Nat.not_lt_zero _))
theorem CdAt.leaf (B:Nat) (w:World) (k:Int) (n x:ByteArray):CdAt B w (.mk k n x []) (.agg #[.int .i64 k,.string n,.string x,.slice none 0 0]):=CdIn.leaf _ w k n x
theorem CdIn.cells {P:Nat->Prop} {w:World} {c:Cd} {v:Value} (h:CdIn P w c v):∃ (k:Int) (n x:ByteArray) (A:Option Addr) (m cp:Nat),v=.agg #[.int .i64 k,.string n,.string x,.slice A m cp]:=by
 cases h with
 | mk k n x l A c b o u0 u1 u2 u3=>exact⟨k,n,x,A,_,c,rfl⟩
theorem CdAt.cells {B:Nat} {w:World} {c:Cd} {v:Value} (h:CdAt B w c v):∃ (k:Int) (n x:ByteArray) (A:Option Addr) (m cp:Nat),v=.agg #[.int .i64 k,.string n,.string x,.slice A m cp]:=CdIn.cells h
def z0:Value:=.bool false
structure CdRow (P:Nat->Prop) (w:World) (l:List Cd) (xs:List Value):Prop where
 len:xs.length=l.length * 4
 at_:∀ j (hj:j < l.length),CdIn P w l[j] (.agg #[xs.getD (j * 4) z0,xs.getD (j * 4+1) z0,xs.getD (j * 4+2) z0,xs.getD (j * 4+3) z0])
theorem CdRow.nil (P:Nat->Prop) (w:World):CdRow P w [] []:=⟨rfl,fun _ h=>absurd h (Nat.not_lt_zero _)⟩
theorem CdRow.keep {P P':Nat->Prop} {w w':World} {l:List Cd} {xs:List Value} (h:CdRow P w l xs) (hp:∀ b,b < w.heap.size->P b->P' b) (hc:∀ b o v,b < w.heap.size->P b->w.cell? ⟨b,o,none⟩=some v->w'.cell? ⟨b,o,none⟩=some v):CdRow P' w' l xs:=by
 refine⟨h.len,fun j hj=>?_⟩
 have h1:CdIn (fun b=>b < w.heap.size∧P b) w l[j] _:=(h.at_ j hj).imp fun b hb hP=>⟨hb,hP⟩
 have h2:CdIn (fun b=>b < w.heap.size∧P b) w' l[j] _:=h1.keep fun b o v hP e=>hc b o v hP.1 hP.2 e
 have h3:CdIn (fun b=>b < w.heap.size∧P b) w l[j] _:=h1
 clear h3
 -- the blocks told are the old world's
 have h4:∀ {c:Cd} {v:Value},CdIn (fun b=>b < w.heap.size∧P b) w' c v->CdIn P' w' c v:=by
  intro c v h
  induction h with
  | mk k n x l A c b o u0 u1 u2 u3 hA hb h0 h1 h2 h3 hr ih=>exact .mk k n x l A c b o u0 u1 u2 u3 hA (fun h=>hp b (hb h).1 (hb h).2) h0 h1 h2 h3 ih
 exact h4 h2
theorem CdRow.ext {P:Nat->Prop} {w w':World} {l:List Cd} {xs:List Value} (h:CdRow P w l xs) (hx:Ext w w'):CdRow P w' l xs:=h.keep (fun _ _ h=>h) fun _ _ _ _ _ e=>hx.cell e
theorem CdRow.snoc {P:Nat->Prop} {w:World} {l:List Cd} {xs:List Value} (h:CdRow P w l xs) {c:Cd} {u0 u1 u2 u3:Value} (hc:CdIn P w c (.agg #[u0,u1,u2,u3])):CdRow P w (l++[c]) (xs++[u0,u1,u2,u3]):=by
 refine⟨by rw[List.length_append,List.length_append,h.len];simp;omega,fun j hj=>?_⟩
 rw[List.length_append] at hj
 by_cases hlt:j < l.length
 ·have hx:∀ i,i < 4->(xs++[u0,u1,u2,u3]).getD (j * 4+i) z0=xs.getD (j * 4+i) z0:=fun i hi=>by
   rw[List.getD_eq_getElem?_getD,List.getD_eq_getElem?_getD,List.getElem?_append_left (by rw[h.len];omega)]
  have h0:=hx 0 (by omega)
  rw[Nat.add_zero] at h0
  rw[h0,hx 1 (by omega),hx 2 (by omega),hx 3 (by omega),List.getElem_append_left hlt]
  exact h.at_ j hlt
 ·have e:j=l.length:=by simp at hj;omega
  subst e
  have hx:∀ i u,([u0,u1,u2,u3]:List Value)[i]?=some u->(xs++[u0,u1,u2,u3]).getD (l.length * 4+i) z0=u:=fun i u hu=>by
   rw[List.getD_eq_getElem?_getD,List.getElem?_append_right (by rw[h.len];omega),h.len,Nat.add_sub_cancel_left,hu]
   rfl
  have h0:=hx 0 u0 rfl
  rw[Nat.add_zero] at h0
  rw[h0,hx 1 u1 rfl,hx 2 u2 rfl,hx 3 u3 rfl]
  simpa using hc
theorem CdIn.ofRow {P:Nat->Prop} {w:World} {l:List Cd} {xs:List Value} (h:CdRow P w l xs) (k:Int) (n x:ByteArray) {A:Option Addr} {cp b:Nat} (hA:0 < l.length->A=some ⟨b,0,none⟩) (hb:0 < l.length->P b) (hc:∀ j u,xs[j]?=some u->w.cell? ⟨b,j,none⟩=some u) :
 CdIn P w (.mk k n x l) (.agg #[.int .i64 k,.string n,.string x,.slice A l.length cp]):=by
 have hx:∀ j i,j < l.length->i < 4->w.cell? ⟨b,0+j * 4+i,none⟩=some (xs.getD (j * 4+i) z0):=fun j i hj hi=>by
  have hlt:j * 4+i < xs.length:=by rw[h.len];omega
  rw[Nat.zero_add]
  refine hc _ _ ?_
  rw[List.getD_eq_getElem?_getD,List.getElem?_eq_getElem hlt]
  rfl
 exact .mk k n x l A cp b 0 (fun j=>xs.getD (j * 4) z0) (fun j=>xs.getD (j * 4+1) z0) (fun j=>xs.getD (j * 4+2) z0) (fun j=>xs.getD (j * 4+3) z0) hA hb
  (fun j hj=>hx j 0 hj (by omega)) (fun j hj=>hx j 1 hj (by omega)) (fun j hj=>hx j 2 hj (by omega)) (fun j hj=>hx j 3 hj (by omega)) (fun j hj=>h.at_ j hj)
theorem CdAt.one {B:Nat} {w:World} {k:Int} {n x:ByteArray} {c:Cd} {b cp:Nat} {u0 u1 u2 u3:Value} (hb:B<=b) (h0:w.cell? ⟨b,0,none⟩=some u0) (h1:w.cell? ⟨b,1,none⟩=some u1) (h2:w.cell? ⟨b,2,none⟩=some u2) (h3:w.cell? ⟨b,3,none⟩=some u3)
 (h:CdAt B w c (.agg #[u0,u1,u2,u3])):CdAt B w (.mk k n x [c]) (.agg #[.int .i64 k,.string n,.string x,.slice (some ⟨b,0,none⟩) 1 cp]):=by
 have z:∀ j,j < [c].length->j=0:=fun j hj=>by simpa using hj
 exact .mk k n x [c] _ cp b 0 (fun _=>u0) (fun _=>u1) (fun _=>u2) (fun _=>u3) (fun _=>rfl) (fun _=>hb)
  (fun j hj=>by obtain rfl:=z j hj;exact h0) (fun j hj=>by obtain rfl:=z j hj;exact h1) (fun j hj=>by obtain rfl:=z j hj;exact h2) (fun j hj=>by obtain rfl:=z j hj;exact h3)
  (fun j hj=>by obtain rfl:=z j hj;exact h)
end
section
structure Wd where
 t:ByteArray
 k:UInt8
 a:Nat
 v:ByteArray
abbrev zeroW:Wd:=⟨⟨#[]⟩,0,0,⟨#[]⟩⟩
structure Rs where
 l:List Wd
 bad:Int
def Rs.hd (τ:Rs):Wd:=τ.l.headD zeroW
section
variable (f:Rs->Cd × Rs)
end
end
section
def LastE (W:List Wd):Prop:=∃ P e,W=P++[e]∧e.k=101
def SufR (W:List Wd) (τ:Rs):Prop:=∃ j,j < W.length∧τ.l=W.drop j
structure OnR (W:List Wd) (τ υ:Rs):Prop where
 suf:SufR W τ->SufR W υ
 len:υ.l.length<=τ.l.length
 bad:¬ τ.bad < 0->υ.bad=τ.bad
theorem OnR.refl (W:List Wd) (τ:Rs):OnR W τ τ:=⟨id,Nat.le_refl _,fun _=>rfl⟩
theorem OnR.trans {W:List Wd} {a b c:Rs} (h:OnR W a b) (k:OnR W b c):OnR W a c :=
 ⟨fun x=>k.suf (h.suf x),Nat.le_trans k.len h.len,fun x=>by rw[k.bad (by rw[h.bad x];exact x),h.bad x]⟩
section
variable {W:List Wd} (hW:LastE W)
include hW
end
end
end Go.Proofs.YtmnafaaijglnfaaGreatDoor
