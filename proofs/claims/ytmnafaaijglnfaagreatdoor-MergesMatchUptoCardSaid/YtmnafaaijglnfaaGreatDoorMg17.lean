/- Contract of outref2.CompareOf, at right versions. -/
import Derived.Test.YtmnafaaijglnfaaGreatDoorMg14
namespace Go.Proofs.YtmnafaaijglnfaaGreatDoor
open Go.RowKit
theorem order_split (x y z e:Int):firstI [x,y,z,e]=if firstI [x,y,z]=0 then e else firstI [x,y,z]:=by
 simp only[firstI]
 by_cases hx:x=0
 ·by_cases hy:y=0
  ·by_cases hz:z=0
   ·by_cases he:e=0
    ·simp[hx,hy,hz,he]
    ·simp[hx,hy,hz,he]
   ·simp[hx,hy,hz]
  ·simp[hx,hy]
 ·simp[hx]
theorem early_of {a1 a2 a3:Int} {a:ByteArray} (h:checkV a1 a2 a3 (bs a)=0) (h0:0 < a.size):earlyL (bs a)=true:=by
 rcases (checkV_ok h).2.2.2 with e|e
 ·have:=bs_length a;rw[e] at this;simp at this;omega
 ·exact e
theorem words_of {a:ByteArray} {xs:List ByteArray} (h:earlyL (bs a)=true) (hx:xs.map bs=splitC 46 (bs a)) {k:Nat} (hk:k < xs.length):earlyWordL (bs xs[k])=true:=by
 unfold earlyL at h
 rw[Bool.and_eq_true] at h
 exact List.all_eq_true.1 h.1 _ (by rw[<-hx];exact List.mem_map.2 ⟨_,List.getElem_mem hk,rfl⟩)
def digL (l:Str):Bool:=l.all digitB
theorem of_digitD (s:ByteArray) (w:World) (hs:s.size<=2097152) :
 Calls Tryz.prog 71 #[.string s,.string ⟨#[48,49,50,51,52,53,54,55,56,57]⟩] w fun e w'=>e=.returned (.bool (digL (bs s)))∧Ext w w':=of_digit s w hs
theorem min_cmp (n m:Nat):Lib.compareInt (min 1 (n:Int)) (min 1 (m:Int))=if n=0 then (if m=0 then 0 else -1) else (if m=0 then 1 else 0):=by
 unfold Lib.compareInt
 by_cases hn:n=0
 ·by_cases hm:m=0
  ·subst hn hm;rfl
  ·rw[if_pos hn,if_neg hm,if_pos (by omega)]
 ·by_cases hm:m=0
  ·rw[if_neg hn,if_pos hm,if_neg (by omega),if_pos (by omega)]
  ·rw[if_neg hn,if_neg hm,if_neg (by omega),if_neg (by omega)]
set_option maxHeartbeats 4000000 in
set_option maxRecDepth 100000 in
theorem CompareOf_any (a1 a2 a3 b1 b2 b3:Int) (a b:ByteArray) (w:World) (hg:GoodN w) (ha:a.size<=2097152) (hb:b.size<=2097152) (oA:checkV a1 a2 a3 (bs a)=0) (oB:checkV b1 b2 b3 (bs b)=0) :
 Calls Tryz.prog 25 #[.agg #[.int .i64 a1,.int .i64 a2,.int .i64 a3,.string a],.agg #[.int .i64 b1,.int .i64 b2,.int .i64 b3,.string b]] w
  fun e w'=>e=.returned (.int .i64 (orderL a1 a2 a3 (bs a) b1 b2 b3 (bs b)))∧Ext w w':=by
 have os:orderL a1 a2 a3 (bs a) b1 b2 b3 (bs b)=_:=order_split _ _ _ _
 have OS:=Hy os
 have OA:=Hy oA
 have OB:=Hy oB
 clear os oA oB
 go_enter Tryz.func25,Tryz.ntmps25
 go_wp2_with fail
 refine wp_region_ext_tail 15 (by kernel_rfl) (by kernel_rfl) ?_
 simp only[List.take_succ_cons,List.take_zero,List.drop_succ_cons,List.drop_zero]
 repeat (first|go_big_quiet_skip|(refine wpQuiet_step (fun K hK=>?_);go_simp;first|(refine hK _ ?_;clear hK K)|(apply Exists.intro;refine⟨fun wq hwq=>?_,hK _ ?_⟩;(obtain⟨hqc,hqf⟩:=hwq.cells;have hqs:=hwq.size;(try go_simp);first|rfl|((first|rw[if_neg (by omega)]|rw[if_pos (by omega)]);(try go_simp);rfl)|(((go_at_call 84;exact (compareInt_any _ _ _).mono (fun e w'' h=>⟨h.1,h.2 ▸ hwq⟩)))));clear hK K)))
 refine wpQuiet_nil ?_
 intro wN hxN
 obtain⟨hcN,hfN⟩:=hxN.cells
 have hsN:=hxN.size
 go_wp2_with fail
 refine (Or_any _ _ [Lib.compareInt a1 b1,Lib.compareInt a2 b2,Lib.compareInt a3 b3] _ ?_ (by simp)).mono ?_
 ·intro k hk
  rw[World.cell?_alloc_at _ _ _ _ rfl]
  match k,hk with
  | 0,_=>rfl
  | 1,_=>rfl
  | 2,_=>rfl
 rintro e w' ⟨rfl,rfl⟩
 have hgN:GoodN wN:=hg.ext (Ext.trans Ext.au hxN)
 have hxw:Ext w wN:=Ext.trans Ext.au hxN
 have q1:w.heap.size+1 < wN.heap.size:=by simp at hsN;omega
 have q2:w.heap.size < wN.heap.size:=by omega
 clear hsN
 by_cases h0:firstI [Lib.compareInt a1 b1,Lib.compareInt a2 b2,Lib.compareInt a3 b3]=0
 rotate_left
 ·have HF:=Hy h0
  have hb2:(firstI [Lib.compareInt a1 b1,Lib.compareInt a2 b2,Lib.compareInt a3 b3] != 0)=true:=by rw[bne_iff_ne];exact h0
  have hfin:=OS.out
  rw[if_neg h0] at hfin
  have HFIN:=Hy hfin
  clear hfin h0
  generalize firstI [Lib.compareInt a1 b1,Lib.compareInt a2 b2,Lib.compareInt a3 b3]=r at *
  go_wp2
  go_ret
  exact⟨ret_int HFIN.out.symm,hxw.alloc _⟩
 have oe:=OS.out
 rw[if_pos h0] at oe
 have OE0:=Hy oe
 rw[h0]
 clear oe h0
 rcases Nat.eq_zero_or_pos a.size with za|za
 ·have hi:=emp_bool za
  have hfin:orderL a1 a2 a3 (bs a) b1 b2 b3 (bs b)=Lib.compareInt (min 1 (b.size:Int)) (min 1 (a.size:Int)):=by
   rw[OE0.out,cmpEarly_left (bs_nil za),min_cmp,if_pos za]
   by_cases zb:b.size=0
   ·rw[if_pos zb,if_pos (bs_nil zb)]
   ·rw[if_neg zb,if_neg (fun e=>zb (by rw[<-bs_length,e];rfl))];simp[za]
  have HFIN:=Hy hfin
  clear hfin za
  go_wp2_with (go_at_call 84;refine (compareInt_any _ _ _).mono ?_;rintro e w' ⟨rfl,rfl⟩)
  go_ret
  exact⟨ret_int HFIN.out.symm,hxw.alloc _⟩
 have hia:=nemp_bool za
 have na:¬ bs a=[]:=fun e=>by have:=bs_length a;rw[e] at this;simp at this;omega
 have NA:=Hy na
 clear na
 rcases Nat.eq_zero_or_pos b.size with zb|zb
 ·have hi:=emp_bool zb
  have hfin:orderL a1 a2 a3 (bs a) b1 b2 b3 (bs b)=Lib.compareInt (min 1 (b.size:Int)) (min 1 (a.size:Int)):=by
   rw[OE0.out,cmpEarly_right NA.out (bs_nil zb),min_cmp,if_pos zb,if_neg (by omega)]
  have HFIN:=Hy hfin
  clear hfin zb
  go_wp2_with (go_at_call 84;refine (compareInt_any _ _ _).mono ?_;rintro e w' ⟨rfl,rfl⟩)
  go_ret
  exact⟨ret_int HFIN.out.symm,hxw.alloc _⟩
 have hib:=nemp_bool zb
 have nb:¬ bs b=[]:=fun e=>by have:=bs_length b;rw[e] at this;simp at this;omega
 have oe:=OE0.out
 rw[cmpEarly_both NA.out nb] at oe
 have OE:=Hy oe
 have EA:=Hy (early_of OA.out za)
 have EB:=Hy (early_of OB.out zb)
 clear oe nb
 have hgM:GoodN (wN.alloc (.cells #[.int .i64 (Lib.compareInt a1 b1),.int .i64 (Lib.compareInt a2 b2),.int .i64 (Lib.compareInt a3 b3)] 3)):=hgN.ext Ext.au
 have hx6:Ext w (wN.alloc (.cells #[.int .i64 (Lib.compareInt a1 b1),.int .i64 (Lib.compareInt a2 b2),.int .i64 (Lib.compareInt a3 b3)] 3)):=hxw.alloc _
 have s1:(wN.alloc (.cells #[.int .i64 (Lib.compareInt a1 b1),.int .i64 (Lib.compareInt a2 b2),.int .i64 (Lib.compareInt a3 b3)] 3)).cell? ⟨w.heap.size,3,none⟩=some (.string a):=by
  rw[World.cell?_alloc_past _ _ _ q2,hcN _ _ (by simp<;>omega)]
  go_simp
 have s2:(wN.alloc (.cells #[.int .i64 (Lib.compareInt a1 b1),.int .i64 (Lib.compareInt a2 b2),.int .i64 (Lib.compareInt a3 b3)] 3)).cell? ⟨w.heap.size+1,3,none⟩=some (.string b):=by
  rw[World.cell?_alloc_past _ _ _ q1,hcN _ _ (by simp<;>omega)]
  go_simp
 go_wp2_with fail
 generalize (wN.alloc (.cells #[.int .i64 (Lib.compareInt a1 b1),.int .i64 (Lib.compareInt a2 b2),.int .i64 (Lib.compareInt a3 b3)] 3))=W6 at *
 clear hxN hcN hfN hxw hgN q1 q2
 go_region_held3 (fun w'=>w'.cell? ⟨w.heap.size,3,none⟩=some (.string a)∧w'.cell? ⟨w.heap.size+1,3,none⟩=some (.string b))
  (first
    | exact⟨hy1.cell s1,hy1.cell s2⟩
    | exact⟨hy2.cell (hy1.cell s1),hy2.cell (hy1.cell s2)⟩
    | go_keep)
  (first
    | (go_at_call 70;with_reducible refine (split_any 46 a _ (hgM.toGood.ext ((Ext.refl _).drew)) ha).mono ?_;rintro e w1 ⟨p1,xs,rfl,hp1,hst1,hxs,hy1⟩)
    | (go_at_call 70;with_reducible refine (split_any 46 b _ ((hgM.toGood.ext ((Ext.refl _).drew)).ext hy1) hb).mono ?_;rintro e w2 ⟨p2,ys,rfl,hp2,hst2,hys,hy2⟩))
 have hl1:=pieces_le hxs
 have hl2:=pieces_le hys
 have HXS:=Hy hxs
 have HYS:=Hy hys
 have hc1:=(hst1.ext hy2).cell
 have hc2:=hst2.cell
 have HC1:=Hy hc1
 have HC2:=Hy hc2
 have hx:Ext w w2:=(hx6.trans ((Ext.refl W6).drew.trans hy1)).trans hy2
 have hgw:GoodN w2:=hg.ext hx
 clear hxs hys hc1 hc2 hst1 hst2 s1 s2 hy1 hy2 hgM hx6 hp1 hp2
 go_wp2
 go_loopw [64] (fun i wr=>∃ k:Nat,i=.int .i64 k∧k<=xs.length∧k<=ys.length∧(∀ j (h1:j < xs.length) (h2:j < ys.length),j < k->cmpWordL (bs xs[j]) (bs ys[j])=0)∧Ext w2 wr) (fun i _=>xs.length - (intOf i).toNat)
 case atStart=>exact⟨0,rfl,Nat.zero_le _,Nat.zero_le _,fun j _ _ h=>absurd h (by omega),Ext.refl _⟩
 case round =>
  obtain⟨k,rfl,hk1,hk2,hall,hxr⟩:=hrel
  have HALL:=Hy hall
  clear hall
  by_cases hlt:k < xs.length∧k < ys.length
  ·obtain⟨hlt1,hlt2⟩:=hlt
   have hm:(k:Int) < min (xs.length:Int) (ys.length:Int):=by omega
   have d1:=hxr.cell (HC1.out k hlt1)
   have d2:=hxr.cell (HC2.out k hlt2)
   have g1:=lt_of_cell d1
   have g2:=lt_of_cell d2
   have z1:=piece_le HXS.out hlt1
   have z2:=piece_le HYS.out hlt2
   have ew1:=words_of EA.out HXS.out hlt1
   have ew2:=words_of EB.out HYS.out hlt2
   have hw:=word_same ew1 ew2
   have hmiss:=fun h:refWord (bs xs[k]) (bs ys[k])=0=>(word_same ew1 ew2).symm.trans h
   have hhit:=fun h:refWord (bs xs[k]) (bs ys[k])≠0=>cmpWords_hit HXS.out HYS.out hlt1 hlt2 (fun j hj=>HALL.out j (by omega) (by omega) hj) (by rw[<-word_same ew1 ew2];exact h)
   obtain⟨x0,x1,_,_⟩:=word_parts ew1
   obtain⟨y0,y1,_,_⟩:=word_parts ew2
   have zx:0 < xs[k].size:=by rw[<-bs_length];exact List.length_pos_iff.2 x0
   have zy:0 < ys[k].size:=by rw[<-bs_length];exact List.length_pos_iff.2 y0
   rw[bs_length] at x1 y1
   have hstep:cmpWordL (bs xs[k]) (bs ys[k])=0->∀ j (h1:j < xs.length) (h2:j < ys.length),j < k+1->cmpWordL (bs xs[j]) (bs ys[j])=0:=fun h j h1 h2 h3=>by
    by_cases hj:j=k
    ·subst hj;exact h
    ·exact HALL.out j h1 h2 (by omega)
   have HW:=Hy hw
   have HHIT:=Hy hhit
   have HSTEP:=Hy hstep
   clear hw hmiss hhit hstep ew1 ew2 x0 y0
   generalize xs[k]=x at *
   generalize ys[k]=y at *
   go_wp2_with fail
   refine wp_region_ext (by kernel_rfl) (by kernel_rfl) ?_
   repeat (first|go_big_quiet_skip|(refine wpQuiet_step (fun K hK=>?_);go_simp;first|(refine hK _ ?_;clear hK K)|(apply Exists.intro;refine⟨fun wq hwq=>?_,hK _ ?_⟩;(obtain⟨hqc,hqf⟩:=hwq.cells;have hqs:=hwq.size;(try go_simp);first|rfl|((first|rw[if_neg (by omega)]|rw[if_pos (by omega)]);(try go_simp);rfl)|((go_at_call 71;refine (of_digitD _ _ ?_).mono (fun e w'' h=>⟨h.1,hwq.trans h.2⟩);omega)));clear hK K)))
   refine wpQuiet_nil ?_
   intro wN hxN
   obtain⟨hcN,hfN⟩:=hxN.cells
   have hsN:=hxN.size
   have d3:=hxN.cell d1
   have d4:=hxN.cell d2
   go_wp2_with fail
   refine (atoi_any x _ (hgw.ext (hxr.trans hxN)) (by omega)).mono ?_
   rintro e w3 ⟨v1,ev1,rfl,hx3,hv1,_⟩
   have hv1:=Hy hv1
   have d5:=hx3.cell d3
   have d6:=hx3.cell d4
   go_wp2_with fail
   refine (atoi_any y _ ((hgw.ext (hxr.trans hxN)).ext hx3) (by omega)).mono ?_
   rintro e w4 ⟨v2,ev2,rfl,hx4,hv2,_⟩
   have hv2:=Hy hv2
   have d7:=hx4.cell d5
   have d8:=hx4.cell d6
   have g3:=lt_of_cell d7
   have g4:=lt_of_cell d8
   have hxz4:=((hxN.trans hx3).trans hx4)
   clear d1 d2 d3 d4 d5 d6 hcN hfN hsN hx3 hx4 hxN
   go_wp2_with fail
   refine wp_region_ext (by kernel_rfl) (by kernel_rfl) ?_
   repeat (first|go_big_quiet_skip|(refine wpQuiet_step (fun K hK=>?_);go_simp;first|(refine hK _ ?_;clear hK K)|(apply Exists.intro;refine⟨fun wq hwq=>?_,hK _ ?_⟩;(obtain⟨hqc,hqf⟩:=hwq.cells;have hqs:=hwq.size;(try go_simp);first|rfl|((first|rw[if_neg (by omega)]|rw[if_pos (by omega)]);(try go_simp);rfl)|((go_at_call 44;exact (compare_any x y _).mono (fun e w'' h=>⟨h.1,h.2 ▸ hwq⟩))));clear hK K)))
   refine wpQuiet_nil ?_
   intro wN hxN
   obtain⟨hcN,hfN⟩:=hxN.cells
   have hsN:=hxN.size
   have hxz:=hxz4.trans hxN
   clear hcN hfN hsN
   cases hp:digL (bs x)
   ·cases hq:digL (bs y)
    ·have HV:=Hy (show refWord (bs x) (bs y)=Lib.compareBytes (bs x) (bs y) by unfold refWord;rw[show (bs x).all digitB=_ from hp,show (bs y).all digitB=_ from hq];rfl)
     by_cases hz:Lib.compareBytes (bs x) (bs y)=0
     ·have hz2:(Lib.compareBytes (bs x) (bs y) != 0)=false:=by rw[hz];rfl
      have HZ:=Hy hz
      clear hz
      go_wp2
      go_roundw
      case rel =>
       exact⟨k+1,by go_num,by omega,by omega,HSTEP.out (by rw[<-HW.out,HV.out];exact HZ.out),hxr.trans hxz⟩
      case measure=>simp[intOf];omega
     ·have hz2:(Lib.compareBytes (bs x) (bs y) != 0)=true:=by rw[bne_iff_ne];exact hz
      have HNZ:=Hy hz
      clear hz
      go_wp2
      go_ret
      refine⟨ret_int ?_,(hx.trans hxr).trans hxz⟩
      rw[OE.out,HHIT.out (by rw[HV.out];exact HNZ.out),<-HW.out,HV.out]
    ·have HV:=Hy (show refWord (bs x) (bs y)=1 by unfold refWord;rw[show (bs x).all digitB=_ from hp,show (bs y).all digitB=_ from hq];rfl)
     have HNZ:=Hy (show (1:Int)≠0 by decide)
     go_wp2
     go_ret
     refine⟨ret_int ?_,(hx.trans hxr).trans hxz⟩
     rw[OE.out,HHIT.out (by rw[HV.out];exact HNZ.out),<-HW.out,HV.out]
   ·cases hq:digL (bs y)
    ·have HV:=Hy (show refWord (bs x) (bs y)=-1 by unfold refWord;rw[show (bs x).all digitB=_ from hp,show (bs y).all digitB=_ from hq];rfl)
     have HNZ:=Hy (show (-1:Int)≠0 by decide)
     go_wp2
     go_ret
     refine⟨ret_int ?_,(hx.trans hxr).trans hxz⟩
     rw[OE.out,HHIT.out (by rw[HV.out];exact HNZ.out),<-HW.out,HV.out]
    ·have hu1:=(hv1.out _ (atoi_digits _ hp (by rw[bs_length];exact zx) (by rw[bs_length];omega))).1
     have hu2:=(hv2.out _ (atoi_digits _ hq (by rw[bs_length];exact zy) (by rw[bs_length];omega))).1
     have HV:=Hy (show refWord (bs x) (bs y)=Lib.compareInt v1 v2 by unfold refWord;rw[show (bs x).all digitB=_ from hp,show (bs y).all digitB=_ from hq,hu1,hu2];rfl)
     clear hu1 hu2
     by_cases hz:Lib.compareInt v1 v2=0
     ·have hz2:(Lib.compareInt v1 v2 != 0)=false:=by rw[hz];rfl
      have HZ:=Hy hz
      clear hz
      go_wp2_with (go_at_call 84;refine (compareInt_any _ _ _).mono ?_;rintro e w' ⟨rfl,rfl⟩)
      go_roundw
      case rel =>
       exact⟨k+1,by go_num,by omega,by omega,HSTEP.out (by rw[<-HW.out,HV.out];exact HZ.out),hxr.trans hxz⟩
      case measure=>simp[intOf];omega
     ·have hz2:(Lib.compareInt v1 v2 != 0)=true:=by rw[bne_iff_ne];exact hz
      have HNZ:=Hy hz
      clear hz
      go_wp2_with (go_at_call 84;refine (compareInt_any _ _ _).mono ?_;rintro e w' ⟨rfl,rfl⟩)
      go_ret
      refine⟨ret_int ?_,(hx.trans hxr).trans hxz⟩
      rw[OE.out,HHIT.out (by rw[HV.out];exact HNZ.out),<-HW.out,HV.out]
  ·have hm:¬ (k:Int) < min (xs.length:Int) (ys.length:Int):=by omega
   have hfin:orderL a1 a2 a3 (bs a) b1 b2 b3 (bs b)=Lib.compareInt xs.length ys.length:=by
    rw[OE.out,cmpWords_all HXS.out HYS.out (fun j h1 h2=>HALL.out j h1 h2 (by omega))]
   have HFIN:=Hy hfin
   clear hfin
   go_wp2_with (go_at_call 84;refine (compareInt_any _ _ _).mono ?_;rintro e w' ⟨rfl,rfl⟩)
   go_ret
   exact⟨ret_int HFIN.out.symm,hx.trans hxr⟩
end Go.Proofs.YtmnafaaijglnfaaGreatDoor
