/- Contract of ver.ParseRange: the walk. -/
import Derived.Test.YtmnafaaijglnfaaGreatDoorOm16
import Derived.Test.YtmnafaaijglnfaaGreatDoorOm15
namespace Go.Proofs.YtmnafaaijglnfaaGreatDoor
open Go.RowKit
def Form (x:ByteArray):Prop:=synL (bs x)=false
theorem forms_succ {xs:List ByteArray} {k:Nat} (h:k < xs.length) (h0:∀ x∈xs.take k,Form x) (h1:Form xs[k]):∀ x∈xs.take (k+1),Form x:=by
 intro x hx
 rw[List.take_succ_eq_append_getElem h,List.mem_append] at hx
 rcases hx with hx|hx
 ·exact h0 x hx
 ·rw[List.mem_singleton] at hx;rw[hx];exact h1
theorem fine_succ {xs:List ByteArray} {k:Nat} (h:k < xs.length) (h0:∀ x∈xs.take k,Fine (spO x)) (h1:Fine (spO xs[k])):∀ x∈xs.take (k+1),Fine (spO x):=by
 intro x hx
 rw[List.take_succ_eq_append_getElem h,List.mem_append] at hx
 rcases hx with hx|hx
 ·exact h0 x hx
 ·rw[List.mem_singleton] at hx;rw[hx];exact h1
abbrev itB (x:ByteArray):List Value:=itC (itemL (bs x)).1
theorem itB_of {x a b:ByteArray} {sg:UInt8} (h:(itemL (bs x)).1=⟨sg,bs a,bs b⟩):itB x=[.int .u8 sg.toNat,.string a,.string b]:=by
 show itC (itemL (bs x)).1=_
 rw[h,itC,S_bs,S_bs]
theorem itB_eq {x a b:ByteArray} {sg:UInt8} {ok:Bool} (h:itemL (bs x)=(⟨sg,bs a,bs b⟩,ok)):itB x=[.int .u8 sg.toNat,.string a,.string b]:=itB_of (by rw[h])
set_option maxHeartbeats 16000000 in
set_option maxRecDepth 100000 in
theorem ParseRange_own (s:ByteArray) (w:World) (hg:GoodN w) (hs:s.size<=2097152) :
 Calls Tryz.prog 31 #[.string s] w (RangePostB (parseR (bs s)) w):=by
 go_enter Tryz.func31,Tryz.ntmps31
 by_cases h1:1000 < s.size
 ·have HP:=Hy (parse_large (s:=bs s) (by rw[bs_length];exact h1))
  go_wp2
  refine bodyPost_ret (v:=.tuple #[.agg #[.slice none 0 0],.int .i64 4]) (by simp[results,Tryz.results31,go_sem]) rfl ?_
  rw[HP.out]
  exact range_noneB Ext.au
 have H1:Hid (¬ 1000 < (bs s).length):=Hy (by rw[bs_length];exact h1)
 by_cases h2:bs s=[110,111,110,101]
 ·have he:(s.toList==[110,111,110,101])=true:=by rw[lit_beq,beq_iff_eq];exact h2
  have HP:=Hy (parse_none H1.out h2)
  clear h2
  go_wp2
  refine bodyPost_ret (v:=.tuple #[.agg #[.slice none 0 0],.int .i64 0]) (by simp[results,Tryz.results31,go_sem]) rfl ?_
  rw[HP.out]
  exact range_noneB Ext.au
 have he:(s.toList==[110,111,110,101])=false:=by rw[lit_beq,beq_eq_false_iff_ne];exact h2
 have H2:=Hy h2
 clear h2
 go_wp2_with fail
 refine (split_g s ⟨#[44,32]⟩ _ (hg.toGood.ext Ext.au) (by omega) (by decide)).mono ?_
 rintro e w1 ⟨b,xs,rfl,hst,hxs,hx0,hxl,hxz,hx1⟩
 have hxw:Ext w w1:=Ext.trans Ext.au hx1
 have bR:=(Blk.new w 42 #[.slice none 0 0]).ext hx1
 have HXS:=Hy hxs
 have HC:=Hy hst.cell
 have HSYN:=Hy (fun k hk hs=>parse_syn (k:=k) H1.out H2.out hxs hk hs)
 clear hxs hst hx1
 go_wp2
 go_loopg [4,25] xs.length (fun g v i wr=>∃ k:Nat,k<=xs.length∧xs.length - k<=g∧i=.int .i64 k∧wr.ownsRow w1.heap.size 135 3 v k ((xs.take k).flatMap itB)∧(∀ x∈xs.take k,Form x)∧Ext w1 wr)
 case atStart=>exact⟨0,Nat.zero_le _,by omega,rfl,World.ownsRow_nil _ _ _ _,by simp,Ext.refl _⟩
 case round =>
  obtain⟨k,hk,hgk,rfl,hown,hform,hxr⟩:=hrel
  have HFORM:=Hy hform
  clear hform
  by_cases hlt:k < xs.length
  ·have hk1:=hxr.cell (HC.out k hlt)
   have hsz:=hxz xs[k] (List.getElem_mem hlt)
   have HNX:=Hy (flat_take_succ itB xs k hlt)
   have HFX:=Hy (forms_succ hlt HFORM.out)
   have HSK:=Hy (HSYN.out k hlt)
   generalize xs[k]=x at *
   go_wp2_with fail
   refine (itemOf_any x _ (hg.toGood.ext (hxw.trans hxr)) (by omega)).mono ?_
   rintro e w2 ⟨sg,a,c,ok,hit,rfl,hsa,hsc,hx2⟩
   have HSY:=Hy (syn_of hit)
   have HIT:=Hy (itB_eq hit)
   clear hit
   have hxr2:=hxr.trans hx2
   have bR2:=bR.ext hxr2
   have cR2:=bR2.cell;have fR2:=bR2.free;have zR2:=bR2.lt
   have hwl:w1.heap.size<=w2.heap.size:=hxr2.size
   have hown2:=own_ext hown hx2
   clear hown hk1
   cases ok
   ·have HP:=Hy (HSK.out (by rw[HSY.out];rfl))
    go_wp2
    refine bodyPost_ret (v:=.tuple #[.agg #[.slice none 0 0],.int .i64 8]) (by simp[results,Tryz.results31,go_sem,cR2,zR2]) rfl ?_
    rw[HP.out]
    have hxx:=hxw.trans hxr2
    exact range_noneB Ext.ad
   -- MORE
   have bI:=Blk.new w2 135 #[.int .u8 sg.toNat,.string a,.string c]
   have hxr3:=hxr2.alloc (.cells #[.int .u8 sg.toNat,.string a,.string c] 135)
   have hown3:=hown2.alloc (.cells #[.int .u8 sg.toNat,.string a,.string c] 135)
   by_cases h42:sg=42
   ·have n42:(((sg.toNat:Nat):Int)==42)=true:=u8_true 42 (by decide) h42
    have n98:(((sg.toNat:Nat):Int)==98)=false:=u8_false 98 (by decide) (by rw[h42];decide)
    have HF:Hid (Form x):=Hy (by unfold Form;rw[HSY.out,h42];rfl)
    have HN:Hid (((sg.toNat:Nat):Int)=42):=Hy (beq_iff_eq.1 n42)
    clear h42
    go_wp2_with (at_builtin;refine wpList_app1g _ _ _ rfl _ _ 133 rfl (.agg #[.int .u8 0,.string ⟨#[]⟩,.string ⟨#[]⟩]) 3 40 Tryz.underlying133 info_item rfl (by decide) (by decide) w1.heap.size _ k _ rfl (hown2.alloc _) _ _ rfl (by simp) rfl (by simp[Value.oneCell']) (by omega) (Ext.size (hxr2.alloc _)) ?_;intro v' w5 hown5 hx5 _)
    go_roundg (xs.length - (k+1))
    case rel=>exact⟨k+1,by omega,Nat.le_refl _,by go_num,by rw[<-HNX.out,HIT.out];first|exact hown5|(rw[HN.out];exact hown5),HFX.out HF.out,hx5 _ (hxr2.alloc _) (Nat.le_refl _)⟩
    case measure=>omega
   have n42:(((sg.toNat:Nat):Int)==42)=false:=u8_false 42 (by decide) h42
   have m42:(((sg.toNat:Nat):Int) != 42)=true:=by rw[bne,n42];rfl
   have e42:¬ ((sg.toNat:Nat):Int)=42:=beq_eq_false_iff_ne.1 n42
   have s42:(sg != 42)=true:=by simpa using h42
   have S42:=Hy s42
   clear h42 s42
   go_wp2_with fail
   refine (wrong_any a _ (hg.ext (hxw.trans hxr3)) (by omega)).mono ?_
   rintro e w3 ⟨rfl,hx3⟩
   have bI3:=bI.ext hx3
   have cI:=bI3.cell;have zI:=bI3.lt
   have hxr4:=hxr3.trans hx3
   have hown4:=own_ext hown3 hx3
   have bR3:=bR.ext hxr4
   have cR:=bR3.cell;have fR:=bR3.free;have zR:=bR3.lt
   clear cR2 fR2 zR2
   cases hw1:wrongL (bs a)
   rotate_left
   ·have HP:=Hy (HSK.out (by rw[HSY.out,S42.out];(try dsimp only);rw[hw1];rfl))
    clear hw1
    go_wp2
    refine bodyPost_ret (v:=.tuple #[.agg #[.slice none 0 0],.int .i64 8]) (by simp[results,Tryz.results31,go_sem,cR]) rfl ?_
    rw[HP.out]
    have hxx:=hxw.trans hxr4
    exact range_noneB Ext.ad
   by_cases h98:sg=98
   rotate_left
   ·have n98:(((sg.toNat:Nat):Int)==98)=false:=u8_false 98 (by decide) h98
    have HF:Hid (Form x):=Hy (by
     have s98:(sg==98)=false:=by simpa using h98
     unfold Form;rw[HSY.out];(try dsimp only);rw[hw1,s98];simp)
    clear h98 hw1
    go_wp2_with (at_builtin;refine wpList_app1g _ _ _ rfl _ _ 133 rfl (.agg #[.int .u8 0,.string ⟨#[]⟩,.string ⟨#[]⟩]) 3 40 Tryz.underlying133 info_item rfl (by decide) (by decide) w1.heap.size _ k _ rfl hown4 _ _ rfl (by simp) rfl (by simp[Value.oneCell']) (by omega) (Ext.size hxr4) ?_;intro v' w5 hown5 hx5 _)
    go_roundg (xs.length - (k+1))
    case rel=>exact⟨k+1,by omega,Nat.le_refl _,by go_num,by rw[<-HNX.out,HIT.out];exact hown5,HFX.out HF.out,hx5 _ hxr4 (Nat.le_refl _)⟩
    case measure=>omega
   have n98:(((sg.toNat:Nat):Int)==98)=true:=u8_true 98 (by decide) h98
   have s98:(sg==98)=true:=by simpa using h98
   have HN:Hid (((sg.toNat:Nat):Int)=98):=Hy (beq_iff_eq.1 n98)
   have HW1:=Hy hw1
   have S98:=Hy s98
   clear h98 s98 hw1
   go_wp2_with fail
   refine (wrong_any c _ (hg.ext (hxw.trans hxr4)) (by omega)).mono ?_
   rintro e w4 ⟨rfl,hx4⟩
   have bI4:=bI3.ext hx4
   have hxr5:=hxr4.trans hx4
   have hown5:=own_ext hown4 hx4
   have bR4:=bR3.ext hx4
   clear cI zI cR fR zR
   have cI:=bI4.cell;have zI:=bI4.lt
   have cR:=bR4.cell;have fR:=bR4.free;have zR:=bR4.lt
   cases hw2:wrongL (bs c)
   rotate_left
   ·have HP:=Hy (HSK.out (by rw[HSY.out,S98.out];(try dsimp only);rw[hw2];simp))
    clear hw2
    go_wp2
    refine bodyPost_ret (v:=.tuple #[.agg #[.slice none 0 0],.int .i64 8]) (by simp[results,Tryz.results31,go_sem,cR]) rfl ?_
    rw[HP.out]
    have hxx:=hxw.trans hxr5
    exact range_noneB Ext.ad
   have HF:Hid (Form x):=Hy (by unfold Form;rw[HSY.out,S98.out];(try dsimp only);rw[hw2,HW1.out];simp)
   clear hw2
   go_wp2_with (at_builtin;refine wpList_app1g _ _ _ rfl _ _ 133 rfl (.agg #[.int .u8 0,.string ⟨#[]⟩,.string ⟨#[]⟩]) 3 40 Tryz.underlying133 info_item rfl (by decide) (by decide) w1.heap.size _ k _ rfl hown5 _ _ rfl (by simp) rfl (by simp[Value.oneCell']) (by omega) (Ext.size hxr5) ?_;intro v' w5 hown5 hx5 _)
   go_roundg (xs.length - (k+1))
   case rel=>exact⟨k+1,by omega,Nat.le_refl _,by go_num,by rw[<-HNX.out,HIT.out];first|exact hown5|(rw[HN.out];exact hown5),HFX.out HF.out,hx5 _ hxr5 (Nat.le_refl _)⟩
   case measure=>omega
  ·obtain rfl:k=xs.length:=by omega
   rw[List.take_length] at hown
   have HALLF:∀ x∈xs,Form x:=by have:=HFORM.out;rwa [List.take_length] at this
   obtain⟨g,cc,rfl,hgl,hgB,hgc,hgcell⟩:=own_form hown hx0
   have HPS:=Hy (parse_spans H1.out H2.out HXS.out HALLF)
   have HGC:=Hy hgcell
   clear hgcell HALLF hown HSYN
   have bR1:=bR.ext hxr
   have hxwr:=hxw.trans hxr
   obtain⟨wo,rfl⟩:∃ wo:World,wo=wr:=⟨_,rfl⟩
   go_wp2
   go_loopg [65] xs.length (fun gg i wr=>∃ (k:Nat) (sv:Value),k<=xs.length∧xs.length - k<=gg∧i=.int .i64 k∧Blk wr wo.heap.size 42 #[sv]∧wr.ownsRow (wo.heap.size+1) 130 10 sv k ((xs.take k).flatMap fun x=>spC (spO x).1)∧(∀ x∈xs.take k,Fine (spO x))∧Ext wo wr)
   case atStart=>exact⟨0,.slice none 0 0,Nat.zero_le _,by omega,rfl,Blk.new wo _ _,World.ownsRow_nil _ _ _ _,by simp,(Ext.refl wo).alloc _⟩
   case round =>
    obtain⟨k,sv,hk,hgk2,rfl,hB9,hown,hfine,hxq⟩:=hrel
    have HFINE:=Hy hfine
    clear hfine
    have bRq:=bR1.ext hxq
    have b9c:=hB9.cell;have b9f:=hB9.free;have b9l:=hB9.lt
    by_cases hlt:k < xs.length
    ·have hsz:=hxz xs[k] (List.getElem_mem hlt)
     have hcell:∀ (j:Nat) (u:Value),j < 3->(itB xs[k])[j]?=some u->wr.cell? ⟨g,k * 3+j,none⟩=some u:=fun j u hj hu=>hxq.cell (HGC.out _ u (by rw[flat_get (f:=itB) (m:=3) (fun _=>rfl) xs k j hlt hj];exact hu))
     have HNX:=Hy (flat_take_succ (fun x=>spC (spO x).1) xs k hlt)
     have HFX:=Hy (fine_succ hlt HFINE.out)
     have hbad:¬ (spO xs[k]).2=0->parseR (bs s)=([],(spO xs[k]).2):=fun h=>by
      rw[HPS.out,spans_err (q:=xs.map spO) (k:=k) (by simpa using hlt) (fun y hy=>by
       rw[<-List.map_take] at hy
       obtain⟨z,hz,rfl⟩:=List.mem_map.1 hy
       exact (HFINE.out z hz).1) (by simpa using h)]
      simp
     have HBAD:=Hy hbad
     clear hbad
     generalize xs[k]=x at *
     obtain⟨sg,a,c,hit⟩:∃ (sg:UInt8) (a c:ByteArray),(itemL (bs x)).1=⟨sg,bs a,bs c⟩:=⟨(itemL (bs x)).1.sign,⟨(itemL (bs x)).1.first.toArray⟩,⟨(itemL (bs x)).1.last.toArray⟩,by rw[bs_mk,bs_mk]⟩
     have hil:=item_len (bs x)
     rw[hit,bs_length,bs_length,bs_length] at hil
     obtain⟨hsa,hsc⟩:=hil
     have hitb:itB x=[.int .u8 sg.toNat,.string a,.string c]:=itB_of hit
     rw[hitb] at hcell
     have i0:=hcell 0 _ (by decide) rfl
     have i1:=hcell 1 _ (by decide) rfl
     have i2:=hcell 2 _ (by decide) rfl
     rw[Nat.add_zero] at i0
     have HSO:Hid (spO x=spanL ⟨sg,bs a,bs c⟩):=Hy (by unfold spO;rw[hit])
     clear hcell hit hitb
     go_wp2_with fail
     refine (spanOf_any sg a c _ (hg.ext ((hxwr.trans hxq).trans Ext.au)) (by omega) (by omega)).mono ?_
     rintro e w3 ⟨sp,r,hsp,rfl,hz1,hz2,hx3⟩
     have hxq3:Ext wr w3:=Ext.trans Ext.au hx3
     have HSP:Hid (spO x=(sp,r)):=Hy (HSO.out.trans hsp)
     clear hsp i0 i1 i2
     have hB93:=hB9.ext hxq3
     have hown3:=own_ext hown hxq3
     have bR3:=bRq.ext hxq3
     have cR:=bR3.cell;have fR:=bR3.free;have zR:=bR3.lt
     clear b9c b9f b9l
     have b9c:=hB93.cell;have b9f:=hB93.free;have b9l:=hB93.lt
     by_cases hr:r=0
     rotate_left
     ·have HP:=Hy (HBAD.out (by rw[HSP.out];exact hr))
      have hbn:(r != 0)=true:=by rw[bne_iff_ne];exact hr
      clear hr
      go_wp2
      refine bodyPost_ret (v:=.tuple #[.agg #[.slice none 0 0],.int .i64 r]) (by simp[results,Tryz.results31,go_sem,cR,zR]) rfl ?_
      rw[HP.out,HSP.out]
      have hxx:=(hxwr.trans hxq).trans hxq3
      exact range_noneB Ext.ad
     subst hr
     have HFI:Hid (Fine (spO x)):=Hy (by rw[HSP.out];exact⟨rfl,by dsimp only;omega,by dsimp only;omega⟩)
     have HCL:Hid (spC (spO x).1=spC sp):=Hy (by rw[HSP.out])
     clear hz1 hz2
     obtain⟨hf,ht,⟨f1,f2,f3,fa⟩,⟨t1,t2,t3,ta⟩⟩:=sp
     have hB94:=hB93.alloc (.cells #[.bool hf,.bool ht,.int .i64 f1,.int .i64 f2,.int .i64 f3,.string fa,.int .i64 t1,.int .i64 t2,.int .i64 t3,.string ta] 130)
     have hown4:=hown3.alloc (.cells #[.bool hf,.bool ht,.int .i64 f1,.int .i64 f2,.int .i64 f3,.string fa,.int .i64 t1,.int .i64 t2,.int .i64 t3,.string ta] 130)
     have hx4:=(hxq.trans hxq3).alloc (.cells #[.bool hf,.bool ht,.int .i64 f1,.int .i64 f2,.int .i64 f3,.string fa,.int .i64 t1,.int .i64 t2,.int .i64 t3,.string ta] 130)
     have hsz4:wo.heap.size+1<=(w3.alloc (.cells #[.bool hf,.bool ht,.int .i64 f1,.int .i64 f2,.int .i64 f3,.string fa,.int .i64 t1,.int .i64 t2,.int .i64 t3,.string ta] 130)).heap.size:=by
      have:=hB94.lt;omega
     go_wp2_with (at_builtin;refine wpList_app1g _ _ _ rfl _ _ 40 rfl (.agg #[.bool false,.bool false,.int .i64 0,.int .i64 0,.int .i64 0,.string ⟨#[]⟩,.int .i64 0,.int .i64 0,.int .i64 0,.string ⟨#[]⟩]) 10 88 Tryz.underlying40 info_span rfl (by decide) (by decide) (wo.heap.size+1) _ k _ rfl hown4 _ _ rfl (by simp) rfl (by simp[Value.oneCell']) (by omega) hsz4 ?_;intro v' w5 hown5 hx5 hb5;(obtain⟨g5,c5,hv5,_,_,_,_⟩:=own_form hown5 (by omega));subst hv5;have hB95:=hb5 _ _ _ hB94 (by omega);have b5c:=hB95.cell;have b5f:=hB95.free;have b5l:=hB95.lt)
     go_roundg (xs.length - (k+1))
     case rel=>exact⟨k+1,_,by omega,Nat.le_refl _,by go_num,hB95.set 0 _,by rw[<-HNX.out,HCL.out];exact ownsRow_setCell_below hown5 (by simp) _,HFX.out HFI.out,(hx5 _ hx4 (by omega)).setCell (Nat.le_refl _) _⟩
     case measure=>omega
    ·obtain rfl:k=xs.length:=by omega
     have hl:wr.ownsRow (wo.heap.size+1) 130 10 sv xs.length ((xs.map fun x=>(spO x).1).flatMap spC):=by
      rw[List.take_length] at hown
      rw[List.flatMap_map]
      exact hown
     obtain⟨A,c2,rfl,hrd⟩:=rds_own hl (by simp)
     have HFA:∀ x∈xs,Fine (spO x):=by have:=HFINE.out;rwa [List.take_length] at this
     have hsm:SmallS (xs.map fun x=>(spO x).1):=fun q hq=>by
      obtain⟨x,hx,rfl⟩:=List.mem_map.1 hq
      exact (HFA x hx).2
     have hq0:∀ q∈xs.map spO,q.2=0:=fun q hq=>by
      obtain⟨x,hx,rfl⟩:=List.mem_map.1 hq
      exact (HFA x hx).1
     have hmm:(xs.map spO).map (·.1)=xs.map fun x=>(spO x).1:=by rw[List.map_map];rfl
     have hbad:¬ rngErr (xs.map fun x=>(spO x).1)=0->parseR (bs s)=([],rngErr (xs.map fun x=>(spO x).1)):=fun h=>by
      rw[HPS.out,spans_rng hq0 (by rw[hmm];exact h),hmm]
     have hgood:rngErr (xs.map fun x=>(spO x).1)=0->parseR (bs s)=(xs.map fun x=>(spO x).1,0):=fun h=>by
      rw[HPS.out,spans_ok hq0 (by rw[hmm];exact h),hmm]
     have hll:(xs.map fun x=>(spO x).1).length=xs.length:=by simp
     generalize (xs.map fun x=>(spO x).1)=l at *
     have HBAD:=Hy hbad
     have HGOOD:=Hy hgood
     have HLL:=Hy hll
     have HL:=Hy hl
     clear hbad hgood hmm hq0 HFA hl hown hll
     go_wp2_with fail
     refine (CheckRange_any A xs.length c2 l _ (hg.toGood.ext (hxwr.trans hxq)) HLL.out hrd hsm (by omega)).mono ?_
     rintro e w3 ⟨rfl,hx3⟩
     have hB93:=hB9.ext hx3
     have bR3:=bRq.ext hx3
     clear b9c b9f b9l
     have b9c:=hB93.cell;have b9f:=hB93.free;have b9l:=hB93.lt
     have cR:=bR3.cell;have fR:=bR3.free;have zR:=bR3.lt
     have hxx:=(hxwr.trans hxq).trans hx3
     by_cases hr:rngErr l=0
     ·have HP:=Hy (HGOOD.out hr)
      rw[hr]
      clear hr
      go_wp2
      refine bodyPost_ret (v:=.tuple #[.agg #[.slice A xs.length c2],.int .i64 0]) (by simp[results,Tryz.results31,go_sem,cR]) rfl ?_
      rw[HP.out]
      have hwl:w.heap.size < wo.heap.size+1:=by have:=bR1.lt;omega
      refine⟨A,c2,by rw[<-HLL.out],?_,hsm,Ext.ad⟩
      obtain⟨A',c',e,hrd'⟩:=rdp_own (ownsRow_setCell_below (own_ext HL.out hx3) (a:=⟨w.heap.size,0,none⟩) hwl (.slice A xs.length c2)) HLL.out
      injection e with e
      rw[<-e] at hrd'
      exact fun hne=>by
       obtain⟨b,o,h1,h2,h3⟩:=hrd' hne
       exact⟨b,o,h1,by omega,h3⟩
     ·have HP:=Hy (HBAD.out hr)
      have hbn:(rngErr l != 0)=true:=by rw[bne_iff_ne];exact hr
      clear hr
      go_wp2
      refine bodyPost_ret (v:=.tuple #[.agg #[.slice none 0 0],.int .i64 (rngErr l)]) (by simp[results,Tryz.results31,go_sem,cR]) rfl ?_
      rw[HP.out]
      exact range_noneB Ext.ad
theorem ParseRange_any (s:ByteArray) (w:World) (hg:GoodN w) (hs:s.size<=2097152) :
 Calls Tryz.prog 31 #[.string s] w (RangePost (parseR (bs s)) w):=(ParseRange_own s w hg hs).mono fun _ _ h=>h.weak
end Go.Proofs.YtmnafaaijglnfaaGreatDoor
