/- The law's look at package feed (feeds), and at a feed that is none. Contract of feed.Parse. -/
import Derived.Test.YtmnafaaijglnfaaGreatDoorFr32
import Derived.Test.YtmnafaaijglnfaaGreatDoorFr31
namespace Go.Proofs.YtmnafaaijglnfaaGreatDoor
section
open Go.RowKit
abbrev zeroFV:Value:=.agg #[.string ⟨#[]⟩,.int .i64 0,.int .i64 0,.slice none 0 0]
theorem feErr_zero:feErr ⟨#[]⟩ 0 0 []=5:=by decide
abbrev zeroFA:Array Value:=#[.string ⟨#[]⟩,.int .i64 0,.int .i64 0,.slice none 0 0]
set_option maxHeartbeats 4000000 in
set_option maxRecDepth 100000 in
theorem mergeNil_any (w:World) :
 Calls Tryz.prog 37 #[.slice none 0 0] w fun e w'=>e=.returned (.tuple #[zeroFV,.int .i64 9])∧Ext w w':=by
 go_enter Tryz.func37,Tryz.ntmps37
 go_wp2
 refine bodyPost_ret (v:=.tuple #[zeroFV,.int .i64 9]) (by simp[results,Tryz.results37,go_sem]) rfl ?_
 exact⟨rfl,Ext.ad⟩
theorem feeds_any (w:World) (hg:GoodN w) :
 Calls Tryz.prog 40 #[] w fun e w'=>e=.returned (.bool true)∧Ext w w':=by
 have CK:=Hy (fun W (h:Ext w W)=>by
  have:=CheckF_any ⟨#[]⟩ 0 0 [] none 0 0 W (hg.ext h) rfl (fun h=>absurd rfl h) (fun _ h=>by cases h) (by decide) (by decide)
  rw[feErr_zero] at this
  exact this)
 go_enter Tryz.func40,Tryz.ntmps40
 go_wp2_with fail
 refine (mergeNil_any _).mono ?_
 rintro e w1 ⟨rfl,hx1⟩
 have hxa:=hx1.alloc (.cells zeroFA 59)
 go_wp2_with fail
 refine (CK.out _ hxa).mono ?_
 rintro e w2 ⟨rfl,hx2⟩
 go_wp2
 go_ret
 exact⟨rfl,hxa.trans hx2⟩
set_option maxHeartbeats 4000000 in
set_option maxRecDepth 100000 in
theorem EqualO0_any (w:World) :
 Calls Tryz.prog 68 #[.slice none 0 0,.slice none 0 0,.func (.func 66) #[] #[]] w fun e w'=>e=.returned (.bool true)∧Ext w w':=by
 go_enter Tryz.func68,Tryz.ntmps68
 go_wp2
 go_loopw [17] (fun t wr=>t=.int .i64 0∧Ext w wr) (fun _ _=>0)
 case atStart=>exact⟨rfl,Ext.refl w⟩
 case round =>
  obtain⟨rfl,hxr⟩:=hrel
  go_wp2
  go_ret
  exact⟨rfl,hxr⟩
set_option maxHeartbeats 4000000 in
set_option maxRecDepth 100000 in
theorem SameFeed0_any (w:World) :
 Calls Tryz.prog 46 #[zeroFV,zeroFV] w fun e w'=>e=.returned (.bool true)∧Ext w w':=by
 have b1:=(Blk.new w 59 zeroFA).alloc (.cells zeroFA 59)
 have b2:=Blk.new (w.alloc (.cells zeroFA 59)) 59 zeroFA
 rw[World.size_alloc] at b2
 have hx0:Ext w ((w.alloc (.cells zeroFA 59)).alloc (.cells zeroFA 59)):=((Ext.refl w).alloc _).alloc _
 generalize hW:(w.alloc (.cells zeroFA 59)).alloc (.cells zeroFA 59)=W0 at *
 have HW:=Hy hW
 clear hW
 have e1:=b1.cell;have e2:=b2.cell
 go_enter Tryz.func46,Tryz.ntmps46
 go_wp2_with fail
 rw[HW.out]
 go_wp2_with fail
 refine (EqualO0_any _).mono ?_
 rintro e w1 ⟨rfl,hx1⟩
 go_wp2
 go_ret
 exact⟨rfl,hx0.trans hx1⟩
set_option maxHeartbeats 4000000 in
set_option maxRecDepth 100000 in
theorem noFeed0_any (w:World) :
 Calls Tryz.prog 41 #[zeroFV] w fun e w'=>e=.returned (.bool true)∧Ext w w':=by
 have b0:=Blk.new w 59 zeroFA
 have hx0:Ext w (w.alloc (.cells zeroFA 59)):=(Ext.refl w).alloc _
 generalize hW:w.alloc (.cells zeroFA 59)=W0 at *
 have HW:=Hy hW
 clear hW
 have e0:=b0.cell
 go_enter Tryz.func41,Tryz.ntmps41
 go_wp2_with fail
 rw[HW.out]
 go_wp2_with fail
 refine (SameFeed0_any _).mono ?_
 rintro e w1 ⟨rfl,hx1⟩
 go_wp2
 go_ret
 exact⟨rfl,hx0.trans hx1⟩
end
section
open Go.RowKit
theorem cut_back {c:UInt8} {s a b:Str} (h:cutC c s=(a,b,true)):s=a++c::b∧c ∉ a:=by
 rcases first_cut c s with h1|⟨x,y,hx,rfl⟩
 ·rw[cutC_none c s h1] at h;simp at h
 ·rw[cutC_app c x y hx] at h
  injection h with h1 h2
  injection h2 with h2 _
  subst h1 h2
  exact⟨rfl,hx⟩
def ParsePostF (s:ByteArray) (w:World) (e:Ending) (w':World):Prop :=
 (∃ at_ e0:Int,e=.returned (.tuple #[zeroFV,.int .i64 at_,.int .i64 e0])∧e0≠0∧0<=at_∧at_<=((bs s).count 10:Nat)∧Ext w w') ∨
 (∃ ch sr tm A c l,e=.returned (.tuple #[.agg #[.string ch,.int .i64 sr,.int .i64 tm,.slice A l.length c],.int .i64 0,.int .i64 0])∧RdO w' A l∧(∀ o∈l,SmallO o)∧ch.size<=2097152∧l.length<=2000000∧feErr ch sr tm l=0∧(∃ q,bs s=q++[10])∧Ext w w')
structure PrSt (s:ByteArray) (wr:World) (b:Nat) (tb:ByteArray) (k:Nat) (pre:Str) (ch:ByteArray) (sr tm:Int) (v:Value) (l:List Of) (st:Int):Prop where
 text:bs s=pre++bs tb
 cnt:pre.count 10=k
 none:k=0->pre=[]
 head:k=0->st=0
 some:0 < k->∃ q,pre=q++[10]
 rst:RSt wr b ch sr tm v l st 0
 lo:0<=st
 hi:st<=9
 off:2<=st->l≠[]
 len:l.length<=k
theorem PrSt.size {s:ByteArray} {wr:World} {b:Nat} {tb:ByteArray} {k:Nat} {pre:Str} {ch:ByteArray} {sr tm:Int} {v:Value} {l:List Of} {st:Int} (h:PrSt s wr b tb k pre ch sr tm v l st):tb.size<=s.size∧k<=s.size:=by
 have h1:=congrArg List.length h.text
 rw[List.length_append,bs_length,bs_length] at h1
 have h2:pre.count 10<=pre.length:=List.count_le_length
 have:=h.cnt
 omega
theorem PrSt.le {s:ByteArray} {wr:World} {b:Nat} {tb:ByteArray} {k:Nat} {pre:Str} {ch:ByteArray} {sr tm:Int} {v:Value} {l:List Of} {st:Int} (h:PrSt s wr b tb k pre ch sr tm v l st):(k:Int)<=((bs s).count 10:Nat):=by
 have h1:(bs s).count 10=pre.count 10+(bs tb).count 10:=by rw[h.text,List.count_append]
 have:=h.cnt
 omega
theorem PrSt.next {s:ByteArray} {wr w':World} {b b':Nat} {tb na nb:ByteArray} {k:Nat} {pre:Str} {ch ch':ByteArray} {sr tm sr' tm':Int} {v v':Value} {l l':List Of} {st st':Int} (h:PrSt s wr b tb k pre ch sr tm v l st) (hc:cutC 10 (bs tb)=(bs na,bs nb,true))
 (hr:RSt w' b' ch' sr' tm' v' l' st' 0) (h1:1<=st') (h9:st'<=9) (ho:2<=st'->l'≠[]) (hl:l'.length<=l.length+1):PrSt s w' b' nb (k+1) (pre++bs na++[10]) ch' sr' tm' v' l' st':=by
 obtain⟨hb,hn⟩:=cut_back hc
 refine⟨?_,?_,fun h=>by omega,fun h=>by omega,fun _=>⟨_,rfl⟩,hr,by omega,h9,ho,by have:=h.len;omega⟩
 ·rw[h.text,hb];simp
 ·rw[List.count_append,List.count_append,h.cnt,List.count_eq_zero.2 hn];simp
set_option maxHeartbeats 32000000 in
set_option maxRecDepth 100000 in
theorem ParseF_any (s:ByteArray) (w:World) (hg:GoodN w) (hs:s.size<=1100000) :
 Calls Tryz.prog 57 #[.string s] w (ParsePostF s w):=by
 by_cases hbig:(1048576:Int) < (s.size:Int)
 ·go_enter Tryz.func57,Tryz.ntmps57
  go_wp2
  refine bodyPost_ret (v:=.tuple #[zeroFV,.int .i64 0,.int .i64 4]) (by simp[results,Tryz.results57,go_sem]) rfl ?_
  exact .inl ⟨0,4,rfl,by decide,Int.le_refl _,Int.natCast_nonneg _,Ext.ad⟩
 have bF:=Blk.new w 59 #[.string ⟨#[]⟩,.int .i64 0,.int .i64 0,.slice none 0 0]
 have bR:=Blk.new (w.alloc (.cells #[.string ⟨#[]⟩,.int .i64 0,.int .i64 0,.slice none 0 0] 59)) 173 #[.string ⟨#[]⟩,.int .i64 0,.int .i64 0,.slice none 0 0,.int .i64 0,.int .i64 0]
 have hx0:Ext w (w.alloc (.cells #[.string ⟨#[]⟩,.int .i64 0,.int .i64 0,.slice none 0 0] 59)):=(Ext.refl w).alloc _
 have hx1:Ext (w.alloc (.cells #[.string ⟨#[]⟩,.int .i64 0,.int .i64 0,.slice none 0 0] 59)) ((w.alloc (.cells #[.string ⟨#[]⟩,.int .i64 0,.int .i64 0,.slice none 0 0] 59)).alloc (.cells #[.string ⟨#[]⟩,.int .i64 0,.int .i64 0,.slice none 0 0,.int .i64 0,.int .i64 0] 173)):=(Ext.refl _).alloc _
 rw[World.size_alloc] at bR
 have hst:RSt ((w.alloc (.cells #[.string ⟨#[]⟩,.int .i64 0,.int .i64 0,.slice none 0 0] 59)).alloc (.cells #[.string ⟨#[]⟩,.int .i64 0,.int .i64 0,.slice none 0 0,.int .i64 0,.int .i64 0] 173)) (w.heap.size+1) ⟨#[]⟩ 0 0 (.slice none 0 0) [] 0 0 :=
  ⟨bR,⟨[],World.ownsRow_nil _ _ _ _,rfl⟩,(fun _ h=>by cases h),by decide⟩
 have hW0s:(w.alloc (.cells #[.string ⟨#[]⟩,.int .i64 0,.int .i64 0,.slice none 0 0] 59)).heap.size<=w.heap.size+1:=by first|(rw[World.size_alloc];done)|(rw[World.size_alloc];omega)
 generalize hW0:w.alloc (.cells #[.string ⟨#[]⟩,.int .i64 0,.int .i64 0,.slice none 0 0] 59)=W0 at *
 generalize hW1:W0.alloc (.cells #[.string ⟨#[]⟩,.int .i64 0,.int .i64 0,.slice none 0 0,.int .i64 0,.int .i64 0] 173)=W1 at *
 have HW0:=Hy hW0
 have HW1:=Hy hW1
 have HG:=Hy (hg.ext hx0)
 have HST:=Hy hst
 clear hW0 hW1 bR hst hg
 go_enter Tryz.func57,Tryz.ntmps57
 go_wp2_with fail
 rw[HW0.out,HW1.out]
 go_loopw [0,6] (fun i n wr=>∃ (tb:ByteArray) (k:Nat) (pre:Str) (ch:ByteArray) (sr tm:Int) (v:Value) (l:List Of) (st:Int),i=.string tb∧n=.int .i64 k∧PrSt s wr (w.heap.size+1) tb k pre ch sr tm v l st∧Ext W0 wr) (fun i _ _=>(match i with|.string t=>t.size|_=>0))
 case atStart=>exact⟨s,0,[],_,_,_,_,_,_,rfl,rfl,⟨by simp,rfl,fun _=>rfl,fun _=>rfl,(fun h=>by cases h),HST.out,by decide,by decide,fun h=>absurd h (by decide),by simp⟩,hx1⟩
 case round =>
  obtain⟨tb,k,pre,ch,sr,tm,v,l,st,rfl,rfl,hp,hxr⟩:=hrel
  obtain⟨wo,rfl⟩:∃ wo:World,wo=wr:=⟨_,rfl⟩
  have HP:=Hy hp
  have HXR:=Hy hxr
  have HKL:=Hy hp.le
  obtain⟨hts,hks⟩:=hp.size
  clear hp
  have bF1:=bF.ext hxr
  have fc:=bF1.cell;have ff:=bF1.free;have fl:=bF1.lt
  by_cases h0:tb.size=0
  rotate_left
  ·have hne:=nemp_bool (show 0 < tb.size by omega)
   go_wp2_with fail
   refine (cut_ex 10 tb _ (HG.out.ext hxr).toGood (by omega)).mono ?_
   rintro e w1 ⟨na,nb,f,rfl,hcut,hna,hnb,hx1⟩
   have HC:=Hy hcut
   have hx01:=hxr.trans hx1
   have hxw1:=hx0.trans hx01
   clear hcut
   cases f
   ·have bF2:=bF1.ext hx1
    clear fc ff fl
    have fc:=bF2.cell;have ff:=bF2.free;have fl:=bF2.lt
    go_wp2
    refine bodyPost_ret (v:=.tuple #[zeroFV,.int .i64 k,.int .i64 8]) (by simp[results,Tryz.results57,go_sem,fc]) rfl ?_
    exact .inl ⟨_,8,rfl,by decide,by omega,HKL.out,Ext.ad⟩
   have hpl:=HP.out.len
   clear fc ff fl
   go_wp2_with fail
   refine (line_any (w.heap.size+1) ch sr tm v l st 0 na W0 w1 HG.out hx01 hW0s (HP.out.rst.ext hx1) HP.out.lo HP.out.hi HP.out.off (by omega) (by omega)).mono ?_
   rintro e w2 ⟨ok,rfl,hx2,hok⟩
   have bF2:=bF.ext hx2
   have fc:=bF2.cell;have ff:=bF2.free;have fl:=bF2.lt
   have hxw2:=hx0.trans hx2
   cases ok
   ·go_wp2
    refine bodyPost_ret (v:=.tuple #[zeroFV,.int .i64 k,.int .i64 8]) (by simp[results,Tryz.results57,go_sem,fc]) rfl ?_
    exact .inl ⟨_,8,rfl,by decide,by omega,HKL.out,Ext.ad⟩
   obtain⟨ch',sr',tm',v',l',st',fl',hrs,h1,h9,ho,hl⟩:=hok rfl
   have rc:=hrs.blk.cell;have rf:=hrs.blk.free;have rl:=hrs.blk.lt
   by_cases hfl:¬ fl'=0
   ·have hbn:(fl' != 0)=true:=by rw[bne_iff_ne];exact hfl
    have HFL:=Hy hfl
    clear hfl
    go_wp2
    go_region
    all_goals
     go_wp2
     refine bodyPost_ret (v:=.tuple #[zeroFV,.int .i64 k,.int .i64 fl']) (by simp[results,Tryz.results57,go_sem,fc]) rfl ?_
     exact .inl ⟨_,fl',rfl,HFL.out,by omega,HKL.out,Ext.ad⟩
   obtain rfl:fl'=0:=Classical.not_not.1 hfl
   clear hfl
   have HN:=Hy (HP.out.next HC.out hrs h1 h9 ho hl)
   have hnbs:nb.size < tb.size:=by
    obtain⟨hb,_⟩:=cut_back HC.out
    have:=congrArg List.length hb
    rw[List.length_append,List.length_cons,bs_length,bs_length,bs_length] at this
    omega
   clear hrs
   go_wp2
   go_roundw
   case rel=>exact⟨nb,k+1,_,_,_,_,_,_,_,rfl,by go_num,HN.out,hx2⟩
   case measure=>simpa using hnbs
  ·have he:=emp_of_size h0
   have hrs:=HP.out.rst
   have rc:=hrs.blk.cell;have rf:=hrs.blk.free;have rl:=hrs.blk.lt
   have hxw:=hx0.trans hxr
   go_wp2_with fail
   refine (whole_any st _).mono ?_
   rintro e w' ⟨rfl,rfl⟩
   by_cases hd:st=1∨6<=st
   rotate_left
   ·have hdd:=decide_eq_false hd
    go_wp2
    refine bodyPost_ret (v:=.tuple #[zeroFV,.int .i64 k,.int .i64 8]) (by simp[results,Tryz.results57,go_sem,fc]) rfl ?_
    exact .inl ⟨_,8,rfl,by decide,by omega,HKL.out,Ext.ad⟩
   have hdd:=decide_eq_true hd
   have HEND:=Hy (show ∃ q,bs s=q++[10] from by
    have hk:0 < k:=by
     rcases Nat.eq_zero_or_pos k with h|h
     ·have:=HP.out.head h;omega
     ·exact h
    obtain⟨q,hq⟩:=HP.out.some hk
    refine⟨q,?_⟩
    have he2:bs tb=[]:=List.eq_nil_of_length_eq_zero (by rw[bs_length];exact h0)
    rw[HP.out.text,he2,hq,List.append_nil])
   obtain⟨A,c,rfl,hrd⟩:=hrs.rd
   have HRD:=Hy hrd
   have HSM:=Hy hrs.small
   have hcz:=hrs.cz
   have HLL:=Hy (show l.length<=2000000 from by have:=HP.out.len;omega)
   have CK:=Hy (CheckF_any ch sr tm l A l.length c wo (HG.out.ext hxr) rfl hrd hrs.small hcz (by have:=HLL.out;omega))
   generalize hE:feErr ch sr tm l=E at *
   have HE:=Hy hE
   clear hE hrd hrs hd
   generalize hll:l.length=ll at *
   have HL2:=Hy hll
   clear hll
   go_wp2_with fail
   refine CK.out.mono ?_
   rintro e w2 ⟨rfl,hx2⟩
   have bF2:=bF1.ext hx2
   have hrs2:=HP.out.rst.ext hx2
   try rw[HL2.out] at hrs2
   have HFIN:=Hy (show ∀ u0 u1 u2 u3,RdO ((((w2.setCell ⟨w.heap.size,0,none⟩ u0).setCell ⟨w.heap.size,1,none⟩ u1).setCell ⟨w.heap.size,2,none⟩ u2).setCell ⟨w.heap.size,3,none⟩ u3) A l from fun u0 u1 u2 u3=>by
    obtain⟨A',c',e,h⟩:=((((hrs2.low (p:=⟨w.heap.size,0,none⟩) (Nat.lt_succ_self _) u0).low (p:=⟨w.heap.size,1,none⟩) (Nat.lt_succ_self _) u1).low (p:=⟨w.heap.size,2,none⟩) (Nat.lt_succ_self _) u2).low (p:=⟨w.heap.size,3,none⟩) (Nat.lt_succ_self _) u3).rd
    injection e with e
    rw[e]
    exact h)
   clear fc ff fl rc rf rl
   have fc:=bF2.cell;have ff:=bF2.free;have fl:=bF2.lt
   have rc:=hrs2.blk.cell;have rf:=hrs2.blk.free;have rl:=hrs2.blk.lt
   have hxw2:=hxw.trans hx2
   clear hrs2
   by_cases hE:E=0
   rotate_left
   ·have hbn:(E != 0)=true:=by rw[bne_iff_ne];exact hE
    have HEN:=Hy hE
    clear hE
    go_wp2
    refine bodyPost_ret (v:=.tuple #[zeroFV,.int .i64 0,.int .i64 E]) (by simp[results,Tryz.results57,go_sem,fc]) rfl ?_
    exact .inl ⟨_,E,rfl,HEN.out,Int.le_refl _,Int.natCast_nonneg _,Ext.ad⟩
   have HE0:=Hy (HE.out.trans hE)
   subst hE
   go_wp2
   refine bodyPost_ret (v:=.tuple #[.agg #[.string ch,.int .i64 sr,.int .i64 tm,.slice A ll c],.int .i64 0,.int .i64 0]) (by simp[results,Tryz.results57,go_sem,fc]) rfl ?_
   exact .inr ⟨ch,sr,tm,A,c,l,by rw[HL2.out],HFIN.out _ _ _ _,HSM.out,hcz,(by rw[HL2.out];exact HLL.out),HE0.out,HEND.out,Ext.ad⟩
end
end Go.Proofs.YtmnafaaijglnfaaGreatDoor
