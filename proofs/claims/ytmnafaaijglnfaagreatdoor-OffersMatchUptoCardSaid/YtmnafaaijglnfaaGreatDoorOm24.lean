/- Contract of outref2.ReadRange. -/
import Derived.Test.YtmnafaaijglnfaaGreatDoorOm23
import Derived.Test.YtmnafaaijglnfaaGreatDoorOm15
import Derived.Test.YtmnafaaijglnfaaGreatDoorOm19
namespace Go.Proofs.YtmnafaaijglnfaaGreatDoor
open Go.RowKit
theorem split_w (s sep:ByteArray) (w:World) (hg:Good w) (hs:s.size<=2097152) (hsep:1<=sep.size) :
 Calls Tryz.prog 70 #[.string s,.string sep] w fun e w'=>∃ (xs:List ByteArray),
  e=.returned (.slice (some ⟨w.heap.size,0,none⟩) xs.length xs.length)∧Blk w' w.heap.size 9 (xs.map Value.string).toArray∧xs.map bs=Lib.split (bs s) (bs sep)∧0 < xs.length∧xs.length<=s.size+1∧(∀ x∈xs,x.size<=s.size)∧Ext w w'∧w'.heap.size=w.heap.size+1:=by
 obtain⟨m,hm⟩:=hg.maxLen
 refine (Tryz.strings_Split s sep m w (by omega) hm hsep).mono ?_
 rintro e w' ⟨rfl,rfl⟩
 have hlen:(Lib.splitB sep 0 (Lib.countB s sep) s).length=Lib.countB s sep+1:=Lib.splitB_all sep hsep 0 _ s rfl
 have hle:=Lib.countB_le sep hsep s.size s (Nat.le_refl _)
 have hmap:(Lib.splitB sep 0 (Lib.countB s sep) s).map bs=Lib.split (bs s) (bs sep):=Lib.splitB_data sep 0 _ s
 refine⟨_,by rw[hlen],Blk.new w _ _,hmap,by omega,by omega,fun x hx=>?_,(Ext.refl w).alloc _,by simp⟩
 rw[<-bs_length,<-bs_length s]
 exact splitK_le (bs sep) _ _ _ (by
  have:bs x∈(Lib.splitB sep 0 (Lib.countB s sep) s).map bs:=List.mem_map.2 ⟨x,hx,rfl⟩
  rw[hmap] at this
  exact this)
theorem blk_str {w:World} {b:Nat} {t:TypeId} {xs:List ByteArray} (h:Blk w b t (xs.map Value.string).toArray) {k:Nat} (hk:k < xs.length):w.cell? ⟨b,k,none⟩=some (.string xs[k]):=by
 rw[h.cell]
 simp[hk]
theorem cutPrefix_ex (s p:ByteArray) (w:World) :
 Calls Tryz.prog 96 #[.string s,.string p] w fun e w'=>∃ (fr:ByteArray) (b:Bool),e=.returned (.tuple #[.string fr,.bool b])∧bs fr=Lib.trimPrefix (bs s) (bs p)∧Lib.hasPrefix (bs s) (bs p)=b∧fr.size<=s.size∧w=w' :=
 (cutPrefix_any s p w).mono fun _ _ ⟨h,k⟩=>⟨⟨(Lib.trimPrefix (bs s) (bs p)).toArray⟩,_,h,by rw[bs_mk],rfl,trimPrefix_size s _,k⟩
def rfI (x:ByteArray):Sp × Int:=refItem (bs x)
theorem read_large {s:Str} (h:1000 < s.length):readR s=([],4):=by rw[readR,if_pos h]
theorem read_none {s:Str} (h1:¬ 1000 < s.length) (h:s=[110,111,110,101]):readR s=([],0):=by rw[readR,if_neg h1,if_pos h]
theorem read_syn {s:Str} {xs:List ByteArray} (h1:¬ 1000 < s.length) (h2:¬ s=[110,111,110,101]) (hx:xs.map bs=Lib.split s [44,32]) {k:Nat} (hk:k < xs.length) (hs:(rfI xs[k]).2=8):readR s=([],8):=by
 rw[readR,if_neg h1,if_neg h2,if_pos]
 rw[<-hx]
 exact List.any_eq_true.2 ⟨bs xs[k],List.mem_map.2 ⟨_,List.getElem_mem hk,rfl⟩,decide_eq_true hs⟩
theorem read_spans {s:Str} {xs:List ByteArray} (h1:¬ 1000 < s.length) (h2:¬ s=[110,111,110,101]) (hx:xs.map bs=Lib.split s [44,32]) (hs:∀ x∈xs,¬ (rfI x).2=8):readR s=spansOf (xs.map rfI):=by
 rw[readR,if_neg h1,if_neg h2,if_neg,<-hx,List.map_map]
 ·rfl
 ·rw[<-hx]
  intro h
  obtain⟨p,hp,hq⟩:=List.any_eq_true.1 h
  obtain⟨x,hxm,rfl⟩:=List.mem_map.1 hp
  exact hs x hxm (of_decide_eq_true hq)
def Good8 (x:ByteArray):Prop:=¬ (rfI x).2=8∧(rfI x).1.f.a.size<=2097152∧(rfI x).1.t.a.size<=2097152
theorem good_succ {xs:List ByteArray} {k:Nat} (h:k < xs.length) (h0:∀ x∈xs.take k,Good8 x) (h1:Good8 xs[k]):∀ x∈xs.take (k+1),Good8 x:=by
 intro x hx
 rw[List.take_succ_eq_append_getElem h,List.mem_append] at hx
 rcases hx with hx|hx
 ·exact h0 x hx
 ·rw[List.mem_singleton] at hx;rw[hx];exact h1
theorem ref_from {x l:Str} {v:V4} {r:Int} (h:splitC 32 x=[l]) (h1:Lib.hasPrefix l [62,61]=true) (hp:pV (l.drop 2)=(v,r)):refItem x=(⟨true,false,v,zeroV⟩,r):=by
 unfold refItem
 rw[h]
 dsimp only
 rw[if_pos h1,hp]
theorem ref_to {x l:Str} {v:V4} {r:Int} (h:splitC 32 x=[l]) (h1:¬ Lib.hasPrefix l [62,61]=true) (h2:Lib.hasPrefix l [60]=true) (hp:pV (l.drop 1)=(v,r)):refItem x=(⟨false,true,zeroV,v⟩,r):=by
 unfold refItem
 rw[h]
 dsimp only
 rw[if_neg h1,if_pos h2,hp]
theorem ref_short {x l:Str} {s:Sp} {r:Int} (h:splitC 32 x=[l]) (h1:¬ Lib.hasPrefix l [62,61]=true) (h2:¬ Lib.hasPrefix l [60]=true) (hp:shortL l=(s,r)):refItem x=(s,r):=by
 unfold refItem
 rw[h]
 dsimp only
 rw[if_neg h1,if_neg h2,hp]
theorem ref_both {x l m:Str} {v u:V4} {r q:Int} (h:splitC 32 x=[l,m]) (h1:Lib.hasPrefix l [62,61]=true) (h2:Lib.hasPrefix m [60]=true) (hp:pV (l.drop 2)=(v,r)) (hq:pV (m.drop 1)=(u,q)) :
 refItem x=(⟨true,true,v,u⟩,if r=8∨q=8 then 8 else firstI [r,q]):=by
 unfold refItem
 rw[h]
 dsimp only
 rw[if_pos (by rw[h1,h2];rfl),hp,hq]
theorem ref_two {x l m:Str} (h:splitC 32 x=[l,m]) (h1:¬ (Lib.hasPrefix l [62,61]=true∧Lib.hasPrefix m [60]=true)):(refItem x).2=8:=by
 unfold refItem
 rw[h]
 dsimp only
 rw[if_neg (by simpa using h1)]
theorem ref_more {x l m n:Str} {r:List Str} (h:splitC 32 x=l::m::n::r):(refItem x).2=8:=by
 unfold refItem
 rw[h]
theorem first_cons0 {x:Int} (h:x=0) (r:List Int):firstI (x::r)=firstI r:=by rw[firstI,if_pos h]
theorem first_cons1 {x:Int} (h:¬ x=0) (r:List Int):firstI (x::r)=x:=by rw[firstI,if_neg h]
theorem first_snoc (l:List Int) (e:Int):firstI (l++[e])=firstI [firstI l,e]:=by
 induction l with
 | nil=>rw[List.nil_append,show firstI ([]:List Int)=0 from rfl,first_cons0 rfl]
 | cons x r ih =>
   rw[List.cons_append]
   by_cases h:x=0
   ·rw[first_cons0 h,first_cons0 h,ih]
   ·rw[first_cons1 h,first_cons1 h,first_cons1 h]
theorem errs_take_succ {xs:List ByteArray} {k:Nat} (h:k < xs.length):firstI ((xs.take (k+1)).map fun x=>(rfI x).2)=firstI [firstI ((xs.take k).map fun x=>(rfI x).2),(rfI xs[k]).2]:=by
 rw[<-first_snoc,map_take_succ (fun x=>(rfI x).2) xs k h]
set_option maxHeartbeats 16000000 in
set_option maxRecDepth 100000 in
theorem ReadRange_any (s:ByteArray) (w:World) (hg:GoodN w) (hs:s.size<=2097152) :
 Calls Tryz.prog 33 #[.string s] w (RangePost (readR (bs s)) w):=by
 go_enter Tryz.func33,Tryz.ntmps33
 by_cases h1:1000 < s.size
 ·have HP:=Hy (read_large (s:=bs s) (by rw[bs_length];exact h1))
  go_wp2
  refine bodyPost_ret (v:=.tuple #[.agg #[.slice none 0 0],.int .i64 4]) (by simp[results,Tryz.results33,go_sem]) rfl ?_
  rw[HP.out]
  exact range_none Ext.au
 have H1:Hid (¬ 1000 < (bs s).length):=Hy (by rw[bs_length];exact h1)
 by_cases h2:bs s=[110,111,110,101]
 ·have he:(s.toList==[110,111,110,101])=true:=by rw[lit_beq,beq_iff_eq];exact h2
  have HP:=Hy (read_none H1.out h2)
  clear h2
  go_wp2
  refine bodyPost_ret (v:=.tuple #[.agg #[.slice none 0 0],.int .i64 0]) (by simp[results,Tryz.results33,go_sem]) rfl ?_
  rw[HP.out]
  exact range_none Ext.au
 have he:(s.toList==[110,111,110,101])=false:=by rw[lit_beq,beq_eq_false_iff_ne];exact h2
 have H2:=Hy h2
 clear h2
 go_wp2_with fail
 refine (split_w s ⟨#[44,32]⟩ _ (hg.toGood.ext Ext.au) (by omega) (by decide)).mono ?_
 rintro e w1 ⟨xs,rfl,hbx,hxs,hx0,hxl,hxz,hx1,hsz1⟩
 have hxw:Ext w w1:=Ext.trans Ext.au hx1
 have bR:=((Blk.new w 42 #[.slice none 0 0]).alloc (.cells #[.slice none 0 0] 42)).ext hx1
 have b4:=(Blk.new (w.alloc (.cells #[.slice none 0 0] 42)) 42 #[.slice none 0 0]).ext hx1
 rw[World.size_alloc] at b4
 simp only[World.size_alloc] at hbx
 clear hsz1
 have HXS:=Hy hxs
 have HSYN:=Hy (fun k hk hs=>read_syn (k:=k) H1.out H2.out hxs hk hs)
 clear hxs hx1
 go_wp2
 go_loopg [5,27] xs.length (fun g v i wr=>∃ (k:Nat) (sv:Value),k<=xs.length∧xs.length - k<=g∧i=.int .i64 k∧v=.int .i64 (firstI ((xs.take k).map fun x=>(rfI x).2))∧Blk wr w.heap.size 42 #[.slice none 0 0]∧Blk wr (w.heap.size+1) 42 #[sv]∧Blk wr (w.heap.size+1+1) 9 (xs.map Value.string).toArray ∧
  wr.ownsRow (w.heap.size+1+1+1) 130 10 sv k ((xs.take k).flatMap fun x=>spC (rfI x).1)∧(∀ x∈xs.take k,Good8 x)∧Ext w wr)
 case atStart=>exact⟨0,.slice none 0 0,Nat.zero_le _,by omega,rfl,rfl,bR,b4,hbx,World.ownsRow_nil _ _ _ _,by simp,hxw⟩
 case round =>
  obtain⟨k,sv,hk,hgk,rfl,rfl,hR,h4,hBX,hown,hgood,hxr⟩:=hrel
  have HGD:=Hy hgood
  clear hgood bR b4 hbx
  have rc:=hR.cell;have rf:=hR.free;have rl:=hR.lt
  have fc:=h4.cell;have ff:=h4.free;have fl:=h4.lt
  have bl:=hBX.lt
  generalize hwg:firstI ((xs.take k).map fun x=>(rfI x).2)=wg at *
  have HWG:=Hy hwg
  clear hwg
  by_cases hlt:k < xs.length
  rotate_left
  ·obtain rfl:k=xs.length:=by omega
   have hl:wr.ownsRow (w.heap.size+1+1+1) 130 10 sv xs.length ((xs.map fun x=>(rfI x).1).flatMap spC):=by
    rw[List.take_length] at hown
    rw[List.flatMap_map]
    exact hown
   obtain⟨A,c2,rfl,hrd⟩:=rds_own hl (by simp)
   have HFA:∀ x∈xs,Good8 x:=by have:=HGD.out;rwa [List.take_length] at this
   have hsm:SmallS (xs.map fun x=>(rfI x).1):=fun q hq=>by
    obtain⟨x,hx,rfl⟩:=List.mem_map.1 hq
    exact (HFA x hx).2
   have hRS:=read_spans H1.out H2.out HXS.out (fun x hx=>(HFA x hx).1)
   have hmm:(xs.map rfI).map (·.1)=xs.map fun x=>(rfI x).1:=by rw[List.map_map];rfl
   have hme:firstI ((xs.map rfI).map (·.2))=wg:=by
    have:=HWG.out
    rw[List.take_length] at this
    rw[<-this,List.map_map];rfl
   unfold spansOf at hRS
   rw[hme,hmm] at hRS
   have hll:(xs.map fun x=>(rfI x).1).length=xs.length:=by simp
   generalize (xs.map fun x=>(rfI x).1)=l at *
   have HRS:=Hy hRS
   have HLL:=Hy hll
   have HL:=Hy hl
   clear hRS hmm hme HFA hl hown hll HSYN
   go_wp2_with fail
   refine (RangeError_any A xs.length c2 l _ (hg.ext hxr) HLL.out hrd hsm (by omega)).mono ?_
   rintro e w3 ⟨rfl,hx3⟩
   have h43:=h4.ext hx3
   have hR3:=hR.ext hx3
   clear rc rf rl fc ff fl
   have rc:=hR3.cell;have rf:=hR3.free;have rl:=hR3.lt
   have fc:=h43.cell;have ff:=h43.free;have fl:=h43.lt
   have hxx:=hxr.trans hx3
   go_wp2_with fail
   refine (First_any _ _ [wg,rngErr l] _ ?_ (by simp)).mono ?_
   ·intro k hk
    match k,hk with
    | 0,_=>go_simp
    | 1,_=>go_simp
   rintro e w' ⟨rfl,rfl⟩
   by_cases hr:firstI [wg,rngErr l]=0
   ·have hw0:wg=0:=by
     by_cases h:wg=0
     ·exact h
     ·rw[first_two_a h] at hr;exact hr
    have hr0:rngErr l=0:=by rwa [first_two_b hw0] at hr
    have HP:Hid (readR (bs s)=(l,0)):=Hy (by rw[HRS.out,if_neg (by simpa using hw0),if_neg (by simpa using hr0)])
    rw[hr]
    clear hr hw0 hr0
    go_wp2
    refine bodyPost_ret (v:=.tuple #[.agg #[.slice A xs.length c2],.int .i64 0]) (by simp[results,Tryz.results33,go_sem,rc,rl]) rfl ?_
    rw[HP.out]
    refine⟨A,c2,by rw[<-HLL.out],?_,hsm,Ext.ad⟩
    obtain⟨A',c',e,hrd'⟩:=rds_own ((ownsRow_setCell_below (own_ext HL.out hx3) (a:=⟨w.heap.size,0,none⟩) (by show w.heap.size < _;omega) (.slice A xs.length c2)).alloc (.cells #[.int .i64 wg,.int .i64 (rngErr l)] 24)) HLL.out
    injection e with e
    rw[<-e] at hrd'
    exact hrd'
   ·have HP:Hid (readR (bs s)=([],firstI [wg,rngErr l])):=Hy (by
     rw[HRS.out]
     by_cases h:wg=0
     ·rw[first_two_b h] at hr ⊢
      rw[if_neg (by simpa using h),if_pos hr]
     ·rw[first_two_a h,if_pos h])
    have hbn:(firstI [wg,rngErr l] != 0)=true:=by rw[bne_iff_ne];exact hr
    generalize firstI [wg,rngErr l]=E at *
    clear hr
    go_wp2
    refine bodyPost_ret (v:=.tuple #[.agg #[.slice none 0 0],.int .i64 E]) (by simp[results,Tryz.results33,go_sem,rc,rl]) rfl ?_
    rw[HP.out]
    exact range_none Ext.ad
  have hk1:=blk_str hBX hlt
  have hsz:=hxz xs[k] (List.getElem_mem hlt)
  have HNX:=Hy (flat_take_succ (fun x=>spC (rfI x).1) xs k hlt)
  have HGX:=Hy (good_succ hlt HGD.out)
  have HEX:=Hy (errs_take_succ hlt)
  have HSK:=Hy (HSYN.out k hlt)
  generalize xs[k]=x at *
  go_wp2_with fail
  refine (split_w x ⟨#[32]⟩ _ (hg.toGood.ext hxr) (by omega) (by decide)).mono ?_
  rintro e w2 ⟨ys,rfl,hby,hys,hy0,hyl,hyz,hx2,hsz2⟩
  have hys2:ys.map bs=splitC 32 (bs x):=by rw[hys];exact splitK_one 32 _ _ (Nat.le_refl _)
  have HYS:=Hy hys2
  clear hys hys2 hk1 hsz2
  have hxr2:Ext wr w2:=hx2
  have hb2:=fun j (hj:j < ys.length)=>blk_str hby hj
  have HBY:=Hy hb2
  clear hb2 hx2
  -- one word;two;more
  by_cases hl1:ys.length=1
  ·obtain⟨y,rfl⟩:∃ y,ys=[y]:=by
    match ys,hl1 with
    | [y],_=>exact⟨y,rfl⟩
   have y0:=HBY.out 0 (by simp)
   have hyz0:=hyz y (by simp)
   have hsp:splitC 32 (bs x)=[bs y]:=HYS.out.symm
   have HSP:=Hy hsp
   simp only[List.getElem_cons_zero] at y0
   have yl:=lt_of_cell y0
   clear hsp hl1 hyz hy0 hyl
   go_wp2_with fail
   refine (cutPrefix_ex y ⟨#[62,61]⟩ _).mono ?_
   rintro e w' ⟨fr,bF,rfl,hfr,hbF,hfz,rfl⟩
   go_wp2_with fail
   refine (cutPrefix_ex y ⟨#[60]⟩ _).mono ?_
   rintro e w' ⟨tr,bT,rfl,htr,hbT,htz,rfl⟩
   have z13:=hxr2.size
   have n0:¬ w2.heap.size=w.heap.size:=by omega
   have n1:¬ w2.heap.size=w.heap.size+1:=by omega
   have n2:¬ w.heap.size=w2.heap.size:=by omega
   have n3:¬ w.heap.size+1=w2.heap.size:=by omega
   have HFR:=Hy hfr
   have HTR:=Hy htr
   have HBF:=Hy hbF
   have HBT:=Hy hbT
   clear hfr htr hbF hbT
   cases bF
   rotate_left
   ·have HTP:Hid (bs fr=(bs y).drop 2):=Hy (by rw[HFR.out];exact trim_hit HBF.out)
    have HF:=HBF
    go_wp2_with fail
    refine (Read_x fr _ (hg.ext ((hxr.trans hxr2).trans Ext.au)) (by omega)).mono ?_
    rintro e w3 ⟨⟨a1,a2,a3,a⟩,r,hp,rfl,hsz3,hx3⟩
    dsimp only at hsz3
    have bS:=(Blk.new w2 130 #[.bool true,.bool false,.int .i64 0,.int .i64 0,.int .i64 0,.string ⟨#[]⟩,.int .i64 0,.int .i64 0,.int .i64 0,.string ⟨#[]⟩]).ext hx3
    have HRF:Hid (rfI x=(⟨true,false,⟨a1,a2,a3,a⟩,zeroV⟩,r)):=Hy (ref_from HSP.out HF.out (by rw[<-HTP.out];exact hp))
    have hG1:a.size<=2097152:=by omega
    have hG2:zeroV.a.size<=2097152:=Nat.zero_le _
    have hx13:Ext wr w3:=hxr2.trans (Ext.trans Ext.au hx3)
    have h43:=h4.ext hx13
    have hR3:=hR.ext hx13
    have fc3:=h43.cell;have ff3:=h43.free;have fl3:=h43.lt
    have rc3:=hR3.cell;have rf3:=hR3.free;have rl3:=hR3.lt
    have sc3:=bS.cell;have sf3:=bS.free;have sl3:=bS.lt
    have hbx3:=hBX.ext hx13
    have hxw3:=hxr.trans hx13
    clear fc ff fl rc rf rl hx3 y0 hp
    by_cases h8:r=8
    ·subst h8
     have HP:=Hy (HSK.out (by rw[HRF.out]))
     go_wp2
     refine bodyPost_ret (v:=.tuple #[.agg #[.slice none 0 0],.int .i64 8]) (by simp[results,Tryz.results33,go_sem,rc3]) rfl ?_
     rw[HP.out]
     exact range_none Ext.ad
    have n8:(r==8)=false:=by rw[beq_eq_false_iff_ne];exact h8
    have HG8:Hid (Good8 x):=Hy (by unfold Good8;rw[HRF.out];exact⟨h8,hG1,hG2⟩)
    have HCL:Hid (spC (rfI x).1=[.bool true,.bool false,.int .i64 a1,.int .i64 a2,.int .i64 a3,.string a,.int .i64 0,.int .i64 0,.int .i64 0,.string ⟨#[]⟩]):=Hy (by rw[HRF.out];rfl)
    clear h8
    go_wp2_with fail
    refine (First_any _ _ [wg,r] _ ?_ (by simp)).mono ?_
    ·intro k hk
     match k,hk with
     | 0,_=>go_simp
     | 1,_=>go_simp
    rintro e w' ⟨rfl,rfl⟩
    go_wp2_with (at_builtin;refine wpList_app1g _ _ _ rfl _ _ 40 rfl (.agg #[.bool false,.bool false,.int .i64 0,.int .i64 0,.int .i64 0,.string ⟨#[]⟩,.int .i64 0,.int .i64 0,.int .i64 0,.string ⟨#[]⟩]) 10 88 Tryz.underlying40 info_span rfl (by decide) (by decide) (w.heap.size+1+1+1) _ k _ rfl ((own_ext hown Ext.ad).alloc _) _ _ rfl (by simp) rfl (by simp[Value.oneCell']) (by omega) (by simp;omega) ?_;intro v' w5 hown5 hx5 hb5;(obtain⟨g5,c5,hv5,_,_,_,_⟩:=own_form hown5 (by omega));subst hv5;have hB5:=hb5 _ _ _ ((h4.ext Ext.ad).alloc _) (by omega);have hR5:=hb5 _ _ _ ((hR.ext Ext.ad).alloc _) (by omega);have hX5:=hb5 _ _ _ ((hBX.ext Ext.ad).alloc _) (by omega);have hxx5:=hx5 w Ext.ad (by omega);have b5c:=hB5.cell;have b5f:=hB5.free;have b5l:=hB5.lt)
    go_roundg (xs.length - (k+1))
    case rel=>exact⟨k+1,_,by omega,Nat.le_refl _,by go_num,by rw[HEX.out,HWG.out,HRF.out],hR5.far (p:=⟨w.heap.size+1,0,none⟩) (by show w.heap.size≠w.heap.size+1;omega) _,hB5.set 0 _,hX5.far (p:=⟨w.heap.size+1,0,none⟩) (by show w.heap.size+1+1≠w.heap.size+1;omega) _,by rw[<-HNX.out,HCL.out];exact ownsRow_setCell_below hown5 (by show w.heap.size+1 < _;omega) _,HGX.out HG8.out,hxx5.setCell (by show w.heap.size<=w.heap.size+1;omega) _⟩
    case measure=>omega
   cases bT
   rotate_left
   ·have HTP:Hid (bs tr=(bs y).drop 1):=Hy (by rw[HTR.out];exact trim_hit HBT.out)
    go_wp2_with fail
    refine (Read_x tr _ (hg.ext ((hxr.trans hxr2).trans Ext.au)) (by omega)).mono ?_
    rintro e w3 ⟨⟨a1,a2,a3,a⟩,r,hp,rfl,hsz3,hx3⟩
    dsimp only at hsz3
    have bS:=(Blk.new w2 130 #[.bool false,.bool true,.int .i64 0,.int .i64 0,.int .i64 0,.string ⟨#[]⟩,.int .i64 0,.int .i64 0,.int .i64 0,.string ⟨#[]⟩]).ext hx3
    have HRF:Hid (rfI x=(⟨false,true,zeroV,⟨a1,a2,a3,a⟩⟩,r)):=Hy (ref_to HSP.out (by have:=HBF.out;intro h;rw[show Lib.hasPrefix (bs y) [62,61]=false from this] at h;cases h) HBT.out (by rw[<-HTP.out];exact hp))
    have hG1:zeroV.a.size<=2097152:=Nat.zero_le _
    have hG2:a.size<=2097152:=by omega
    have hx13:Ext wr w3:=hxr2.trans (Ext.trans Ext.au hx3)
    have h43:=h4.ext hx13
    have hR3:=hR.ext hx13
    have fc3:=h43.cell;have ff3:=h43.free;have fl3:=h43.lt
    have rc3:=hR3.cell;have rf3:=hR3.free;have rl3:=hR3.lt
    have sc3:=bS.cell;have sf3:=bS.free;have sl3:=bS.lt
    have hbx3:=hBX.ext hx13
    have hxw3:=hxr.trans hx13
    clear fc ff fl rc rf rl hx3 y0 hp
    by_cases h8:r=8
    ·subst h8
     have HP:=Hy (HSK.out (by rw[HRF.out]))
     go_wp2
     refine bodyPost_ret (v:=.tuple #[.agg #[.slice none 0 0],.int .i64 8]) (by simp[results,Tryz.results33,go_sem,rc3]) rfl ?_
     rw[HP.out]
     exact range_none Ext.ad
    have n8:(r==8)=false:=by rw[beq_eq_false_iff_ne];exact h8
    have HG8:Hid (Good8 x):=Hy (by unfold Good8;rw[HRF.out];exact⟨h8,hG1,hG2⟩)
    have HCL:Hid (spC (rfI x).1=[.bool false,.bool true,.int .i64 0,.int .i64 0,.int .i64 0,.string ⟨#[]⟩,.int .i64 a1,.int .i64 a2,.int .i64 a3,.string a]):=Hy (by rw[HRF.out];rfl)
    clear h8
    go_wp2_with fail
    refine (First_any _ _ [wg,r] _ ?_ (by simp)).mono ?_
    ·intro k hk
     match k,hk with
     | 0,_=>go_simp
     | 1,_=>go_simp
    rintro e w' ⟨rfl,rfl⟩
    go_wp2_with (at_builtin;refine wpList_app1g _ _ _ rfl _ _ 40 rfl (.agg #[.bool false,.bool false,.int .i64 0,.int .i64 0,.int .i64 0,.string ⟨#[]⟩,.int .i64 0,.int .i64 0,.int .i64 0,.string ⟨#[]⟩]) 10 88 Tryz.underlying40 info_span rfl (by decide) (by decide) (w.heap.size+1+1+1) _ k _ rfl ((own_ext hown Ext.ad).alloc _) _ _ rfl (by simp) rfl (by simp[Value.oneCell']) (by omega) (by simp;omega) ?_;intro v' w5 hown5 hx5 hb5;(obtain⟨g5,c5,hv5,_,_,_,_⟩:=own_form hown5 (by omega));subst hv5;have hB5:=hb5 _ _ _ ((h4.ext Ext.ad).alloc _) (by omega);have hR5:=hb5 _ _ _ ((hR.ext Ext.ad).alloc _) (by omega);have hX5:=hb5 _ _ _ ((hBX.ext Ext.ad).alloc _) (by omega);have hxx5:=hx5 w Ext.ad (by omega);have b5c:=hB5.cell;have b5f:=hB5.free;have b5l:=hB5.lt)
    go_roundg (xs.length - (k+1))
    case rel=>exact⟨k+1,_,by omega,Nat.le_refl _,by go_num,by rw[HEX.out,HWG.out,HRF.out],hR5.far (p:=⟨w.heap.size+1,0,none⟩) (by show w.heap.size≠w.heap.size+1;omega) _,hB5.set 0 _,hX5.far (p:=⟨w.heap.size+1,0,none⟩) (by show w.heap.size+1+1≠w.heap.size+1;omega) _,by rw[<-HNX.out,HCL.out];exact ownsRow_setCell_below hown5 (by show w.heap.size+1 < _;omega) _,HGX.out HG8.out,hxx5.setCell (by show w.heap.size<=w.heap.size+1;omega) _⟩
    case measure=>omega
   go_wp2_with fail
   refine (shortSpan_any y _ (hg.ext ((hxr.trans hxr2).trans Ext.au)) (by omega)).mono ?_
   rintro e w3 ⟨⟨hf,ht,⟨f1,f2,f3,fa⟩,⟨t1,t2,t3,ta⟩⟩,r,hp,rfl,hsz3,hsz4,hx3⟩
   dsimp only at hsz3 hsz4
   have bS:=(Blk.new w2 130 #[.bool false,.bool false,.int .i64 0,.int .i64 0,.int .i64 0,.string ⟨#[]⟩,.int .i64 0,.int .i64 0,.int .i64 0,.string ⟨#[]⟩]).ext hx3
   have HRF:Hid (rfI x=(⟨hf,ht,⟨f1,f2,f3,fa⟩,⟨t1,t2,t3,ta⟩⟩,r)):=Hy (ref_short HSP.out (by have:=HBF.out;intro h;rw[show Lib.hasPrefix (bs y) [62,61]=false from this] at h;cases h) (by have:=HBT.out;intro h;rw[show Lib.hasPrefix (bs y) [60]=false from this] at h;cases h) hp)
   have hG1:fa.size<=2097152:=by omega
   have hG2:ta.size<=2097152:=by omega
   have hx13:Ext wr w3:=hxr2.trans (Ext.trans Ext.au hx3)
   have h43:=h4.ext hx13
   have hR3:=hR.ext hx13
   have fc3:=h43.cell;have ff3:=h43.free;have fl3:=h43.lt
   have rc3:=hR3.cell;have rf3:=hR3.free;have rl3:=hR3.lt
   have sc3:=bS.cell;have sf3:=bS.free;have sl3:=bS.lt
   have hbx3:=hBX.ext hx13
   have hxw3:=hxr.trans hx13
   clear fc ff fl rc rf rl hx3 y0 hp
   by_cases h8:r=8
   ·subst h8
    have HP:=Hy (HSK.out (by rw[HRF.out]))
    go_wp2
    refine bodyPost_ret (v:=.tuple #[.agg #[.slice none 0 0],.int .i64 8]) (by simp[results,Tryz.results33,go_sem,rc3]) rfl ?_
    rw[HP.out]
    exact range_none Ext.ad
   have n8:(r==8)=false:=by rw[beq_eq_false_iff_ne];exact h8
   have HG8:Hid (Good8 x):=Hy (by unfold Good8;rw[HRF.out];exact⟨h8,hG1,hG2⟩)
   have HCL:Hid (spC (rfI x).1=[.bool hf,.bool ht,.int .i64 f1,.int .i64 f2,.int .i64 f3,.string fa,.int .i64 t1,.int .i64 t2,.int .i64 t3,.string ta]):=Hy (by rw[HRF.out];rfl)
   clear h8
   go_wp2_with fail
   refine (First_any _ _ [wg,r] _ ?_ (by simp)).mono ?_
   ·intro k hk
    match k,hk with
    | 0,_=>go_simp
    | 1,_=>go_simp
   rintro e w' ⟨rfl,rfl⟩
   go_wp2_with (at_builtin;refine wpList_app1g _ _ _ rfl _ _ 40 rfl (.agg #[.bool false,.bool false,.int .i64 0,.int .i64 0,.int .i64 0,.string ⟨#[]⟩,.int .i64 0,.int .i64 0,.int .i64 0,.string ⟨#[]⟩]) 10 88 Tryz.underlying40 info_span rfl (by decide) (by decide) (w.heap.size+1+1+1) _ k _ rfl ((own_ext hown Ext.ad).alloc _) _ _ rfl (by simp) rfl (by simp[Value.oneCell']) (by omega) (by simp;omega) ?_;intro v' w5 hown5 hx5 hb5;(obtain⟨g5,c5,hv5,_,_,_,_⟩:=own_form hown5 (by omega));subst hv5;have hB5:=hb5 _ _ _ ((h4.ext Ext.ad).alloc _) (by omega);have hR5:=hb5 _ _ _ ((hR.ext Ext.ad).alloc _) (by omega);have hX5:=hb5 _ _ _ ((hBX.ext Ext.ad).alloc _) (by omega);have hxx5:=hx5 w Ext.ad (by omega);have b5c:=hB5.cell;have b5f:=hB5.free;have b5l:=hB5.lt)
   go_roundg (xs.length - (k+1))
   case rel=>exact⟨k+1,_,by omega,Nat.le_refl _,by go_num,by rw[HEX.out,HWG.out,HRF.out],hR5.far (p:=⟨w.heap.size+1,0,none⟩) (by show w.heap.size≠w.heap.size+1;omega) _,hB5.set 0 _,hX5.far (p:=⟨w.heap.size+1,0,none⟩) (by show w.heap.size+1+1≠w.heap.size+1;omega) _,by rw[<-HNX.out,HCL.out];exact ownsRow_setCell_below hown5 (by show w.heap.size+1 < _;omega) _,HGX.out HG8.out,hxx5.setCell (by show w.heap.size<=w.heap.size+1;omega) _⟩
   case measure=>omega
  by_cases hl2:ys.length=2
  ·obtain⟨y,z,rfl⟩:∃ y z,ys=[y,z]:=by
    match ys,hl2 with
    | [y,z],_=>exact⟨y,z,rfl⟩
   have y0:=HBY.out 0 (by simp)
   have y1:=HBY.out 1 (by simp)
   have hyz0:=hyz y (by simp)
   have hyz1:=hyz z (by simp)
   have hsp:splitC 32 (bs x)=[bs y,bs z]:=HYS.out.symm
   have HSP:=Hy hsp
   simp only[List.getElem_cons_zero,List.getElem_cons_succ] at y0 y1
   have yl:=lt_of_cell y0
   clear hsp hl1 hl2 hyz hy0 hyl
   go_wp2_with fail
   refine (cutPrefix_ex y ⟨#[62,61]⟩ _).mono ?_
   rintro e w' ⟨fr,bF,rfl,hfr,hbF,hfz,rfl⟩
   go_wp2_with fail
   refine (cutPrefix_ex z ⟨#[60]⟩ _).mono ?_
   rintro e w' ⟨tr,bT,rfl,htr,hbT,htz,rfl⟩
   have z13:=hxr2.size
   have n0:¬ w2.heap.size=w.heap.size:=by omega
   have n1:¬ w2.heap.size=w.heap.size+1:=by omega
   have n2:¬ w.heap.size=w2.heap.size:=by omega
   have n3:¬ w.heap.size+1=w2.heap.size:=by omega
   have HFR:=Hy hfr
   have HTR:=Hy htr
   have HBF:=Hy hbF
   have HBT:=Hy hbT
   clear hfr htr hbF hbT
   by_cases hboth:bF=true∧bT=true
   rotate_left
   ·have HP:Hid (readR (bs s)=([],8)):=Hy (HSK.out (ref_two HSP.out (fun h=>hboth ⟨HBF.out.symm.trans h.1,HBT.out.symm.trans h.2⟩)))
    have hR3:=hR.ext hxr2
    clear rc rf rl
    have rc3:=hR3.cell;have rf3:=hR3.free;have rl3:=hR3.lt
    have hxw3:=hxr.trans hxr2
    cases bF<;>cases bT<;>first
     | (exact absurd ⟨rfl,rfl⟩ hboth)
     | (clear hboth;go_wp2;refine bodyPost_ret (v:=.tuple #[.agg #[.slice none 0 0],.int .i64 8]) (by simp[results,Tryz.results33,go_sem,rc3,rl3]) rfl ?_;rw[HP.out];exact range_none Ext.ad)
   obtain⟨rfl,rfl⟩:=hboth
   have HTP:Hid (bs fr=(bs y).drop 2):=Hy (by rw[HFR.out];exact trim_hit HBF.out)
   have HTQ:Hid (bs tr=(bs z).drop 1):=Hy (by rw[HTR.out];exact trim_hit HBT.out)
   go_wp2_with fail
   refine (Read_x fr _ (hg.ext ((hxr.trans hxr2).trans Ext.au)) (by omega)).mono ?_
   rintro e w3 ⟨⟨a1,a2,a3,a⟩,r,hp,rfl,hsz3,hx3⟩
   dsimp only at hsz3
   have bS:=(Blk.new w2 130 #[.bool true,.bool true,.int .i64 0,.int .i64 0,.int .i64 0,.string ⟨#[]⟩,.int .i64 0,.int .i64 0,.int .i64 0,.string ⟨#[]⟩]).ext hx3
   have hx23:Ext w2 w3:=Ext.trans Ext.au hx3
   have hxr3:Ext wr w3:=hxr2.trans hx23
   have hxww:Ext w w3:=hxr.trans hxr3
   have sc3:=bS.cell;have sf3:=bS.free;have sl3:=bS.lt
   have HP1:=Hy hp
   clear hp hx3
   go_wp2_with fail
   refine (Read_x tr _ (hg.ext Ext.ad) (by omega)).mono ?_
   rintro e w4 ⟨⟨b1,b2,b3,b⟩,q,hq,rfl,hsz4,hx4⟩
   dsimp only at hsz4
   have bS4:=((((bS.set 2 (.int .i64 a1)).set 3 (.int .i64 a2)).set 4 (.int .i64 a3)).set 5 (.string a)).ext hx4
   have hx14:Ext wr w4:=Ext.trans Ext.ad hx4
   have HRX:Hid (rfI x=(⟨true,true,⟨a1,a2,a3,a⟩,⟨b1,b2,b3,b⟩⟩,if r=8∨q=8 then 8 else firstI [r,q])):=Hy (ref_both HSP.out HBF.out HBT.out (by rw[<-HTP.out];exact HP1.out) (by rw[<-HTQ.out];exact hq))
   have hG1:a.size<=2097152:=by omega
   have hG2:b.size<=2097152:=by omega
   clear hq hx4 sc3 sf3 sl3
   have sc4:=bS4.cell;have sf4:=bS4.free;have sl4:=bS4.lt
   by_cases h88:r=8∨q=8
   ·have HP:Hid (readR (bs s)=([],8)):=Hy (HSK.out (by rw[HRX.out,if_pos h88]))
    have hR3:=hR.ext hx14
    clear rc rf rl fc ff fl
    have rc3:=hR3.cell;have rf3:=hR3.free;have rl3:=hR3.lt
    have hxw3:=hxr.trans hx14
    by_cases hr8:r=8
    ·subst hr8
     clear h88
     go_wp2
     refine bodyPost_ret (v:=.tuple #[.agg #[.slice none 0 0],.int .i64 8]) (by simp[results,Tryz.results33,go_sem,rc3]) rfl ?_
     rw[HP.out]
     exact range_none Ext.ad
    ·have n8r:(r==8)=false:=by rw[beq_eq_false_iff_ne];exact hr8
     obtain rfl:q=8:=h88.resolve_left hr8
     clear h88 hr8
     go_wp2
     refine bodyPost_ret (v:=.tuple #[.agg #[.slice none 0 0],.int .i64 8]) (by simp[results,Tryz.results33,go_sem,rc3]) rfl ?_
     rw[HP.out]
     exact range_none Ext.ad
   have HRF:Hid (rfI x=(⟨true,true,⟨a1,a2,a3,a⟩,⟨b1,b2,b3,b⟩⟩,firstI [r,q])):=Hy (by rw[HRX.out,if_neg h88])
   have n8r:(r==8)=false:=by rw[beq_eq_false_iff_ne];exact fun h=>h88 (.inl h)
   have n8q:(q==8)=false:=by rw[beq_eq_false_iff_ne];exact fun h=>h88 (.inr h)
   clear h88 HRX
   go_wp2_with fail
   refine (First_any _ _ [r,q] _ ?_ (by simp)).mono ?_
   ·intro k hk
    match k,hk with
    | 0,_=>go_simp
    | 1,_=>go_simp
   rintro e w' ⟨rfl,rfl⟩
   generalize firstI [r,q]=E at *
   have hx13:Ext wr w4:=hx14
   have h43:=h4.ext hx13
   have hR3:=hR.ext hx13
   have fc3:=h43.cell;have ff3:=h43.free;have fl3:=h43.lt
   have rc3:=hR3.cell;have rf3:=hR3.free;have rl3:=hR3.lt
   have sc3:=bS4.cell;have sf3:=bS4.free;have sl3:=bS4.lt
   have hbx3:=hBX.ext hx13
   have hxw3:=hxr.trans hx13
   clear fc ff fl rc rf rl y0 y1
   by_cases h8:E=8
   ·subst h8
    have HP:=Hy (HSK.out (by rw[HRF.out]))
    go_wp2
    refine bodyPost_ret (v:=.tuple #[.agg #[.slice none 0 0],.int .i64 8]) (by simp[results,Tryz.results33,go_sem,rc3,rl3]) rfl ?_
    rw[HP.out]
    exact range_none Ext.ad
   have n8:(E==8)=false:=by rw[beq_eq_false_iff_ne];exact h8
   have HG8:Hid (Good8 x):=Hy (by unfold Good8;rw[HRF.out];exact⟨h8,hG1,hG2⟩)
   have HCL:Hid (spC (rfI x).1=[.bool true,.bool true,.int .i64 a1,.int .i64 a2,.int .i64 a3,.string a,.int .i64 b1,.int .i64 b2,.int .i64 b3,.string b]):=Hy (by rw[HRF.out];rfl)
   clear h8
   go_wp2_with fail
   refine (First_any _ _ [wg,E] _ ?_ (by simp)).mono ?_
   ·intro k hk
    match k,hk with
    | 0,_=>go_simp
    | 1,_=>go_simp
   rintro e w' ⟨rfl,rfl⟩
   go_wp2_with (at_builtin;refine wpList_app1g _ _ _ rfl _ _ 40 rfl (.agg #[.bool false,.bool false,.int .i64 0,.int .i64 0,.int .i64 0,.string ⟨#[]⟩,.int .i64 0,.int .i64 0,.int .i64 0,.string ⟨#[]⟩]) 10 88 Tryz.underlying40 info_span rfl (by decide) (by decide) (w.heap.size+1+1+1) _ k _ rfl ((own_ext hown Ext.ad).alloc _) _ _ rfl (by simp) rfl (by simp[Value.oneCell']) (by omega) (by simp;omega) ?_;intro v' w5 hown5 hx5 hb5;(obtain⟨g5,c5,hv5,_,_,_,_⟩:=own_form hown5 (by omega));subst hv5;have hB5:=hb5 _ _ _ ((h4.ext Ext.ad).alloc _) (by omega);have hR5:=hb5 _ _ _ ((hR.ext Ext.ad).alloc _) (by omega);have hX5:=hb5 _ _ _ ((hBX.ext Ext.ad).alloc _) (by omega);have hxx5:=hx5 w Ext.ad (by omega);have b5c:=hB5.cell;have b5f:=hB5.free;have b5l:=hB5.lt)
   go_roundg (xs.length - (k+1))
   case rel=>exact⟨k+1,_,by omega,Nat.le_refl _,by go_num,by rw[HEX.out,HWG.out,HRF.out],hR5.far (p:=⟨w.heap.size+1,0,none⟩) (by show w.heap.size≠w.heap.size+1;omega) _,hB5.set 0 _,hX5.far (p:=⟨w.heap.size+1,0,none⟩) (by show w.heap.size+1+1≠w.heap.size+1;omega) _,by rw[<-HNX.out,HCL.out];exact ownsRow_setCell_below hown5 (by show w.heap.size+1 < _;omega) _,HGX.out HG8.out,hxx5.setCell (by show w.heap.size<=w.heap.size+1;omega) _⟩
   case measure=>omega
  ·have hm:∃ y z q m,ys=y::z::q::m:=by
    match ys,hy0,hl1,hl2 with
    | [],h,_,_=>exact absurd h (by simp)
    | [_],_,h,_=>exact absurd rfl h
    | [_,_],_,_,h=>exact absurd rfl h
    | y::z::q::m,_,_,_=>exact⟨y,z,q,m,rfl⟩
   have HP:Hid (readR (bs s)=([],8)):=Hy (HSK.out (by
    obtain⟨y,z,q,m,e⟩:=hm
    exact ref_more (l:=bs y) (m:=bs z) (n:=bs q) (r:=m.map bs) (by rw[<-HYS.out,e];rfl)))
   clear hm
   obtain⟨j,hj⟩:∃ j,ys.length=j+1:=⟨ys.length - 1,by omega⟩
   have y0:=HBY.out 0 (by omega)
   have yj:=HBY.out j (by omega)
   have yl:=lt_of_cell y0
   have e1:((j:Int)+1==1)=false:=by rw[beq_eq_false_iff_ne];omega
   have e2:((j:Int)+1==2)=false:=by rw[beq_eq_false_iff_ne];omega
   have hjl:(j:Int) < 100000:=by omega
   have z13:=hxr2.size
   generalize ys[0]=u0 at *
   generalize ys[j]=uj at *
   clear hl1 hl2 hyz hyl HYS HBY hby
   go_wp2_with fail
   refine (cutPrefix_ex u0 ⟨#[62,61]⟩ _).mono ?_
   rintro e w' ⟨fr,bF,rfl,hfr,hbF,hfz,rfl⟩
   clear hfr hbF hfz
   go_wp2_with fail
   refine (cutPrefix_ex uj ⟨#[60]⟩ _).mono ?_
   rintro e w' ⟨tr,bT,rfl,htr,hbT,htz,rfl⟩
   clear htr hbT htz
   have hR3:=hR.ext hxr2
   clear rc rf rl
   have rc3:=hR3.cell;have rf3:=hR3.free;have rl3:=hR3.lt
   have hxw3:=hxr.trans hxr2
   go_wp2
   refine bodyPost_ret (v:=.tuple #[.agg #[.slice none 0 0],.int .i64 8]) (by simp[results,Tryz.results33,go_sem,rc3,rl3]) rfl ?_
   rw[HP.out]
   exact range_none Ext.ad
end Go.Proofs.YtmnafaaijglnfaaGreatDoor
