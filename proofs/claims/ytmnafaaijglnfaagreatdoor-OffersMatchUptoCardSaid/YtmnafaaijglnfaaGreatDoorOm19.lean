/- Contracts of outref2.upTo, shortSpan. -/
import Derived.Test.YtmnafaaijglnfaaGreatDoorOm16
namespace Go.Proofs.YtmnafaaijglnfaaGreatDoor
open Go.RowKit
theorem upTo_any (v u:V4) (w:World):Calls Tryz.prog 165 #[verV v,verV u] w fun e w'=>e=.returned (spV ⟨true,true,v,u⟩)∧Ext w w':=by
 obtain⟨v1,v2,v3,va⟩:=v
 obtain⟨u1,u2,u3,ua⟩:=u
 dsimp only[verV,spV]
 go_enter Tryz.func165,Tryz.ntmps165
 go_wp2
 refine bodyPost_ret (v:=.agg #[.bool true,.bool true,.int .i64 v1,.int .i64 v2,.int .i64 v3,.string va,.int .i64 u1,.int .i64 u2,.int .i64 u3,.string ua]) (by simp[results,Tryz.results165,go_sem]) rfl ⟨rfl,?_⟩
 exact Ext.ad
def ShortPost (l:Str) (n:Nat) (w:World) (E:Ending) (w':World):Prop :=
 ∃ (s:Sp) (r:Int),shortL l=(s,r)∧E=.returned (.tuple #[spV s,.int .i64 r])∧s.f.a.size<=n+2∧s.t.a.size<=n+2∧Ext w w'
theorem short_star {l:Str} (h:l=[42]):shortL l=(zeroS,0):=by rw[shortL,if_pos h]
theorem short_err {l x:Str} {k:UInt8} {v:V4} {r:Int} (h:¬ l=[42]) (hk:shortK l=(k,x)) (hp:pV x=(v,r)) (hr:¬ r=0):shortL l=(zeroS,r):=by
 rw[shortL,if_neg h,hk,hp,if_pos hr]
theorem short_ok {l x:Str} {k:UInt8} {v u:V4} {r:Int} (h:¬ l=[42]) (hk:shortK l=(k,x)) (hp:pV x=(v,0)) (hb:behindL v k=(u,r)):shortL l=(⟨true,true,v,u⟩,r):=by
 rw[shortL,if_neg h,hk,hp,if_neg (by simp)]
 dsimp only
 rw[hb]
theorem Blk.far1 {w:World} {g g':Nat} {t:TypeId} {cs:Array Value} (h:Blk w g t cs) (hne:g≠g') (u:Value):Blk (w.setCell ⟨g',3,none⟩ u) g t cs:=h.far (p:=⟨g',3,none⟩) hne u
theorem Blk.far4 {w:World} {g g':Nat} {t:TypeId} {cs:Array Value} (h:Blk w g t cs) (hne:g≠g') (u0 u1 u2 u3:Value) :
 Blk ((((w.setCell ⟨g',0,none⟩ u0).setCell ⟨g',1,none⟩ u1).setCell ⟨g',2,none⟩ u2).setCell ⟨g',3,none⟩ u3) g t cs :=
 (((h.far (p:=⟨g',0,none⟩) hne u0).far (p:=⟨g',1,none⟩) hne u1).far (p:=⟨g',2,none⟩) hne u2).far (p:=⟨g',3,none⟩) hne u3
theorem ver_nonneg {v:V4} (h:v.err=0):0<=v.a1:=(checkV_ok (show checkV v.a1 v.a2 v.a3 (bs v.a)=0 from h)).1.1
set_option maxHeartbeats 16000000 in
set_option maxRecDepth 100000 in
theorem shortSpan_any (s:ByteArray) (w:World) (hg:GoodN w) (hs:s.size<=100000) :
 Calls Tryz.prog 97 #[.string s] w (ShortPost (bs s) s.size w):=by
 go_enter Tryz.func97,Tryz.ntmps97
 by_cases h0:bs s=[42]
 ·have he:(s.toList==[42])=true:=by rw[lit_beq,beq_iff_eq];exact h0
  have HI:=Hy (short_star h0)
  clear h0
  go_wp2
  refine bodyPost_ret (v:=.tuple #[spV zeroS,.int .i64 0]) (by simp[results,Tryz.results97,go_sem,zeroS,zeroV]) rfl ⟨zeroS,0,HI.out,rfl,Nat.zero_le _,Nat.zero_le _,?_⟩
  exact Ext.ad
 have he:(s.toList==[42])=false:=by rw[lit_beq,beq_eq_false_iff_ne];exact h0
 have H0:=Hy h0
 clear h0
 have bR:=Blk.new w 130 #[.bool false,.bool false,.int .i64 0,.int .i64 0,.int .i64 0,.string ⟨#[]⟩,.int .i64 0,.int .i64 0,.int .i64 0,.string ⟨#[]⟩]
 -- MORE
 rcases Nat.eq_zero_or_pos s.size with hz|hz
 ·have hi:=emp_bool hz
  have hk:shortK (bs s)=(94,bs s):=by rw[bs_nil hz];rfl
  have HK:=Hy hk
  clear hk
  go_wp2_with fail
  refine (Read_x s _ (hg.ext (Ext.au)) (by omega)).mono ?_
  rintro e w1 ⟨⟨a1,a2,a3,a⟩,r,hp,rfl,hsz,hx1⟩
  dsimp only at hsz
  have hx:Ext w w1:=Ext.trans (Ext.au) hx1
  have bR1:=bR.ext hx1
  have cR:=bR1.cell;have fR:=bR1.free;have zR:=bR1.lt
  clear hx1
  by_cases hr:r=0
  rotate_left
  ·have HS:=Hy (short_err H0.out HK.out hp hr)
   have hbn:(r != 0)=true:=by rw[bne_iff_ne];exact hr
   clear hr hp
   go_wp2
   refine bodyPost_ret (v:=.tuple #[spV zeroS,.int .i64 r]) (by simp[results,Tryz.results97,go_sem,zeroS,zeroV,cR,zR]) rfl ⟨zeroS,r,HS.out,rfl,Nat.zero_le _,Nat.zero_le _,?_⟩
   exact Ext.ad
  exfalso
  rw[bs_nil hz] at hp
  have h8:=pV_nil
  rw[hp] at h8
  rw[hr] at h8
  cases h8
 have hi:=nemp_bool hz
 have hne:(bs s).isEmpty=false:=by rw[ByteArray.toList_eq] at hi;exact hi
 have HHD:=Hy (head_bs s hz)
 have HNE:=Hy hne
 clear hne
 go_wp2_with fail
 refine (indexByte_any ⟨#[61,94,126]⟩ s[0] _).mono ?_
 rintro e w' ⟨rfl,rfl⟩
 cases hc:([61,94,126]:Str).contains s[0]
 ·have hge:¬ 0<=Lib.indexByte (bs ⟨#[61,94,126]⟩) s[0]:=by have:=indexByte_out hc;show ¬ 0<=Lib.indexByte [61,94,126] s[0];omega
  have HK:Hid (shortK (bs s)=(94,bs s)):=Hy (by rw[shortK,HNE.out,HHD.out,hc];rfl)
  clear hc
  go_wp2_with fail
  refine (Read_x s _ (hg.ext (Ext.au)) (by omega)).mono ?_
  rintro e w1 ⟨⟨a1,a2,a3,a⟩,r,hp,rfl,hsz,hx1⟩
  dsimp only at hsz
  have hx:Ext w w1:=Ext.trans (Ext.au) hx1
  have bR1:=bR.ext hx1
  have cR:=bR1.cell;have fR:=bR1.free;have zR:=bR1.lt
  clear hx1
  by_cases hr:r=0
  rotate_left
  ·have HS:=Hy (short_err H0.out HK.out hp hr)
   have hbn:(r != 0)=true:=by rw[bne_iff_ne];exact hr
   clear hr hp
   go_wp2
   refine bodyPost_ret (v:=.tuple #[spV zeroS,.int .i64 r]) (by simp[results,Tryz.results97,go_sem,zeroS,zeroV,cR,zR]) rfl ⟨zeroS,r,HS.out,rfl,Nat.zero_le _,Nat.zero_le _,?_⟩
   exact Ext.ad
  subst hr
  have hve:V4.err ⟨a1,a2,a3,a⟩=0:=by
   have:=pV_err (l:=bs s) (by rw[hp])
   rwa [hp] at this
  have h1:=ver_nonneg hve
  dsimp only at h1
  have HP:=Hy hp
  have HSO:=Hy (fun u r2 hq=>short_ok (u:=u) (r:=r2) H0.out HK.out hp hq)
  clear hp hve
  by_cases ha:a1=0
  ·have e0:¬ 0 < a1:=by omega
   have HB:=Hy (behind_one (v:=⟨a1,a2,a3,a⟩) (sg:=94) (by decide) (fun h=>h.2 ha))
   (try clear ha)
   go_wp2_with fail
   refine (NextOf_x ⟨a1,a2,a3,a⟩ 1 _ (hg.ext (hx.trans Ext.au)).toGood (by dsimp only;omega)).mono ?_
   rintro e w2 ⟨x,y,z,r2,hn,rfl,hx2⟩
   have HNV:=Hy hn
   clear hn
   have hxx:Ext w w2:=hx.trans (Ext.trans Ext.au hx2)
   have bV:=((Blk.new w1 23 #[.int .i64 a1,.int .i64 a2,.int .i64 a3,.string a]).alloc (.cells #[.int .i64 a1,.int .i64 a2,.int .i64 a3,.string a] 23)).ext hx2
   have bT:=(Blk.new (w1.alloc (.cells #[.int .i64 a1,.int .i64 a2,.int .i64 a3,.string a] 23)) 23 #[.int .i64 a1,.int .i64 a2,.int .i64 a3,.string a]).ext hx2
   rw[World.size_alloc] at bT
   have bR2:=((bR1.alloc (.cells #[.int .i64 a1,.int .i64 a2,.int .i64 a3,.string a] 23)).alloc (.cells #[.int .i64 a1,.int .i64 a2,.int .i64 a3,.string a] 23)).ext hx2
   clear cR fR zR hx2
   have cV:=bV.cell;have fV:=bV.free;have zV:=bV.lt
   have cT:=bT.cell;have fT:=bT.free;have zT:=bT.lt
   have zR1:=bR1.lt
   go_wp2_with fail
   refine (upTo_any ⟨a1,a2,a3,a⟩ ⟨x,y,z,⟨#[]⟩⟩ _).mono ?_
   rintro e w3 ⟨rfl,hx3⟩
   have hne:w.heap.size≠w1.heap.size+1:=by omega
   have bR3:=(bR2.far4 hne _ _ _ _).ext hx3
   have hw3:Ext w w3:=Ext.trans Ext.ad hx3
   clear hx3
   have cR:=bR3.cell;have fR:=bR3.free;have zR:=bR3.lt
   go_wp2
   refine bodyPost_ret (v:=.tuple #[spV ⟨true,true,⟨a1,a2,a3,a⟩,⟨x,y,z,⟨#[]⟩⟩⟩,.int .i64 r2]) (by simp[results,Tryz.results97,go_sem,cR]) rfl ⟨⟨true,true,⟨a1,a2,a3,a⟩,⟨x,y,z,⟨#[]⟩⟩⟩,r2,HSO.out _ _ ?_,rfl,?_,?_,?_⟩
   ·rw[HB.out,HNV.out]
    try rfl
   ·show a.size<=_
    omega
   ·show (0:Nat)<=_
    omega
   ·exact Ext.ad
  have e0:0 < a1:=by omega
  have HB:=Hy (behind_zero (v:=⟨a1,a2,a3,a⟩) (sg:=94) (by decide) rfl ha)
  (try clear ha)
  go_wp2_with fail
  refine (NextOf_x ⟨a1,a2,a3,a⟩ 0 _ (hg.ext (hx.trans Ext.au)).toGood (by dsimp only;omega)).mono ?_
  rintro e w2 ⟨x,y,z,r2,hn,rfl,hx2⟩
  have HNV:=Hy hn
  clear hn
  have hxx:Ext w w2:=hx.trans (Ext.trans Ext.au hx2)
  have bV:=((Blk.new w1 23 #[.int .i64 a1,.int .i64 a2,.int .i64 a3,.string a]).alloc (.cells #[.int .i64 a1,.int .i64 a2,.int .i64 a3,.string a] 23)).ext hx2
  have bT:=(Blk.new (w1.alloc (.cells #[.int .i64 a1,.int .i64 a2,.int .i64 a3,.string a] 23)) 23 #[.int .i64 a1,.int .i64 a2,.int .i64 a3,.string a]).ext hx2
  rw[World.size_alloc] at bT
  have bR2:=((bR1.alloc (.cells #[.int .i64 a1,.int .i64 a2,.int .i64 a3,.string a] 23)).alloc (.cells #[.int .i64 a1,.int .i64 a2,.int .i64 a3,.string a] 23)).ext hx2
  clear cR fR zR hx2
  have cV:=bV.cell;have fV:=bV.free;have zV:=bV.lt
  have cT:=bT.cell;have fT:=bT.free;have zT:=bT.lt
  have zR1:=bR1.lt
  go_wp2_with fail
  refine (upTo_any ⟨a1,a2,a3,a⟩ ⟨x,y,z,⟨#[]⟩⟩ _).mono ?_
  rintro e w3 ⟨rfl,hx3⟩
  have hne:w.heap.size≠w1.heap.size+1:=by omega
  have bR3:=(bR2.far4 hne _ _ _ _).ext hx3
  have hw3:Ext w w3:=Ext.trans Ext.ad hx3
  clear hx3
  have cR:=bR3.cell;have fR:=bR3.free;have zR:=bR3.lt
  go_wp2
  refine bodyPost_ret (v:=.tuple #[spV ⟨true,true,⟨a1,a2,a3,a⟩,⟨x,y,z,⟨#[]⟩⟩⟩,.int .i64 r2]) (by simp[results,Tryz.results97,go_sem,cR]) rfl ⟨⟨true,true,⟨a1,a2,a3,a⟩,⟨x,y,z,⟨#[]⟩⟩⟩,r2,HSO.out _ _ ?_,rfl,?_,?_,?_⟩
  ·rw[HB.out,HNV.out]
   try rfl
  ·show a.size<=_
   omega
  ·show (0:Nat)<=_
   omega
  ·exact Ext.ad
 have hge:0<=Lib.indexByte (bs ⟨#[61,94,126]⟩) s[0]:=by have:=indexByte_in hc;show 0<=Lib.indexByte [61,94,126] s[0];omega
 have hd:bs (s.extract 1 s.size)=(bs s).drop 1:=Lib.extract_to_end s 1
 have HK:Hid (shortK (bs s)=(s[0],bs (s.extract 1 s.size))):=Hy (by rw[shortK,HNE.out,HHD.out,hc,hd];rfl)
 have hsz1:(s.extract 1 s.size).size<=s.size:=by simp
 have h3:s[0]=61∨s[0]=94∨s[0]=126:=by simpa using hc
 clear hc hd
 go_wp2_with fail
 refine wp_region_ext (by kernel_rfl) (by kernel_rfl) ?_
 repeat (first|go_big_quiet_skip|(refine wpQuiet_step (fun K hK=>?_);go_simp;first|(refine hK _ ?_;clear hK K)|(apply Exists.intro;refine⟨fun wq hwq=>?_,hK _ ?_⟩;(obtain⟨hqc,hqf⟩:=hwq.cells;have hqs:=hwq.size;(try go_simp);first|rfl|((first|rw[if_neg (by omega)]|rw[if_pos (by omega)]);(try go_simp);rfl)|((fail)));clear hK K)))
 refine wpQuiet_nil ?_
 intro wN hxN
 obtain⟨hcN,hfN⟩:=hxN.cells
 have hsN:=hxN.size
 have hxN':Ext w wN:=Ext.trans Ext.au hxN
 have bR:=bR.ext hxN
 clear hxN hcN hfN hsN
 go_wp2_with fail
 refine (Read_x (s.extract 1 s.size) _ (hg.ext (hxN')) (by omega)).mono ?_
 rintro e w1 ⟨⟨a1,a2,a3,a⟩,r,hp,rfl,hsz,hx1⟩
 dsimp only at hsz
 have hx:Ext w w1:=Ext.trans (hxN') hx1
 have bR1:=bR.ext hx1
 have cR:=bR1.cell;have fR:=bR1.free;have zR:=bR1.lt
 clear hx1
 by_cases hr:r=0
 rotate_left
 ·have HS:=Hy (short_err H0.out HK.out hp hr)
  have hbn:(r != 0)=true:=by rw[bne_iff_ne];exact hr
  clear hr hp
  go_wp2
  refine bodyPost_ret (v:=.tuple #[spV zeroS,.int .i64 r]) (by simp[results,Tryz.results97,go_sem,zeroS,zeroV,cR,zR]) rfl ⟨zeroS,r,HS.out,rfl,Nat.zero_le _,Nat.zero_le _,?_⟩
  exact Ext.ad
 subst hr
 have hve:V4.err ⟨a1,a2,a3,a⟩=0:=by
  have:=pV_err (l:=bs (s.extract 1 s.size)) (by rw[hp])
  rwa [hp] at this
 have h1:=ver_nonneg hve
 dsimp only at h1
 have HP:=Hy hp
 have HSO:=Hy (fun u r2 hq=>short_ok (u:=u) (r:=r2) H0.out HK.out hp hq)
 clear hp hve
 generalize s[0]=kk at *
 rcases h3 with rfl|rfl|rfl
 rotate_left
 ·by_cases ha:a1=0
  ·have e0:¬ 0 < a1:=by omega
   have HB:=Hy (behind_one (v:=⟨a1,a2,a3,a⟩) (sg:=94) (by decide) (fun h=>h.2 ha))
   (try clear ha)
   go_wp2_with fail
   refine (NextOf_x ⟨a1,a2,a3,a⟩ 1 _ (hg.ext (hx.trans Ext.au)).toGood (by dsimp only;omega)).mono ?_
   rintro e w2 ⟨x,y,z,r2,hn,rfl,hx2⟩
   have HNV:=Hy hn
   clear hn
   have hxx:Ext w w2:=hx.trans (Ext.trans Ext.au hx2)
   have bV:=((Blk.new w1 23 #[.int .i64 a1,.int .i64 a2,.int .i64 a3,.string a]).alloc (.cells #[.int .i64 a1,.int .i64 a2,.int .i64 a3,.string a] 23)).ext hx2
   have bT:=(Blk.new (w1.alloc (.cells #[.int .i64 a1,.int .i64 a2,.int .i64 a3,.string a] 23)) 23 #[.int .i64 a1,.int .i64 a2,.int .i64 a3,.string a]).ext hx2
   rw[World.size_alloc] at bT
   have bR2:=((bR1.alloc (.cells #[.int .i64 a1,.int .i64 a2,.int .i64 a3,.string a] 23)).alloc (.cells #[.int .i64 a1,.int .i64 a2,.int .i64 a3,.string a] 23)).ext hx2
   clear cR fR zR hx2
   have cV:=bV.cell;have fV:=bV.free;have zV:=bV.lt
   have cT:=bT.cell;have fT:=bT.free;have zT:=bT.lt
   have zR1:=bR1.lt
   go_wp2_with fail
   refine (upTo_any ⟨a1,a2,a3,a⟩ ⟨x,y,z,⟨#[]⟩⟩ _).mono ?_
   rintro e w3 ⟨rfl,hx3⟩
   have hne:w.heap.size≠w1.heap.size+1:=by omega
   have bR3:=(bR2.far4 hne _ _ _ _).ext hx3
   have hw3:Ext w w3:=Ext.trans Ext.ad hx3
   clear hx3
   have cR:=bR3.cell;have fR:=bR3.free;have zR:=bR3.lt
   go_wp2
   refine bodyPost_ret (v:=.tuple #[spV ⟨true,true,⟨a1,a2,a3,a⟩,⟨x,y,z,⟨#[]⟩⟩⟩,.int .i64 r2]) (by simp[results,Tryz.results97,go_sem,cR]) rfl ⟨⟨true,true,⟨a1,a2,a3,a⟩,⟨x,y,z,⟨#[]⟩⟩⟩,r2,HSO.out _ _ ?_,rfl,?_,?_,?_⟩
   ·rw[HB.out,HNV.out]
    try rfl
   ·show a.size<=_
    omega
   ·show (0:Nat)<=_
    omega
   ·exact Ext.ad
  have e0:0 < a1:=by omega
  have HB:=Hy (behind_zero (v:=⟨a1,a2,a3,a⟩) (sg:=94) (by decide) rfl ha)
  (try clear ha)
  go_wp2_with fail
  refine (NextOf_x ⟨a1,a2,a3,a⟩ 0 _ (hg.ext (hx.trans Ext.au)).toGood (by dsimp only;omega)).mono ?_
  rintro e w2 ⟨x,y,z,r2,hn,rfl,hx2⟩
  have HNV:=Hy hn
  clear hn
  have hxx:Ext w w2:=hx.trans (Ext.trans Ext.au hx2)
  have bV:=((Blk.new w1 23 #[.int .i64 a1,.int .i64 a2,.int .i64 a3,.string a]).alloc (.cells #[.int .i64 a1,.int .i64 a2,.int .i64 a3,.string a] 23)).ext hx2
  have bT:=(Blk.new (w1.alloc (.cells #[.int .i64 a1,.int .i64 a2,.int .i64 a3,.string a] 23)) 23 #[.int .i64 a1,.int .i64 a2,.int .i64 a3,.string a]).ext hx2
  rw[World.size_alloc] at bT
  have bR2:=((bR1.alloc (.cells #[.int .i64 a1,.int .i64 a2,.int .i64 a3,.string a] 23)).alloc (.cells #[.int .i64 a1,.int .i64 a2,.int .i64 a3,.string a] 23)).ext hx2
  clear cR fR zR hx2
  have cV:=bV.cell;have fV:=bV.free;have zV:=bV.lt
  have cT:=bT.cell;have fT:=bT.free;have zT:=bT.lt
  have zR1:=bR1.lt
  go_wp2_with fail
  refine (upTo_any ⟨a1,a2,a3,a⟩ ⟨x,y,z,⟨#[]⟩⟩ _).mono ?_
  rintro e w3 ⟨rfl,hx3⟩
  have hne:w.heap.size≠w1.heap.size+1:=by omega
  have bR3:=(bR2.far4 hne _ _ _ _).ext hx3
  have hw3:Ext w w3:=Ext.trans Ext.ad hx3
  clear hx3
  have cR:=bR3.cell;have fR:=bR3.free;have zR:=bR3.lt
  go_wp2
  refine bodyPost_ret (v:=.tuple #[spV ⟨true,true,⟨a1,a2,a3,a⟩,⟨x,y,z,⟨#[]⟩⟩⟩,.int .i64 r2]) (by simp[results,Tryz.results97,go_sem,cR]) rfl ⟨⟨true,true,⟨a1,a2,a3,a⟩,⟨x,y,z,⟨#[]⟩⟩⟩,r2,HSO.out _ _ ?_,rfl,?_,?_,?_⟩
  ·rw[HB.out,HNV.out]
   try rfl
  ·show a.size<=_
   omega
  ·show (0:Nat)<=_
   omega
  ·exact Ext.ad
 ·have HB:=Hy (behind_one (v:=⟨a1,a2,a3,a⟩) (sg:=126) (by decide) (fun h=>absurd h.1 (by decide)))
  (try clear ha)
  go_wp2_with fail
  refine (NextOf_x ⟨a1,a2,a3,a⟩ 1 _ (hg.ext (hx.trans Ext.au)).toGood (by dsimp only;omega)).mono ?_
  rintro e w2 ⟨x,y,z,r2,hn,rfl,hx2⟩
  have HNV:=Hy hn
  clear hn
  have hxx:Ext w w2:=hx.trans (Ext.trans Ext.au hx2)
  have bV:=((Blk.new w1 23 #[.int .i64 a1,.int .i64 a2,.int .i64 a3,.string a]).alloc (.cells #[.int .i64 a1,.int .i64 a2,.int .i64 a3,.string a] 23)).ext hx2
  have bT:=(Blk.new (w1.alloc (.cells #[.int .i64 a1,.int .i64 a2,.int .i64 a3,.string a] 23)) 23 #[.int .i64 a1,.int .i64 a2,.int .i64 a3,.string a]).ext hx2
  rw[World.size_alloc] at bT
  have bR2:=((bR1.alloc (.cells #[.int .i64 a1,.int .i64 a2,.int .i64 a3,.string a] 23)).alloc (.cells #[.int .i64 a1,.int .i64 a2,.int .i64 a3,.string a] 23)).ext hx2
  clear cR fR zR hx2
  have cV:=bV.cell;have fV:=bV.free;have zV:=bV.lt
  have cT:=bT.cell;have fT:=bT.free;have zT:=bT.lt
  have zR1:=bR1.lt
  go_wp2_with fail
  refine (upTo_any ⟨a1,a2,a3,a⟩ ⟨x,y,z,⟨#[]⟩⟩ _).mono ?_
  rintro e w3 ⟨rfl,hx3⟩
  have hne:w.heap.size≠w1.heap.size+1:=by omega
  have bR3:=(bR2.far4 hne _ _ _ _).ext hx3
  have hw3:Ext w w3:=Ext.trans Ext.ad hx3
  clear hx3
  have cR:=bR3.cell;have fR:=bR3.free;have zR:=bR3.lt
  go_wp2
  refine bodyPost_ret (v:=.tuple #[spV ⟨true,true,⟨a1,a2,a3,a⟩,⟨x,y,z,⟨#[]⟩⟩⟩,.int .i64 r2]) (by simp[results,Tryz.results97,go_sem,cR]) rfl ⟨⟨true,true,⟨a1,a2,a3,a⟩,⟨x,y,z,⟨#[]⟩⟩⟩,r2,HSO.out _ _ ?_,rfl,?_,?_,?_⟩
  ·rw[HB.out,HNV.out]
   try rfl
  ·show a.size<=_
   omega
  ·show (0:Nat)<=_
   omega
  ·exact Ext.ad
 rcases Nat.eq_zero_or_pos a.size with hza|hza
 ·have hia:=emp_bool hza
  have HB:=Hy (behind_two (v:=⟨a1,a2,a3,a⟩) (sg:=61) rfl (bs_nil hza))
  (try clear ha)
  go_wp2_with fail
  refine (NextOf_x ⟨a1,a2,a3,a⟩ 2 _ (hg.ext (hx.trans Ext.au)).toGood (by dsimp only;omega)).mono ?_
  rintro e w2 ⟨x,y,z,r2,hn,rfl,hx2⟩
  have HNV:=Hy hn
  clear hn
  have hxx:Ext w w2:=hx.trans (Ext.trans Ext.au hx2)
  have bV:=((Blk.new w1 23 #[.int .i64 a1,.int .i64 a2,.int .i64 a3,.string a]).alloc (.cells #[.int .i64 a1,.int .i64 a2,.int .i64 a3,.string a] 23)).ext hx2
  have bT:=(Blk.new (w1.alloc (.cells #[.int .i64 a1,.int .i64 a2,.int .i64 a3,.string a] 23)) 23 #[.int .i64 a1,.int .i64 a2,.int .i64 a3,.string a]).ext hx2
  rw[World.size_alloc] at bT
  have bR2:=((bR1.alloc (.cells #[.int .i64 a1,.int .i64 a2,.int .i64 a3,.string a] 23)).alloc (.cells #[.int .i64 a1,.int .i64 a2,.int .i64 a3,.string a] 23)).ext hx2
  clear cR fR zR hx2
  have cV:=bV.cell;have fV:=bV.free;have zV:=bV.lt
  have cT:=bT.cell;have fT:=bT.free;have zT:=bT.lt
  have zR1:=bR1.lt
  go_upto_region 16 with fail
  have hneW:w.heap.size≠w1.heap.size+1:=by omega
  have hneV:w1.heap.size≠w1.heap.size+1:=by omega
  have hWW:Ext w ((((w2.setCell ⟨w1.heap.size+1,0,none⟩ (.int .i64 x)).setCell ⟨w1.heap.size+1,1,none⟩ (.int .i64 y)).setCell ⟨w1.heap.size+1,2,none⟩ (.int .i64 z)).setCell ⟨w1.heap.size+1,3,none⟩ (.string ⟨#[]⟩)):=Ext.ad
  have bTW:=(((bT.set 0 (.int .i64 x)).set 1 (.int .i64 y)).set 2 (.int .i64 z)).set 3 (.string ⟨#[]⟩)
  have bVW:=bV.far4 hneV (.int .i64 x) (.int .i64 y) (.int .i64 z) (.string ⟨#[]⟩)
  have bRW:=bR2.far4 hneW (.int .i64 x) (.int .i64 y) (.int .i64 z) (.string ⟨#[]⟩)
  clear bT bV bR2 cV fV zV cT fT zT hxx
  generalize ((((w2.setCell ⟨w1.heap.size+1,0,none⟩ (.int .i64 x)).setCell ⟨w1.heap.size+1,1,none⟩ (.int .i64 y)).setCell ⟨w1.heap.size+1,2,none⟩ (.int .i64 z)).setCell ⟨w1.heap.size+1,3,none⟩ (.string ⟨#[]⟩))=W2 at *
  have cV:=bVW.cell;have zV:=bVW.lt
  have cT:=bTW.cell;have fT:=bTW.free;have zT:=bTW.lt
  go_wp2_with fail
  refine (upTo_any ⟨a1,a2,a3,a⟩ ⟨x,y,z,⟨#[48]⟩⟩ _).mono ?_
  rintro e w3 ⟨rfl,hx3⟩
  have hne:w.heap.size≠w1.heap.size+1:=by omega
  have bR3:=(bRW.far1 hne _).ext hx3
  have hw3:Ext w w3:=Ext.trans Ext.ad hx3
  clear hx3
  have cR:=bR3.cell;have fR:=bR3.free;have zR:=bR3.lt
  go_wp2
  refine bodyPost_ret (v:=.tuple #[spV ⟨true,true,⟨a1,a2,a3,a⟩,⟨x,y,z,⟨#[48]⟩⟩⟩,.int .i64 r2]) (by simp[results,Tryz.results97,go_sem,cR]) rfl ⟨⟨true,true,⟨a1,a2,a3,a⟩,⟨x,y,z,⟨#[48]⟩⟩⟩,r2,HSO.out _ _ ?_,rfl,?_,?_,?_⟩
  ·rw[HB.out,HNV.out]
   try rfl
  ·show a.size<=_
   omega
  ·show (1:Nat)<=_
   omega
  ·exact Ext.ad
 have hia:=nemp_bool hza
 obtain⟨A,hA⟩:∃ A:ByteArray,a++(⟨#[46,48]⟩:ByteArray)=A:=⟨_,rfl⟩
 have hbA:bs A=bs a++[46,48]:=by rw[<-hA,bs_append]
 have hsA:A.size=a.size+2:=by rw[<-hA,ByteArray.size_append];rfl
 have hba:¬ bs a=[]:=fun e=>by have:=bs_length a;rw[e] at this;simp at this;omega
 have hea:early0 ⟨a1,a2,a3,a⟩ (bs a++[46,48])=⟨a1,a2,a3,A⟩:=by
  unfold early0
  rw[<-hbA,mk_bs]
 have HEA:=Hy hea
 have HB:=Hy (behind_early (v:=⟨a1,a2,a3,a⟩) (sg:=61) rfl hba)
 have hsa:a.size<=100000:=by omega
 have hsA2:A.size<=100002:=by omega
 have hsA3:A.size<=s.size+2:=by omega
 have hsA4:a.size<=s.size+2:=by omega
 clear hea hbA hsA hba hsz h1
 have zR1:=bR1.lt
 have zR2:w.heap.size < w1.heap.size+1:=by omega
 have zR3:w.heap.size < w1.heap.size+1+1:=by omega
 have zR4:w.heap.size < w1.heap.size+1+1+1:=by omega
 have nR1:¬ w1.heap.size=w.heap.size:=by omega
 have nR2:¬ w1.heap.size+1=w.heap.size:=by omega
 have nR3:¬ w.heap.size=w1.heap.size:=by omega
 have nR4:¬ w.heap.size=w1.heap.size+1:=by omega
 go_wp2_with fail
 go_region_held3 (fun w'=>w1.heap.size+1 < w'.heap.size∧w'.cell? ⟨w1.heap.size,0,none⟩=some (.int .i64 a1)∧w'.cell? ⟨w1.heap.size,1,none⟩=some (.int .i64 a2)∧w'.cell? ⟨w1.heap.size,2,none⟩=some (.int .i64 a3)∧w'.cell? ⟨w1.heap.size,3,none⟩=some (.string a)∧w'.cell? ⟨w1.heap.size+1,0,none⟩=some (.int .i64 a1)∧w'.cell? ⟨w1.heap.size+1,1,none⟩=some (.int .i64 a2)∧w'.cell? ⟨w1.heap.size+1,2,none⟩=some (.int .i64 a3)∧w'.cell? ⟨w1.heap.size+1,3,none⟩=some (.string A))
  (first|(go_keep;done)|((try go_split_ands);(try dsimp only);(repeat' apply And.intro);all_goals (first|(go_keep;done)|(with_reducible exact hxB.cell (by assumption))|(with_reducible exact hxA.cell (by assumption))|(simp;omega)|((have hq:=hxB.size);(try simp at hq);omega)|((have hq:=hxA.size);(try simp at hq);omega))))
  (first
  | (go_at_call 165;refine (upTo_any ⟨a1,a2,a3,a⟩ ⟨a1,a2,a3,A⟩ _).mono ?_;rintro e wA ⟨rfl,hxA⟩;(obtain⟨hcA,hfA⟩:=hxA.cells);have hzA:=hxA.size;(have zA:w.heap.size < wA.heap.size:=by ((try simp at hzA);omega)))
  | (go_at_call 10;refine (VersionError_any _ _ [⟨a1,a2,a3,A⟩] _ (hg.toGood.ext ?_) ?_ ?_ (by simp)).mono ?_;(next=>exact Ext.trans (Ext.trans hx (Ext.trans Ext.au hxA)) Ext.au);(next=>exact VerS.one (by first|(go_simp;done)|((try go_simp);rw[hcA _ _ (by first|(simp;done)|(simp;omega))];go_simp)) (by first|(go_simp;done)|((try go_simp);rw[hcA _ _ (by first|(simp;done)|(simp;omega))];go_simp)) (by first|(go_simp;done)|((try go_simp);rw[hcA _ _ (by first|(simp;done)|(simp;omega))];go_simp)) (by first|(go_simp;done)|((try go_simp);rw[hcA _ _ (by first|(simp;done)|(simp;omega))];go_simp)));(next=>(intro v hv;rw[List.mem_singleton] at hv;subst hv;show A.size<=2097152;omega));rw[err_one];rintro e wB ⟨rfl,hxB⟩;(obtain⟨hcB,hfB⟩:=hxB.cells);have hzB:=hxB.size;(have zB:w.heap.size < wB.heap.size:=by ((try simp at hzB);omega))))
 all_goals
  have hAB:Ext w1 wB:=Ext.trans (Ext.trans Ext.au hxA) (Ext.trans Ext.au hxB)
  have hwB:Ext w wB:=hx.trans hAB
  have bRB:=bR1.ext hAB
  have cRB:=bRB.cell;have fRB:=bRB.free;have zRB:=bRB.lt
  clear hxA hxB hAB
  go_wp2
  refine bodyPost_ret (v:=.tuple #[spV ⟨true,true,⟨a1,a2,a3,a⟩,⟨a1,a2,a3,A⟩⟩,.int .i64 (checkV a1 a2 a3 (bs A))]) (by simp[results,Tryz.results97,go_sem,cRB]) rfl ⟨⟨true,true,⟨a1,a2,a3,a⟩,⟨a1,a2,a3,A⟩⟩,_,HSO.out _ _ ?_,rfl,hsA4,hsA3,?_⟩
  ·rw[HB.out,HEA.out];rfl
  ·exact Ext.ad
end Go.Proofs.YtmnafaaijglnfaaGreatDoor
