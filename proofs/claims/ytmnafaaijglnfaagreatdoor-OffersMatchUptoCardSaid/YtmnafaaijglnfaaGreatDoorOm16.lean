/- Contracts of ver.behind, spanOf. -/
import Derived.Test.YtmnafaaijglnfaaGreatDoorOm14
namespace Go.Proofs.YtmnafaaijglnfaaGreatDoor
open Go.RowKit
def BehindPost (v:V4) (sg:UInt8) (w:World) (E:Ending) (w':World):Prop :=
 ∃ u r,behindL v sg=(u,r)∧E=.returned (.tuple #[verV u,.int .i64 r])∧u.a.size<=v.a.size+2∧Ext w w'
theorem u8_true {c:UInt8} (n:Nat) (h:n < 256) (e:c=UInt8.ofNat n):(((c.toNat:Nat):Int)==(n:Int))=true:=by rw[cast_beq c n h,e];simp
theorem u8_false {c:UInt8} (n:Nat) (h:n < 256) (e:¬ c=UInt8.ofNat n):(((c.toNat:Nat):Int)==(n:Int))=false:=by rw[cast_beq c n h];simpa using e
theorem behind_early {v:V4} {sg:UInt8} (h:sg=61) (h2:¬ bs v.a=[]):behindL v sg=(early0 v (bs v.a++[46,48]),(early0 v (bs v.a++[46,48])).err):=by
 rw[behindL,if_pos h,if_pos h2]
theorem behind_two {v:V4} {sg:UInt8} (h:sg=61) (h2:bs v.a=[]):behindL v sg=(early0 (nV v 2).1 [48],(nV v 2).2):=by
 rw[behindL,if_pos h,if_neg (by simpa using h2)]
theorem behind_zero {v:V4} {sg:UInt8} (h:¬ sg=61) (h2:sg=94) (h3:¬ v.a1=0):behindL v sg=nV v 0:=by
 rw[behindL,if_neg h,if_pos ⟨h2,h3⟩]
theorem behind_one {v:V4} {sg:UInt8} (h:¬ sg=61) (h2:¬ (sg=94∧¬ v.a1=0)):behindL v sg=nV v 1:=by
 rw[behindL,if_neg h,if_neg h2]
set_option maxHeartbeats 8000000 in
set_option maxRecDepth 100000 in
theorem behind_any (v:V4) (sg:UInt8) (w:World) (hg:Good w) (hs:v.a.size<=1000000) :
 Calls Tryz.prog 163 #[verV v,.int .u8 sg.toNat] w (BehindPost v sg w):=by
 have cN:∀ (part:Int) w',Ext w w'->Calls Tryz.prog 14 #[verV v,.int .i64 part] w' fun e w''=>∃ x y z r,nV v part=(⟨x,y,z,⟨#[]⟩⟩,r)∧e=.returned (.tuple #[verV ⟨x,y,z,⟨#[]⟩⟩,.int .i64 r])∧Ext w' w'' :=
  fun part w' hx=>Next_x v part w' (hg.ext hx) (by omega)
 obtain⟨a1,a2,a3,a⟩:=v
 dsimp only[verV] at cN hs
 have CN:=Hy cN
 clear cN
 dsimp only[verV]
 go_enter Tryz.func163,Tryz.ntmps163
 by_cases h61:sg=61
 ·have e61:(((sg.toNat:Nat):Int)==61)=true:=u8_true 61 (by decide) h61
  rcases Nat.eq_zero_or_pos a.size with hz|hz
  ·have hi:=emp_bool hz
   have HB:=Hy (behind_two (v:=⟨a1,a2,a3,a⟩) h61 (bs_nil hz))
   clear h61
   go_wp2_with fail
   refine (CN.out 2 _ Ext.au).mono ?_
   rintro e w1 ⟨x,y,z,r,hn,rfl,hx1⟩
   have HNV:=Hy hn
   clear hn
   have hx:Ext w w1:=Ext.trans Ext.au hx1
   have bR:=(Blk.new (w.alloc (.cells #[.int .i64 a1,.int .i64 a2,.int .i64 a3,.string a] 23)) 23 #[.int .i64 0,.int .i64 0,.int .i64 0,.string ⟨#[]⟩]).ext hx1
   rw[World.size_alloc] at bR
   have cR:=bR.cell;have fR:=bR.free;have zR:=bR.lt
   clear hx1
   go_wp2
   refine bodyPost_ret (v:=.tuple #[verV ⟨x,y,z,⟨#[48]⟩⟩,.int .i64 r]) (by simp[results,Tryz.results163,go_sem,cR,zR]) rfl ⟨⟨x,y,z,⟨#[48]⟩⟩,r,?_,rfl,?_,?_⟩
   ·rw[HB.out,HNV.out];rfl
   ·show (1:Nat)<=a.size+2
    omega
   ·exact Ext.ad
  ·have hi:=nemp_bool hz
   have hb:¬ bs a=[]:=fun e=>by have:=bs_length a;rw[e] at this;simp at this;omega
   have HB:=Hy (behind_early (v:=⟨a1,a2,a3,a⟩) h61 hb)
   clear h61 hb
   obtain⟨A,hA⟩:∃ A:ByteArray,a++(⟨#[46,48]⟩:ByteArray)=A:=⟨_,rfl⟩
   have hbA:bs A=bs a++[46,48]:=by rw[<-hA,bs_append]
   have hsA:A.size=a.size+2:=by rw[<-hA,ByteArray.size_append];rfl
   have hea:early0 ⟨a1,a2,a3,a⟩ (bs a++[46,48])=⟨a1,a2,a3,A⟩:=by
    unfold early0
    rw[<-hbA,mk_bs]
   have HEA:=Hy hea
   have bR:=Blk.new (w.alloc (.cells #[.int .i64 a1,.int .i64 a2,.int .i64 a3,.string A] 23)) 23 #[.int .i64 0,.int .i64 0,.int .i64 0,.string ⟨#[]⟩]
   rw[World.size_alloc] at bR
   have cK:∀ W w',Ext w W->Ext W w'->Calls Tryz.prog 17 #[.agg #[.int .i64 a1,.int .i64 a2,.int .i64 a3,.string A]] w' fun e w''=>e=.returned (.int .i64 (checkV a1 a2 a3 (bs A)))∧Ext W w'':=fun W w' hx hy =>
    (Check_any a1 a2 a3 A w' (hg.ext (hx.trans hy)) (by omega)).mono fun _ _ h=>⟨h.1,hy.trans h.2⟩
   have CK:=Hy cK
   have HSA:=Hy hsA
   clear cK hea hbA hsA
   go_wp2_with fail
   refine wp_region_ext_tail 3 (by kernel_rfl) (by kernel_rfl) ?_
   simp only[List.take_succ_cons,List.take_zero,List.drop_succ_cons,List.drop_zero]
   repeat (first|go_big_quiet_skip|(refine wpQuiet_step (fun K hK=>?_);go_simp;first|(refine hK _ ?_;clear hK K)|(apply Exists.intro;refine⟨fun wq hwq=>?_,hK _ ?_⟩;(obtain⟨hqc,hqf⟩:=hwq.cells;have hqs:=hwq.size;(try go_simp);first|rfl|((first|rw[if_neg (by omega)]|rw[if_pos (by omega)]);(try go_simp);rfl)|((go_at_call 17;with_reducible exact CK.out _ _ Ext.au hwq)));clear hK K)))
   refine wpQuiet_nil ?_
   intro wN hxN
   obtain⟨hcN,hfN⟩:=hxN.cells
   have hsN:=hxN.size
   have hxWN:Ext w wN:=Ext.trans Ext.au hxN
   have bRN:=bR.ext hxN
   have cRN:=bRN.cell;have fRN:=bRN.free;have zRN:=bRN.lt
   go_wp2
   refine bodyPost_ret (v:=.tuple #[verV ⟨a1,a2,a3,A⟩,.int .i64 (checkV a1 a2 a3 (bs A))]) (by simp[results,Tryz.results163,go_sem,cRN]) rfl ⟨⟨a1,a2,a3,A⟩,_,?_,rfl,?_,?_⟩
   ·rw[HB.out,HEA.out];rfl
   ·show A.size<=a.size+2
    rw[HSA.out];omega
   ·exact Ext.ad
 ·have e61:(((sg.toNat:Nat):Int)==61)=false:=u8_false 61 (by decide) h61
  by_cases h94:sg=94
  ·have e94:(((sg.toNat:Nat):Int)==94)=true:=u8_true 94 (by decide) h94
   by_cases ha:a1=0
   ·have HB:=Hy (behind_one (v:=⟨a1,a2,a3,a⟩) h61 (fun h=>h.2 ha))
    have e0:(a1 != 0)=false:=by rw[ha];rfl
    clear h61 h94 ha
    go_wp2_with fail
    refine (CN.out 1 _ Ext.au).mono ?_
    rintro e w1 ⟨x,y,z,r,hn,rfl,hx1⟩
    have HNV:=Hy hn
    clear hn
    have hx:Ext w w1:=Ext.trans Ext.au hx1
    have bR:=(Blk.new (w.alloc (.cells #[.int .i64 a1,.int .i64 a2,.int .i64 a3,.string a] 23)) 23 #[.int .i64 0,.int .i64 0,.int .i64 0,.string ⟨#[]⟩]).ext hx1
    rw[World.size_alloc] at bR
    have cR:=bR.cell;have fR:=bR.free;have zR:=bR.lt
    clear hx1
    go_wp2
    refine bodyPost_ret (v:=.tuple #[verV ⟨x,y,z,⟨#[]⟩⟩,.int .i64 r]) (by simp[results,Tryz.results163,go_sem,cR]) rfl ⟨⟨x,y,z,⟨#[]⟩⟩,r,?_,rfl,Nat.zero_le _,?_⟩
    ·rw[HB.out,HNV.out]
    ·exact Ext.ad
   ·have HB:=Hy (behind_zero (v:=⟨a1,a2,a3,a⟩) h61 h94 ha)
    have e0:(a1 != 0)=true:=by rw[bne_iff_ne];exact ha
    clear h61 h94
    go_wp2_with fail
    refine (CN.out 0 _ Ext.au).mono ?_
    rintro e w1 ⟨x,y,z,r,hn,rfl,hx1⟩
    have HNV:=Hy hn
    clear hn
    have hx:Ext w w1:=Ext.trans Ext.au hx1
    have bR:=(Blk.new (w.alloc (.cells #[.int .i64 a1,.int .i64 a2,.int .i64 a3,.string a] 23)) 23 #[.int .i64 0,.int .i64 0,.int .i64 0,.string ⟨#[]⟩]).ext hx1
    rw[World.size_alloc] at bR
    have cR:=bR.cell;have fR:=bR.free;have zR:=bR.lt
    clear hx1
    go_wp2
    refine bodyPost_ret (v:=.tuple #[verV ⟨x,y,z,⟨#[]⟩⟩,.int .i64 r]) (by simp[results,Tryz.results163,go_sem,cR]) rfl ⟨⟨x,y,z,⟨#[]⟩⟩,r,?_,rfl,Nat.zero_le _,?_⟩
    ·rw[HB.out,HNV.out]
    ·exact Ext.ad
  ·have e94:(((sg.toNat:Nat):Int)==94)=false:=u8_false 94 (by decide) h94
   have HB:=Hy (behind_one (v:=⟨a1,a2,a3,a⟩) h61 (fun h=>h94 h.1))
   clear h61 h94
   go_wp2_with fail
   refine (CN.out 1 _ Ext.au).mono ?_
   rintro e w1 ⟨x,y,z,r,hn,rfl,hx1⟩
   have HNV:=Hy hn
   clear hn
   have hx:Ext w w1:=Ext.trans Ext.au hx1
   have bR:=(Blk.new (w.alloc (.cells #[.int .i64 a1,.int .i64 a2,.int .i64 a3,.string a] 23)) 23 #[.int .i64 0,.int .i64 0,.int .i64 0,.string ⟨#[]⟩]).ext hx1
   rw[World.size_alloc] at bR
   have cR:=bR.cell;have fR:=bR.free;have zR:=bR.lt
   clear hx1
   go_wp2
   refine bodyPost_ret (v:=.tuple #[verV ⟨x,y,z,⟨#[]⟩⟩,.int .i64 r]) (by simp[results,Tryz.results163,go_sem,cR]) rfl ⟨⟨x,y,z,⟨#[]⟩⟩,r,?_,rfl,Nat.zero_le _,?_⟩
   ·rw[HB.out,HNV.out]
   ·exact Ext.ad
def SpanPost (sg:UInt8) (a b:ByteArray) (w:World) (E:Ending) (w':World):Prop :=
 ∃ (s:Sp) (r:Int),spanL ⟨sg,bs a,bs b⟩=(s,r)∧E=.returned (.tuple #[spV s,.int .i64 r])∧s.f.a.size<=a.size+b.size+2∧s.t.a.size<=a.size+b.size+2∧Ext w w'
theorem span_star {a b:Str}:spanL ⟨42,a,b⟩=(zeroS,0):=by rw[spanL,if_pos rfl]
theorem span_err {sg:UInt8} {a b:Str} {v:V4} {r:Int} (h:¬ sg=42) (hp:pV a=(v,r)) (hr:¬ r=0):spanL ⟨sg,a,b⟩=(zeroS,r):=by
 unfold spanL
 dsimp only
 rw[if_neg h,hp,if_pos hr]
theorem span_gt {a b:Str} {v:V4} (hp:pV a=(v,0)):spanL ⟨62,a,b⟩=(⟨true,false,v,zeroV⟩,0):=by
 unfold spanL
 dsimp only
 rw[if_neg (by decide),hp,if_neg (by simp),if_pos rfl]
theorem span_lt {a b:Str} {v:V4} (hp:pV a=(v,0)):spanL ⟨60,a,b⟩=(⟨false,true,zeroV,v⟩,0):=by
 unfold spanL
 dsimp only
 rw[if_neg (by decide),hp,if_neg (by simp),if_neg (by decide),if_pos rfl]
theorem span_both {a b:Str} {v u:V4} {r:Int} (hp:pV a=(v,0)) (hq:pV b=(u,r)):spanL ⟨98,a,b⟩=(⟨true,true,v,u⟩,r):=by
 unfold spanL
 dsimp only
 rw[if_neg (by decide),hp,if_neg (by simp),if_neg (by decide),if_neg (by decide),if_pos rfl,hq]
theorem span_else {sg:UInt8} {a b:Str} {v u:V4} {r:Int} (h1:¬ sg=42) (h2:¬ sg=62) (h3:¬ sg=60) (h4:¬ sg=98) (hp:pV a=(v,0)) (hq:behindL v sg=(u,r)):spanL ⟨sg,a,b⟩=(⟨true,true,v,u⟩,r):=by
 unfold spanL
 dsimp only
 rw[if_neg h1,hp,if_neg (by simp),if_neg h2,if_neg h3,if_neg h4,hq]
set_option maxHeartbeats 8000000 in
set_option maxRecDepth 100000 in
theorem spanOf_any (sg:UInt8) (a b:ByteArray) (w:World) (hg:GoodN w) (ha:a.size<=100000) (hb:b.size<=100000) :
 Calls Tryz.prog 94 #[itV sg a b] w (SpanPost sg a b w):=by
 dsimp only[itV]
 go_enter Tryz.func94,Tryz.ntmps94
 by_cases h42:sg=42
 ·subst h42
  have e42:((((42:UInt8).toNat:Nat):Int)==42)=true:=by decide
  go_wp2
  refine bodyPost_ret (v:=.tuple #[spV zeroS,.int .i64 0]) (by simp[results,Tryz.results94,go_sem,zeroS,zeroV]) rfl ⟨zeroS,0,span_star,rfl,Nat.zero_le _,Nat.zero_le _,?_⟩
  exact Ext.ad
 have e42:(((sg.toNat:Nat):Int)==42)=false:=u8_false 42 (by decide) h42
 go_wp2_with fail
 refine (Parse_x a _ (hg.ext Ext.au) (by omega)).mono ?_
 rintro e w1 ⟨⟨x,y,z,c⟩,r,hp,rfl,hsz,hx1⟩
 dsimp only at hsz
 have hx:Ext w w1:=Ext.trans Ext.au hx1
 have bI:=((Blk.new w 135 #[.int .u8 sg.toNat,.string a,.string b]).alloc (.cells #[.bool false,.bool false,.int .i64 0,.int .i64 0,.int .i64 0,.string ⟨#[]⟩,.int .i64 0,.int .i64 0,.int .i64 0,.string ⟨#[]⟩] 130)).ext hx1
 have bR:=(Blk.new (w.alloc (.cells #[.int .u8 sg.toNat,.string a,.string b] 135)) 130 #[.bool false,.bool false,.int .i64 0,.int .i64 0,.int .i64 0,.string ⟨#[]⟩,.int .i64 0,.int .i64 0,.int .i64 0,.string ⟨#[]⟩]).ext hx1
 rw[World.size_alloc] at bR
 have cI:=bI.cell;have zI:=bI.lt
 have cR:=bR.cell;have fR:=bR.free;have zR:=bR.lt
 clear hx1
 by_cases hr:r=0
 rotate_left
 ·have HS:=Hy (span_err (b:=bs b) h42 hp hr)
  have hbn:(r != 0)=true:=by rw[bne_iff_ne];exact hr
  clear hr hp
  go_wp2
  refine bodyPost_ret (v:=.tuple #[spV zeroS,.int .i64 r]) (by simp[results,Tryz.results94,go_sem,zeroS,zeroV,cR,zR]) rfl ⟨zeroS,r,HS.out,rfl,Nat.zero_le _,Nat.zero_le _,?_⟩
  exact Ext.ad
 subst hr
 have HP:=Hy hp
 clear hp
 by_cases h62:sg=62
 ·subst h62
  have e62:((((62:UInt8).toNat:Nat):Int)==62)=true:=by decide
  go_wp2
  refine bodyPost_ret (v:=.tuple #[spV ⟨true,false,⟨x,y,z,c⟩,zeroV⟩,.int .i64 0]) (by simp[results,Tryz.results94,go_sem,zeroV,cR,zR]) rfl ⟨⟨true,false,⟨x,y,z,c⟩,zeroV⟩,0,span_gt HP.out,rfl,?_,Nat.zero_le _,?_⟩
  ·show c.size<=_
   omega
  ·exact Ext.ad
 have e62:(((sg.toNat:Nat):Int)==62)=false:=u8_false 62 (by decide) h62
 by_cases h60:sg=60
 ·subst h60
  have e60:((((60:UInt8).toNat:Nat):Int)==60)=true:=by decide
  go_wp2
  refine bodyPost_ret (v:=.tuple #[spV ⟨false,true,zeroV,⟨x,y,z,c⟩⟩,.int .i64 0]) (by simp[results,Tryz.results94,go_sem,zeroV,cR,zR]) rfl ⟨⟨false,true,zeroV,⟨x,y,z,c⟩⟩,0,span_lt HP.out,rfl,Nat.zero_le _,?_,?_⟩
  ·show c.size<=_
   omega
  ·exact Ext.ad
 have e60:(((sg.toNat:Nat):Int)==60)=false:=u8_false 60 (by decide) h60
 by_cases h98:sg=98
 ·subst h98
  have e98:((((98:UInt8).toNat:Nat):Int)==98)=true:=by decide
  go_wp2_with fail
  refine (Parse_x b _ (hg.ext (hx.trans Ext.au)) (by omega)).mono ?_
  rintro e w2 ⟨⟨x2,y2,z2,c2⟩,r2,hp2,rfl,hsz2,hx2⟩
  dsimp only at hsz2
  have hxx:Ext w w2:=hx.trans (Ext.trans Ext.au hx2)
  have bV:=(Blk.new w1 23 #[.int .i64 x,.int .i64 y,.int .i64 z,.string c]).ext hx2
  have bR2:=(bR.alloc _).ext hx2
  have cV:=bV.cell;have zV:=bV.lt
  have cR2:=bR2.cell;have fR2:=bR2.free;have zR2:=bR2.lt
  have HS:=Hy (span_both HP.out hp2)
  clear cI zI cR fR zR hx2 hp2
  go_wp2
  refine bodyPost_ret (v:=.tuple #[spV ⟨true,true,⟨x,y,z,c⟩,⟨x2,y2,z2,c2⟩⟩,.int .i64 r2]) (by simp[results,Tryz.results94,go_sem,cR2,zR2]) rfl ⟨⟨true,true,⟨x,y,z,c⟩,⟨x2,y2,z2,c2⟩⟩,r2,HS.out,rfl,?_,?_,?_⟩
  ·show c.size<=_
   omega
  ·show c2.size<=_
   omega
  ·exact Ext.ad
 have e98:(((sg.toNat:Nat):Int)==98)=false:=u8_false 98 (by decide) h98
 have HSE:=Hy (fun u r2 (hq:behindL ⟨x,y,z,c⟩ sg=(u,r2))=>span_else (b:=bs b) h42 h62 h60 h98 HP.out hq)
 clear h42 h62 h60 h98
 go_wp2_with fail
 refine (behind_any ⟨x,y,z,c⟩ sg _ (hg.ext (hx.trans Ext.au)).toGood (by dsimp only;omega)).mono ?_
 rintro e w2 ⟨⟨x2,y2,z2,c2⟩,r2,hp2,rfl,hsz2,hx2⟩
 dsimp only at hsz2
 have hxx:Ext w w2:=hx.trans (Ext.trans Ext.au hx2)
 have bV:=(Blk.new w1 23 #[.int .i64 x,.int .i64 y,.int .i64 z,.string c]).ext hx2
 have bR2:=(bR.alloc _).ext hx2
 have cV:=bV.cell;have zV:=bV.lt
 have cR2:=bR2.cell;have fR2:=bR2.free;have zR2:=bR2.lt
 have HS:=Hy (HSE.out _ _ hp2)
 clear cI zI cR fR zR hx2 hp2
 go_wp2
 refine bodyPost_ret (v:=.tuple #[spV ⟨true,true,⟨x,y,z,c⟩,⟨x2,y2,z2,c2⟩⟩,.int .i64 r2]) (by simp[results,Tryz.results94,go_sem,cR2,zR2]) rfl ⟨⟨true,true,⟨x,y,z,c⟩,⟨x2,y2,z2,c2⟩⟩,r2,HS.out,rfl,?_,?_,?_⟩
 ·show c.size<=_
  omega
 ·show c2.size<=_
  omega
 ·exact Ext.ad
end Go.Proofs.YtmnafaaijglnfaaGreatDoor
