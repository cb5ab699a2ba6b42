/- Contracts of ver.behind, spanOf. Contract of ver.ParseRange: the walk. -/
import Derived.Test.YtmpccllnpcbgcaaGreatDoorPk09
namespace Go.Proofs.YtmpccllnpcbgcaaGreatDoor
section
open Go.RowKit
def BehindPost (v:V4) (sg:UInt8) (w:World) (E:Ending) (w':World):Prop :=
 ∃ u r,behindL v sg=(u,r)∧E=.returned (.tuple #[verV u,.int .i64 r])∧u.a.size<=v.a.size+2∧Ext w w'
theorem u8_true {c:UInt8} (n:Nat) (h:n < 256) (e:c=UInt8.ofNat n):(((c.toNat:Nat):Int)==(n:Int))=true:=by rw[cast_beq c n h,e];simp
theorem u8_false {c:UInt8} (n:Nat) (h:n < 256) (e:¬ c=UInt8.ofNat n):(((c.toNat:Nat):Int)==(n:Int))=false:=by rw[cast_beq c n h];simpa using e
theorem behind_early {v:V4} {sg:UInt8} (h:sg=61) (h2:¬ bs v.a=[]):behindL v sg=(early0 v (bs v.a++[46,48]),(early0 v (bs v.a++[46,48])).err):=by
 rw[behindL,if_pos h,if_pos h2]
theorem behind_two {v:V4} {sg:UInt8} (h:sg=61) (h2:bs v.a=[]):behindL v sg=(early0 (nV v 2).1 [48],(nV v 2).2):=by
 rw[behindL,if_pos h,if_neg (by simpa using h2)]
theorem behind_zero {v:V4} {sg:UInt8} (h:¬ sg=61) (h2:sg=94) (h3:¬ v.a1=0):behindL v sg=nV v 0:=by
 rw[behindL,if_neg h,if_pos ⟨h2,h3⟩]
theorem behind_one {v:V4} {sg:UInt8} (h:¬ sg=61) (h2:¬ (sg=94∧¬ v.a1=0)):behindL v sg=nV v 1:=by
 rw[behindL,if_neg h,if_neg h2]
set_option maxHeartbeats 8000000 in
set_option maxRecDepth 100000 in
theorem behind_any (v:V4) (sg:UInt8) (w:World) (hg:Good w) (hs:v.a.size<=1000000) :
 Calls Tryz.prog 165 #[verV v,.int .u8 sg.toNat] w (BehindPost v sg w):=by
 have cN:∀ (part:Int) w',Ext w w'->Calls Tryz.prog 14 #[verV v,.int .i64 part] w' fun e w''=>∃ x y z r,nV v part=(⟨x,y,z,⟨#[]⟩⟩,r)∧e=.returned (.tuple #[verV ⟨x,y,z,⟨#[]⟩⟩,.int .i64 r])∧Ext w' w'' :=
  fun part w' hx=>Next_x v part w' (hg.ext hx) (by omega)
 obtain⟨a1,a2,a3,a⟩:=v
 dsimp only[verV] at cN hs
 have CN:=Hy cN
 clear cN
 dsimp only[verV]
 go_enter Tryz.func165,Tryz.ntmps165
 by_cases h61:sg=61
 ·have e61:(((sg.toNat:Nat):Int)==61)=true:=u8_true 61 (by decide) h61
  rcases Nat.eq_zero_or_pos a.size with hz|hz
  ·have hi:=emp_bool hz
   have HB:=Hy (behind_two (v:=⟨a1,a2,a3,a⟩) h61 (bs_nil hz))
   clear h61
   go_wp2_with fail
   refine (CN.out 2 _ Ext.au).mono ?_
   rintro e w1 ⟨x,y,z,r,hn,rfl,hx1⟩
   have HNV:=Hy hn
   clear hn
   have hx:Ext w w1:=Ext.trans Ext.au hx1
   have bR:=(Blk.new (w.alloc (.cells #[.int .i64 a1,.int .i64 a2,.int .i64 a3,.string a] 23)) 23 #[.int .i64 0,.int .i64 0,.int .i64 0,.string ⟨#[]⟩]).ext hx1
   rw[World.size_alloc] at bR
   have cR:=bR.cell;have fR:=bR.free;have zR:=bR.lt
   clear hx1
   go_wp2
   refine bodyPost_ret (v:=.tuple #[verV ⟨x,y,z,⟨#[48]⟩⟩,.int .i64 r]) (by simp[results,Tryz.results165,go_sem,cR,zR]) rfl ⟨⟨x,y,z,⟨#[48]⟩⟩,r,?_,rfl,?_,?_⟩
   ·rw[HB.out,HNV.out];rfl
   ·show (1:Nat)<=a.size+2
    omega
   ·exact Ext.ad
  ·have hi:=nemp_bool hz
   have hb:¬ bs a=[]:=fun e=>by have:=bs_length a;rw[e] at this;simp at this;omega
   have HB:=Hy (behind_early (v:=⟨a1,a2,a3,a⟩) h61 hb)
   clear h61 hb
   obtain⟨A,hA⟩:∃ A:ByteArray,a++(⟨#[46,48]⟩:ByteArray)=A:=⟨_,rfl⟩
   have hbA:bs A=bs a++[46,48]:=by rw[<-hA,bs_append]
   have hsA:A.size=a.size+2:=by rw[<-hA,ByteArray.size_append];rfl
   have hea:early0 ⟨a1,a2,a3,a⟩ (bs a++[46,48])=⟨a1,a2,a3,A⟩:=by
    unfold early0
    rw[<-hbA,mk_bs]
   have HEA:=Hy hea
   have bR:=Blk.new (w.alloc (.cells #[.int .i64 a1,.int .i64 a2,.int .i64 a3,.string A] 23)) 23 #[.int .i64 0,.int .i64 0,.int .i64 0,.string ⟨#[]⟩]
   rw[World.size_alloc] at bR
   have cK:∀ W w',Ext w W->Ext W w'->Calls Tryz.prog 17 #[.agg #[.int .i64 a1,.int .i64 a2,.int .i64 a3,.string A]] w' fun e w''=>e=.returned (.int .i64 (checkV a1 a2 a3 (bs A)))∧Ext W w'':=fun W w' hx hy =>
    (Check_any a1 a2 a3 A w' (hg.ext (hx.trans hy)) (by omega)).mono fun _ _ h=>⟨h.1,hy.trans h.2⟩
   have CK:=Hy cK
   have HSA:=Hy hsA
   clear cK hea hbA hsA
   go_wp2_with fail
   refine wp_region_ext_tail 3 (by kernel_rfl) (by kernel_rfl) ?_
   simp only[List.take_succ_cons,List.take_zero,List.drop_succ_cons,List.drop_zero]
   repeat (first|go_big_quiet_skip|(refine wpQuiet_step (fun K hK=>?_);go_simp;first|(refine hK _ ?_;clear hK K)|(apply Exists.intro;refine⟨fun wq hwq=>?_,hK _ ?_⟩;(obtain⟨hqc,hqf⟩:=hwq.cells;have hqs:=hwq.size;(try go_simp);first|rfl|((first|rw[if_neg (by omega)]|rw[if_pos (by omega)]);(try go_simp);rfl)|((go_at_call 17;with_reducible exact CK.out _ _ Ext.au hwq)));clear hK K)))
   refine wpQuiet_nil ?_
   intro wN hxN
   obtain⟨hcN,hfN⟩:=hxN.cells
   have hsN:=hxN.size
   have hxWN:Ext w wN:=Ext.trans Ext.au hxN
   have bRN:=bR.ext hxN
   have cRN:=bRN.cell;have fRN:=bRN.free;have zRN:=bRN.lt
   go_wp2
   refine bodyPost_ret (v:=.tuple #[verV ⟨a1,a2,a3,A⟩,.int .i64 (checkV a1 a2 a3 (bs A))]) (by simp[results,Tryz.results165,go_sem,cRN]) rfl ⟨⟨a1,a2,a3,A⟩,_,?_,rfl,?_,?_⟩
   ·rw[HB.out,HEA.out];rfl
   ·show A.size<=a.size+2
    rw[HSA.out];omega
   ·exact Ext.ad
 ·have e61:(((sg.toNat:Nat):Int)==61)=false:=u8_false 61 (by decide) h61
  by_cases h94:sg=94
  ·have e94:(((sg.toNat:Nat):Int)==94)=true:=u8_true 94 (by decide) h94
   by_cases ha:a1=0
   ·have HB:=Hy (behind_one (v:=⟨a1,a2,a3,a⟩) h61 (fun h=>h.2 ha))
    have e0:(a1 != 0)=false:=by rw[ha];rfl
    clear h61 h94 ha
    go_wp2_with fail
    refine (CN.out 1 _ Ext.au).mono ?_
    rintro e w1 ⟨x,y,z,r,hn,rfl,hx1⟩
    have HNV:=Hy hn
    clear hn
    have hx:Ext w w1:=Ext.trans Ext.au hx1
    have bR:=(Blk.new (w.alloc (.cells #[.int .i64 a1,.int .i64 a2,.int .i64 a3,.string a] 23)) 23 #[.int .i64 0,.int .i64 0,.int .i64 0,.string ⟨#[]⟩]).ext hx1
    rw[World.size_alloc] at bR
    have cR:=bR.cell;have fR:=bR.free;have zR:=bR.lt
    clear hx1
    go_wp2
    refine bodyPost_ret (v:=.tuple #[verV ⟨x,y,z,⟨#[]⟩⟩,.int .i64 r]) (by simp[results,Tryz.results165,go_sem,cR]) rfl ⟨⟨x,y,z,⟨#[]⟩⟩,r,?_,rfl,Nat.zero_le _,?_⟩
    ·rw[HB.out,HNV.out]
    ·exact Ext.ad
   ·have HB:=Hy (behind_zero (v:=⟨a1,a2,a3,a⟩) h61 h94 ha)
    have e0:(a1 != 0)=true:=by rw[bne_iff_ne];exact ha
    clear h61 h94
    go_wp2_with fail
    refine (CN.out 0 _ Ext.au).mono ?_
    rintro e w1 ⟨x,y,z,r,hn,rfl,hx1⟩
    have HNV:=Hy hn
    clear hn
    have hx:Ext w w1:=Ext.trans Ext.au hx1
    have bR:=(Blk.new (w.alloc (.cells #[.int .i64 a1,.int .i64 a2,.int .i64 a3,.string a] 23)) 23 #[.int .i64 0,.int .i64 0,.int .i64 0,.string ⟨#[]⟩]).ext hx1
    rw[World.size_alloc] at bR
    have cR:=bR.cell;have fR:=bR.free;have zR:=bR.lt
    clear hx1
    go_wp2
    refine bodyPost_ret (v:=.tuple #[verV ⟨x,y,z,⟨#[]⟩⟩,.int .i64 r]) (by simp[results,Tryz.results165,go_sem,cR]) rfl ⟨⟨x,y,z,⟨#[]⟩⟩,r,?_,rfl,Nat.zero_le _,?_⟩
    ·rw[HB.out,HNV.out]
    ·exact Ext.ad
  ·have e94:(((sg.toNat:Nat):Int)==94)=false:=u8_false 94 (by decide) h94
   have HB:=Hy (behind_one (v:=⟨a1,a2,a3,a⟩) h61 (fun h=>h94 h.1))
   clear h61 h94
   go_wp2_with fail
   refine (CN.out 1 _ Ext.au).mono ?_
   rintro e w1 ⟨x,y,z,r,hn,rfl,hx1⟩
   have HNV:=Hy hn
   clear hn
   have hx:Ext w w1:=Ext.trans Ext.au hx1
   have bR:=(Blk.new (w.alloc (.cells #[.int .i64 a1,.int .i64 a2,.int .i64 a3,.string a] 23)) 23 #[.int .i64 0,.int .i64 0,.int .i64 0,.string ⟨#[]⟩]).ext hx1
   rw[World.size_alloc] at bR
   have cR:=bR.cell;have fR:=bR.free;have zR:=bR.lt
   clear hx1
   go_wp2
   refine bodyPost_ret (v:=.tuple #[verV ⟨x,y,z,⟨#[]⟩⟩,.int .i64 r]) (by simp[results,Tryz.results165,go_sem,cR]) rfl ⟨⟨x,y,z,⟨#[]⟩⟩,r,?_,rfl,Nat.zero_le _,?_⟩
   ·rw[HB.out,HNV.out]
   ·exact Ext.ad
def SpanPost (sg:UInt8) (a b:ByteArray) (w:World) (E:Ending) (w':World):Prop :=
 ∃ (s:Sp) (r:Int),spanL ⟨sg,bs a,bs b⟩=(s,r)∧E=.returned (.tuple #[spV s,.int .i64 r])∧s.f.a.size<=a.size+b.size+2∧s.t.a.size<=a.size+b.size+2∧Ext w w'
theorem span_star {a b:Str}:spanL ⟨42,a,b⟩=(zeroS,0):=by rw[spanL,if_pos rfl]
theorem span_err {sg:UInt8} {a b:Str} {v:V4} {r:Int} (h:¬ sg=42) (hp:pV a=(v,r)) (hr:¬ r=0):spanL ⟨sg,a,b⟩=(zeroS,r):=by
 unfold spanL
 dsimp only
 rw[if_neg h,hp,if_pos hr]
theorem span_gt {a b:Str} {v:V4} (hp:pV a=(v,0)):spanL ⟨62,a,b⟩=(⟨true,false,v,zeroV⟩,0):=by
 unfold spanL
 dsimp only
 rw[if_neg (by decide),hp,if_neg (by simp),if_pos rfl]
theorem span_lt {a b:Str} {v:V4} (hp:pV a=(v,0)):spanL ⟨60,a,b⟩=(⟨false,true,zeroV,v⟩,0):=by
 unfold spanL
 dsimp only
 rw[if_neg (by decide),hp,if_neg (by simp),if_neg (by decide),if_pos rfl]
theorem span_both {a b:Str} {v u:V4} {r:Int} (hp:pV a=(v,0)) (hq:pV b=(u,r)):spanL ⟨98,a,b⟩=(⟨true,true,v,u⟩,r):=by
 unfold spanL
 dsimp only
 rw[if_neg (by decide),hp,if_neg (by simp),if_neg (by decide),if_neg (by decide),if_pos rfl,hq]
theorem span_else {sg:UInt8} {a b:Str} {v u:V4} {r:Int} (h1:¬ sg=42) (h2:¬ sg=62) (h3:¬ sg=60) (h4:¬ sg=98) (hp:pV a=(v,0)) (hq:behindL v sg=(u,r)):spanL ⟨sg,a,b⟩=(⟨true,true,v,u⟩,r):=by
 unfold spanL
 dsimp only
 rw[if_neg h1,hp,if_neg (by simp),if_neg h2,if_neg h3,if_neg h4,hq]
set_option maxHeartbeats 8000000 in
set_option maxRecDepth 100000 in
theorem spanOf_any (sg:UInt8) (a b:ByteArray) (w:World) (hg:GoodN w) (ha:a.size<=100000) (hb:b.size<=100000) :
 Calls Tryz.prog 96 #[itV sg a b] w (SpanPost sg a b w):=by
 dsimp only[itV]
 go_enter Tryz.func96,Tryz.ntmps96
 by_cases h42:sg=42
 ·subst h42
  have e42:((((42:UInt8).toNat:Nat):Int)==42)=true:=by decide
  go_wp2
  refine bodyPost_ret (v:=.tuple #[spV zeroS,.int .i64 0]) (by simp[results,Tryz.results96,go_sem,zeroS,zeroV]) rfl ⟨zeroS,0,span_star,rfl,Nat.zero_le _,Nat.zero_le _,?_⟩
  exact Ext.ad
 have e42:(((sg.toNat:Nat):Int)==42)=false:=u8_false 42 (by decide) h42
 go_wp2_with fail
 refine (Parse_x a _ (hg.ext Ext.au) (by omega)).mono ?_
 rintro e w1 ⟨⟨x,y,z,c⟩,r,hp,rfl,hsz,hx1⟩
 dsimp only at hsz
 have hx:Ext w w1:=Ext.trans Ext.au hx1
 have bI:=((Blk.new w 152 #[.int .u8 sg.toNat,.string a,.string b]).alloc (.cells #[.bool false,.bool false,.int .i64 0,.int .i64 0,.int .i64 0,.string ⟨#[]⟩,.int .i64 0,.int .i64 0,.int .i64 0,.string ⟨#[]⟩] 147)).ext hx1
 have bR:=(Blk.new (w.alloc (.cells #[.int .u8 sg.toNat,.string a,.string b] 152)) 147 #[.bool false,.bool false,.int .i64 0,.int .i64 0,.int .i64 0,.string ⟨#[]⟩,.int .i64 0,.int .i64 0,.int .i64 0,.string ⟨#[]⟩]).ext hx1
 rw[World.size_alloc] at bR
 have cI:=bI.cell;have zI:=bI.lt
 have cR:=bR.cell;have fR:=bR.free;have zR:=bR.lt
 clear hx1
 by_cases hr:r=0
 rotate_left
 ·have HS:=Hy (span_err (b:=bs b) h42 hp hr)
  have hbn:(r != 0)=true:=by rw[bne_iff_ne];exact hr
  clear hr hp
  go_wp2
  refine bodyPost_ret (v:=.tuple #[spV zeroS,.int .i64 r]) (by simp[results,Tryz.results96,go_sem,zeroS,zeroV,cR,zR]) rfl ⟨zeroS,r,HS.out,rfl,Nat.zero_le _,Nat.zero_le _,?_⟩
  exact Ext.ad
 subst hr
 have HP:=Hy hp
 clear hp
 by_cases h62:sg=62
 ·subst h62
  have e62:((((62:UInt8).toNat:Nat):Int)==62)=true:=by decide
  go_wp2
  refine bodyPost_ret (v:=.tuple #[spV ⟨true,false,⟨x,y,z,c⟩,zeroV⟩,.int .i64 0]) (by simp[results,Tryz.results96,go_sem,zeroV,cR,zR]) rfl ⟨⟨true,false,⟨x,y,z,c⟩,zeroV⟩,0,span_gt HP.out,rfl,?_,Nat.zero_le _,?_⟩
  ·show c.size<=_
   omega
  ·exact Ext.ad
 have e62:(((sg.toNat:Nat):Int)==62)=false:=u8_false 62 (by decide) h62
 by_cases h60:sg=60
 ·subst h60
  have e60:((((60:UInt8).toNat:Nat):Int)==60)=true:=by decide
  go_wp2
  refine bodyPost_ret (v:=.tuple #[spV ⟨false,true,zeroV,⟨x,y,z,c⟩⟩,.int .i64 0]) (by simp[results,Tryz.results96,go_sem,zeroV,cR,zR]) rfl ⟨⟨false,true,zeroV,⟨x,y,z,c⟩⟩,0,span_lt HP.out,rfl,Nat.zero_le _,?_,?_⟩
  ·show c.size<=_
   omega
  ·exact Ext.ad
 have e60:(((sg.toNat:Nat):Int)==60)=false:=u8_false 60 (by decide) h60
 by_cases h98:sg=98
 ·subst h98
  have e98:((((98:UInt8).toNat:Nat):Int)==98)=true:=by decide
  go_wp2_with fail
  refine (Parse_x b _ (hg.ext (hx.trans Ext.au)) (by omega)).mono ?_
  rintro e w2 ⟨⟨x2,y2,z2,c2⟩,r2,hp2,rfl,hsz2,hx2⟩
  dsimp only at hsz2
  have hxx:Ext w w2:=hx.trans (Ext.trans Ext.au hx2)
  have bV:=(Blk.new w1 23 #[.int .i64 x,.int .i64 y,.int .i64 z,.string c]).ext hx2
  have bR2:=(bR.alloc _).ext hx2
  have cV:=bV.cell;have zV:=bV.lt
  have cR2:=bR2.cell;have fR2:=bR2.free;have zR2:=bR2.lt
  have HS:=Hy (span_both HP.out hp2)
  clear cI zI cR fR zR hx2 hp2
  go_wp2
  refine bodyPost_ret (v:=.tuple #[spV ⟨true,true,⟨x,y,z,c⟩,⟨x2,y2,z2,c2⟩⟩,.int .i64 r2]) (by simp[results,Tryz.results96,go_sem,cR2,zR2]) rfl ⟨⟨true,true,⟨x,y,z,c⟩,⟨x2,y2,z2,c2⟩⟩,r2,HS.out,rfl,?_,?_,?_⟩
  ·show c.size<=_
   omega
  ·show c2.size<=_
   omega
  ·exact Ext.ad
 have e98:(((sg.toNat:Nat):Int)==98)=false:=u8_false 98 (by decide) h98
 have HSE:=Hy (fun u r2 (hq:behindL ⟨x,y,z,c⟩ sg=(u,r2))=>span_else (b:=bs b) h42 h62 h60 h98 HP.out hq)
 clear h42 h62 h60 h98
 go_wp2_with fail
 refine (behind_any ⟨x,y,z,c⟩ sg _ (hg.ext (hx.trans Ext.au)).toGood (by dsimp only;omega)).mono ?_
 rintro e w2 ⟨⟨x2,y2,z2,c2⟩,r2,hp2,rfl,hsz2,hx2⟩
 dsimp only at hsz2
 have hxx:Ext w w2:=hx.trans (Ext.trans Ext.au hx2)
 have bV:=(Blk.new w1 23 #[.int .i64 x,.int .i64 y,.int .i64 z,.string c]).ext hx2
 have bR2:=(bR.alloc _).ext hx2
 have cV:=bV.cell;have zV:=bV.lt
 have cR2:=bR2.cell;have fR2:=bR2.free;have zR2:=bR2.lt
 have HS:=Hy (HSE.out _ _ hp2)
 clear cI zI cR fR zR hx2 hp2
 go_wp2
 refine bodyPost_ret (v:=.tuple #[spV ⟨true,true,⟨x,y,z,c⟩,⟨x2,y2,z2,c2⟩⟩,.int .i64 r2]) (by simp[results,Tryz.results96,go_sem,cR2,zR2]) rfl ⟨⟨true,true,⟨x,y,z,c⟩,⟨x2,y2,z2,c2⟩⟩,r2,HS.out,rfl,?_,?_,?_⟩
 ·show c.size<=_
  omega
 ·show c2.size<=_
  omega
 ·exact Ext.ad
end
section
open Go.RowKit
def Form (x:ByteArray):Prop:=synL (bs x)=false
theorem forms_succ {xs:List ByteArray} {k:Nat} (h:k < xs.length) (h0:∀ x∈xs.take k,Form x) (h1:Form xs[k]):∀ x∈xs.take (k+1),Form x:=by
 intro x hx
 rw[List.take_succ_eq_append_getElem h,List.mem_append] at hx
 rcases hx with hx|hx
 ·exact h0 x hx
 ·rw[List.mem_singleton] at hx;rw[hx];exact h1
theorem fine_succ {xs:List ByteArray} {k:Nat} (h:k < xs.length) (h0:∀ x∈xs.take k,Fine (spO x)) (h1:Fine (spO xs[k])):∀ x∈xs.take (k+1),Fine (spO x):=by
 intro x hx
 rw[List.take_succ_eq_append_getElem h,List.mem_append] at hx
 rcases hx with hx|hx
 ·exact h0 x hx
 ·rw[List.mem_singleton] at hx;rw[hx];exact h1
abbrev itB (x:ByteArray):List Value:=itC (itemL (bs x)).1
theorem itB_of {x a b:ByteArray} {sg:UInt8} (h:(itemL (bs x)).1=⟨sg,bs a,bs b⟩):itB x=[.int .u8 sg.toNat,.string a,.string b]:=by
 show itC (itemL (bs x)).1=_
 rw[h,itC,S_bs,S_bs]
theorem itB_eq {x a b:ByteArray} {sg:UInt8} {ok:Bool} (h:itemL (bs x)=(⟨sg,bs a,bs b⟩,ok)):itB x=[.int .u8 sg.toNat,.string a,.string b]:=itB_of (by rw[h])
set_option maxHeartbeats 16000000 in
set_option maxRecDepth 100000 in
theorem ParseRange_own (s:ByteArray) (w:World) (hg:GoodN w) (hs:s.size<=2097152) :
 Calls Tryz.prog 31 #[.string s] w (RangePostB (parseR (bs s)) w):=by
 go_enter Tryz.func31,Tryz.ntmps31
 by_cases h1:1000 < s.size
 ·have HP:=Hy (parse_large (s:=bs s) (by rw[bs_length];exact h1))
  go_wp2
  refine bodyPost_ret (v:=.tuple #[.agg #[.slice none 0 0],.int .i64 4]) (by simp[results,Tryz.results31,go_sem]) rfl ?_
  rw[HP.out]
  exact range_noneB Ext.au
 have H1:Hid (¬ 1000 < (bs s).length):=Hy (by rw[bs_length];exact h1)
 by_cases h2:bs s=[110,111,110,101]
 ·have he:(s.toList==[110,111,110,101])=true:=by rw[lit_beq,beq_iff_eq];exact h2
  have HP:=Hy (parse_none H1.out h2)
  clear h2
  go_wp2
  refine bodyPost_ret (v:=.tuple #[.agg #[.slice none 0 0],.int .i64 0]) (by simp[results,Tryz.results31,go_sem]) rfl ?_
  rw[HP.out]
  exact range_noneB Ext.au
 have he:(s.toList==[110,111,110,101])=false:=by rw[lit_beq,beq_eq_false_iff_ne];exact h2
 have H2:=Hy h2
 clear h2
 go_wp2_with fail
 refine (split_g s ⟨#[44,32]⟩ _ (hg.toGood.ext Ext.au) (by omega) (by decide)).mono ?_
 rintro e w1 ⟨b,xs,rfl,hst,hxs,hx0,hxl,hxz,hx1⟩
 have hxw:Ext w w1:=Ext.trans Ext.au hx1
 have bR:=(Blk.new w 42 #[.slice none 0 0]).ext hx1
 have HXS:=Hy hxs
 have HC:=Hy hst.cell
 have HSYN:=Hy (fun k hk hs=>parse_syn (k:=k) H1.out H2.out hxs hk hs)
 clear hxs hst hx1
 go_wp2
 go_loopg [4,25] xs.length (fun g v i wr=>∃ k:Nat,k<=xs.length∧xs.length - k<=g∧i=.int .i64 k∧wr.ownsRow w1.heap.size 152 3 v k ((xs.take k).flatMap itB)∧(∀ x∈xs.take k,Form x)∧Ext w1 wr)
 case atStart=>exact⟨0,Nat.zero_le _,by omega,rfl,World.ownsRow_nil _ _ _ _,by simp,Ext.refl _⟩
 case round =>
  obtain⟨k,hk,hgk,rfl,hown,hform,hxr⟩:=hrel
  have HFORM:=Hy hform
  clear hform
  by_cases hlt:k < xs.length
  ·have hk1:=hxr.cell (HC.out k hlt)
   have hsz:=hxz xs[k] (List.getElem_mem hlt)
   have HNX:=Hy (flat_take_succ itB xs k hlt)
   have HFX:=Hy (forms_succ hlt HFORM.out)
   have HSK:=Hy (HSYN.out k hlt)
   generalize xs[k]=x at *
   go_wp2_with fail
   refine (itemOf_any x _ (hg.toGood.ext (hxw.trans hxr)) (by omega)).mono ?_
   rintro e w2 ⟨sg,a,c,ok,hit,rfl,hsa,hsc,hx2⟩
   have HSY:=Hy (syn_of hit)
   have HIT:=Hy (itB_eq hit)
   clear hit
   have hxr2:=hxr.trans hx2
   have bR2:=bR.ext hxr2
   have cR2:=bR2.cell;have fR2:=bR2.free;have zR2:=bR2.lt
   have hwl:w1.heap.size<=w2.heap.size:=hxr2.size
   have hown2:=own_ext hown hx2
   clear hown hk1
   cases ok
   ·have HP:=Hy (HSK.out (by rw[HSY.out];rfl))
    go_wp2
    refine bodyPost_ret (v:=.tuple #[.agg #[.slice none 0 0],.int .i64 8]) (by simp[results,Tryz.results31,go_sem,cR2,zR2]) rfl ?_
    rw[HP.out]
    have hxx:=hxw.trans hxr2
    exact range_noneB Ext.ad
   -- MORE
   have bI:=Blk.new w2 152 #[.int .u8 sg.toNat,.string a,.string c]
   have hxr3:=hxr2.alloc (.cells #[.int .u8 sg.toNat,.string a,.string c] 152)
   have hown3:=hown2.alloc (.cells #[.int .u8 sg.toNat,.string a,.string c] 152)
   by_cases h42:sg=42
   ·have n42:(((sg.toNat:Nat):Int)==42)=true:=u8_true 42 (by decide) h42
    have n98:(((sg.toNat:Nat):Int)==98)=false:=u8_false 98 (by decide) (by rw[h42];decide)
    have HF:Hid (Form x):=Hy (by unfold Form;rw[HSY.out,h42];rfl)
    have HN:Hid (((sg.toNat:Nat):Int)=42):=Hy (beq_iff_eq.1 n42)
    clear h42
    go_wp2_with (at_builtin;refine wpList_app1g _ _ _ rfl _ _ 150 rfl (.agg #[.int .u8 0,.string ⟨#[]⟩,.string ⟨#[]⟩]) 3 40 Tryz.underlying150 info_item rfl (by decide) (by decide) w1.heap.size _ k _ rfl (hown2.alloc _) _ _ rfl (by simp) rfl (by simp[Value.oneCell']) (by omega) (Ext.size (hxr2.alloc _)) ?_;intro v' w5 hown5 hx5 _)
    go_roundg (xs.length - (k+1))
    case rel=>exact⟨k+1,by omega,Nat.le_refl _,by go_num,by rw[<-HNX.out,HIT.out];first|exact hown5|(rw[HN.out];exact hown5),HFX.out HF.out,hx5 _ (hxr2.alloc _) (Nat.le_refl _)⟩
    case measure=>omega
   have n42:(((sg.toNat:Nat):Int)==42)=false:=u8_false 42 (by decide) h42
   have m42:(((sg.toNat:Nat):Int) != 42)=true:=by rw[bne,n42];rfl
   have e42:¬ ((sg.toNat:Nat):Int)=42:=beq_eq_false_iff_ne.1 n42
   have s42:(sg != 42)=true:=by simpa using h42
   have S42:=Hy s42
   clear h42 s42
   go_wp2_with fail
   refine (wrong_any a _ (hg.ext (hxw.trans hxr3)) (by omega)).mono ?_
   rintro e w3 ⟨rfl,hx3⟩
   have bI3:=bI.ext hx3
   have cI:=bI3.cell;have zI:=bI3.lt
   have hxr4:=hxr3.trans hx3
   have hown4:=own_ext hown3 hx3
   have bR3:=bR.ext hxr4
   have cR:=bR3.cell;have fR:=bR3.free;have zR:=bR3.lt
   clear cR2 fR2 zR2
   cases hw1:wrongL (bs a)
   rotate_left
   ·have HP:=Hy (HSK.out (by rw[HSY.out,S42.out];(try dsimp only);rw[hw1];rfl))
    clear hw1
    go_wp2
    refine bodyPost_ret (v:=.tuple #[.agg #[.slice none 0 0],.int .i64 8]) (by simp[results,Tryz.results31,go_sem,cR]) rfl ?_
    rw[HP.out]
    have hxx:=hxw.trans hxr4
    exact range_noneB Ext.ad
   by_cases h98:sg=98
   rotate_left
   ·have n98:(((sg.toNat:Nat):Int)==98)=false:=u8_false 98 (by decide) h98
    have HF:Hid (Form x):=Hy (by
     have s98:(sg==98)=false:=by simpa using h98
     unfold Form;rw[HSY.out];(try dsimp only);rw[hw1,s98];simp)
    clear h98 hw1
    go_wp2_with (at_builtin;refine wpList_app1g _ _ _ rfl _ _ 150 rfl (.agg #[.int .u8 0,.string ⟨#[]⟩,.string ⟨#[]⟩]) 3 40 Tryz.underlying150 info_item rfl (by decide) (by decide) w1.heap.size _ k _ rfl hown4 _ _ rfl (by simp) rfl (by simp[Value.oneCell']) (by omega) (Ext.size hxr4) ?_;intro v' w5 hown5 hx5 _)
    go_roundg (xs.length - (k+1))
    case rel=>exact⟨k+1,by omega,Nat.le_refl _,by go_num,by rw[<-HNX.out,HIT.out];exact hown5,HFX.out HF.out,hx5 _ hxr4 (Nat.le_refl _)⟩
    case measure=>omega
   have n98:(((sg.toNat:Nat):Int)==98)=true:=u8_true 98 (by decide) h98
   have s98:(sg==98)=true:=by simpa using h98
   have HN:Hid (((sg.toNat:Nat):Int)=98):=Hy (beq_iff_eq.1 n98)
   have HW1:=Hy hw1
   have S98:=Hy s98
   clear h98 s98 hw1
   go_wp2_with fail
   refine (wrong_any c _ (hg.ext (hxw.trans hxr4)) (by omega)).mono ?_
   rintro e w4 ⟨rfl,hx4⟩
   have bI4:=bI3.ext hx4
   have hxr5:=hxr4.trans hx4
   have hown5:=own_ext hown4 hx4
   have bR4:=bR3.ext hx4
   clear cI zI cR fR zR
   have cI:=bI4.cell;have zI:=bI4.lt
   have cR:=bR4.cell;have fR:=bR4.free;have zR:=bR4.lt
   cases hw2:wrongL (bs c)
   rotate_left
   ·have HP:=Hy (HSK.out (by rw[HSY.out,S98.out];(try dsimp only);rw[hw2];simp))
    clear hw2
    go_wp2
    refine bodyPost_ret (v:=.tuple #[.agg #[.slice none 0 0],.int .i64 8]) (by simp[results,Tryz.results31,go_sem,cR]) rfl ?_
    rw[HP.out]
    have hxx:=hxw.trans hxr5
    exact range_noneB Ext.ad
   have HF:Hid (Form x):=Hy (by unfold Form;rw[HSY.out,S98.out];(try dsimp only);rw[hw2,HW1.out];simp)
   clear hw2
   go_wp2_with (at_builtin;refine wpList_app1g _ _ _ rfl _ _ 150 rfl (.agg #[.int .u8 0,.string ⟨#[]⟩,.string ⟨#[]⟩]) 3 40 Tryz.underlying150 info_item rfl (by decide) (by decide) w1.heap.size _ k _ rfl hown5 _ _ rfl (by simp) rfl (by simp[Value.oneCell']) (by omega) (Ext.size hxr5) ?_;intro v' w5 hown5 hx5 _)
   go_roundg (xs.length - (k+1))
   case rel=>exact⟨k+1,by omega,Nat.le_refl _,by go_num,by rw[<-HNX.out,HIT.out];first|exact hown5|(rw[HN.out];exact hown5),HFX.out HF.out,hx5 _ hxr5 (Nat.le_refl _)⟩
   case measure=>omega
  ·obtain rfl:k=xs.length:=by omega
   rw[List.take_length] at hown
   have HALLF:∀ x∈xs,Form x:=by have:=HFORM.out;rwa [List.take_length] at this
   obtain⟨g,cc,rfl,hgl,hgB,hgc,hgcell⟩:=own_form hown hx0
   have HPS:=Hy (parse_spans H1.out H2.out HXS.out HALLF)
   have HGC:=Hy hgcell
   clear hgcell HALLF hown HSYN
   have bR1:=bR.ext hxr
   have hxwr:=hxw.trans hxr
   obtain⟨wo,rfl⟩:∃ wo:World,wo=wr:=⟨_,rfl⟩
   go_wp2
   go_loopg [65] xs.length (fun gg i wr=>∃ (k:Nat) (sv:Value),k<=xs.length∧xs.length - k<=gg∧i=.int .i64 k∧Blk wr wo.heap.size 42 #[sv]∧wr.ownsRow (wo.heap.size+1) 147 10 sv k ((xs.take k).flatMap fun x=>spC (spO x).1)∧(∀ x∈xs.take k,Fine (spO x))∧Ext wo wr)
   case atStart=>exact⟨0,.slice none 0 0,Nat.zero_le _,by omega,rfl,Blk.new wo _ _,World.ownsRow_nil _ _ _ _,by simp,(Ext.refl wo).alloc _⟩
   case round =>
    obtain⟨k,sv,hk,hgk2,rfl,hB9,hown,hfine,hxq⟩:=hrel
    have HFINE:=Hy hfine
    clear hfine
    have bRq:=bR1.ext hxq
    have b9c:=hB9.cell;have b9f:=hB9.free;have b9l:=hB9.lt
    by_cases hlt:k < xs.length
    ·have hsz:=hxz xs[k] (List.getElem_mem hlt)
     have hcell:∀ (j:Nat) (u:Value),j < 3->(itB xs[k])[j]?=some u->wr.cell? ⟨g,k * 3+j,none⟩=some u:=fun j u hj hu=>hxq.cell (HGC.out _ u (by rw[flat_get (f:=itB) (m:=3) (fun _=>rfl) xs k j hlt hj];exact hu))
     have HNX:=Hy (flat_take_succ (fun x=>spC (spO x).1) xs k hlt)
     have HFX:=Hy (fine_succ hlt HFINE.out)
     have hbad:¬ (spO xs[k]).2=0->parseR (bs s)=([],(spO xs[k]).2):=fun h=>by
      rw[HPS.out,spans_err (q:=xs.map spO) (k:=k) (by simpa using hlt) (fun y hy=>by
       rw[<-List.map_take] at hy
       obtain⟨z,hz,rfl⟩:=List.mem_map.1 hy
       exact (HFINE.out z hz).1) (by simpa using h)]
      simp
     have HBAD:=Hy hbad
     clear hbad
     generalize xs[k]=x at *
     obtain⟨sg,a,c,hit⟩:∃ (sg:UInt8) (a c:ByteArray),(itemL (bs x)).1=⟨sg,bs a,bs c⟩:=⟨(itemL (bs x)).1.sign,⟨(itemL (bs x)).1.first.toArray⟩,⟨(itemL (bs x)).1.last.toArray⟩,by rw[bs_mk,bs_mk]⟩
     have hil:=item_len (bs x)
     rw[hit,bs_length,bs_length,bs_length] at hil
     obtain⟨hsa,hsc⟩:=hil
     have hitb:itB x=[.int .u8 sg.toNat,.string a,.string c]:=itB_of hit
     rw[hitb] at hcell
     have i0:=hcell 0 _ (by decide) rfl
     have i1:=hcell 1 _ (by decide) rfl
     have i2:=hcell 2 _ (by decide) rfl
     rw[Nat.add_zero] at i0
     have HSO:Hid (spO x=spanL ⟨sg,bs a,bs c⟩):=Hy (by unfold spO;rw[hit])
     clear hcell hit hitb
     go_wp2_with fail
     refine (spanOf_any sg a c _ (hg.ext ((hxwr.trans hxq).trans Ext.au)) (by omega) (by omega)).mono ?_
     rintro e w3 ⟨sp,r,hsp,rfl,hz1,hz2,hx3⟩
     have hxq3:Ext wr w3:=Ext.trans Ext.au hx3
     have HSP:Hid (spO x=(sp,r)):=Hy (HSO.out.trans hsp)
     clear hsp i0 i1 i2
     have hB93:=hB9.ext hxq3
     have hown3:=own_ext hown hxq3
     have bR3:=bRq.ext hxq3
     have cR:=bR3.cell;have fR:=bR3.free;have zR:=bR3.lt
     clear b9c b9f b9l
     have b9c:=hB93.cell;have b9f:=hB93.free;have b9l:=hB93.lt
     by_cases hr:r=0
     rotate_left
     ·have HP:=Hy (HBAD.out (by rw[HSP.out];exact hr))
      have hbn:(r != 0)=true:=by rw[bne_iff_ne];exact hr
      clear hr
      go_wp2
      refine bodyPost_ret (v:=.tuple #[.agg #[.slice none 0 0],.int .i64 r]) (by simp[results,Tryz.results31,go_sem,cR,zR]) rfl ?_
      rw[HP.out,HSP.out]
      have hxx:=(hxwr.trans hxq).trans hxq3
      exact range_noneB Ext.ad
     subst hr
     have HFI:Hid (Fine (spO x)):=Hy (by rw[HSP.out];exact⟨rfl,by dsimp only;omega,by dsimp only;omega⟩)
     have HCL:Hid (spC (spO x).1=spC sp):=Hy (by rw[HSP.out])
     clear hz1 hz2
     obtain⟨hf,ht,⟨f1,f2,f3,fa⟩,⟨t1,t2,t3,ta⟩⟩:=sp
     have hB94:=hB93.alloc (.cells #[.bool hf,.bool ht,.int .i64 f1,.int .i64 f2,.int .i64 f3,.string fa,.int .i64 t1,.int .i64 t2,.int .i64 t3,.string ta] 147)
     have hown4:=hown3.alloc (.cells #[.bool hf,.bool ht,.int .i64 f1,.int .i64 f2,.int .i64 f3,.string fa,.int .i64 t1,.int .i64 t2,.int .i64 t3,.string ta] 147)
     have hx4:=(hxq.trans hxq3).alloc (.cells #[.bool hf,.bool ht,.int .i64 f1,.int .i64 f2,.int .i64 f3,.string fa,.int .i64 t1,.int .i64 t2,.int .i64 t3,.string ta] 147)
     have hsz4:wo.heap.size+1<=(w3.alloc (.cells #[.bool hf,.bool ht,.int .i64 f1,.int .i64 f2,.int .i64 f3,.string fa,.int .i64 t1,.int .i64 t2,.int .i64 t3,.string ta] 147)).heap.size:=by
      have:=hB94.lt;omega
     go_wp2_with (at_builtin;refine wpList_app1g _ _ _ rfl _ _ 40 rfl (.agg #[.bool false,.bool false,.int .i64 0,.int .i64 0,.int .i64 0,.string ⟨#[]⟩,.int .i64 0,.int .i64 0,.int .i64 0,.string ⟨#[]⟩]) 10 88 Tryz.underlying40 info_span rfl (by decide) (by decide) (wo.heap.size+1) _ k _ rfl hown4 _ _ rfl (by simp) rfl (by simp[Value.oneCell']) (by omega) hsz4 ?_;intro v' w5 hown5 hx5 hb5;(obtain⟨g5,c5,hv5,_,_,_,_⟩:=own_form hown5 (by omega));subst hv5;have hB95:=hb5 _ _ _ hB94 (by omega);have b5c:=hB95.cell;have b5f:=hB95.free;have b5l:=hB95.lt)
     go_roundg (xs.length - (k+1))
     case rel=>exact⟨k+1,_,by omega,Nat.le_refl _,by go_num,hB95.set 0 _,by rw[<-HNX.out,HCL.out];exact ownsRow_setCell_below hown5 (by simp) _,HFX.out HFI.out,(hx5 _ hx4 (by omega)).setCell (Nat.le_refl _) _⟩
     case measure=>omega
    ·obtain rfl:k=xs.length:=by omega
     have hl:wr.ownsRow (wo.heap.size+1) 147 10 sv xs.length ((xs.map fun x=>(spO x).1).flatMap spC):=by
      rw[List.take_length] at hown
      rw[List.flatMap_map]
      exact hown
     obtain⟨A,c2,rfl,hrd⟩:=rds_own hl (by simp)
     have HFA:∀ x∈xs,Fine (spO x):=by have:=HFINE.out;rwa [List.take_length] at this
     have hsm:SmallS (xs.map fun x=>(spO x).1):=fun q hq=>by
      obtain⟨x,hx,rfl⟩:=List.mem_map.1 hq
      exact (HFA x hx).2
     have hq0:∀ q∈xs.map spO,q.2=0:=fun q hq=>by
      obtain⟨x,hx,rfl⟩:=List.mem_map.1 hq
      exact (HFA x hx).1
     have hmm:(xs.map spO).map (·.1)=xs.map fun x=>(spO x).1:=by rw[List.map_map];rfl
     have hbad:¬ rngErr (xs.map fun x=>(spO x).1)=0->parseR (bs s)=([],rngErr (xs.map fun x=>(spO x).1)):=fun h=>by
      rw[HPS.out,spans_rng hq0 (by rw[hmm];exact h),hmm]
     have hgood:rngErr (xs.map fun x=>(spO x).1)=0->parseR (bs s)=(xs.map fun x=>(spO x).1,0):=fun h=>by
      rw[HPS.out,spans_ok hq0 (by rw[hmm];exact h),hmm]
     have hll:(xs.map fun x=>(spO x).1).length=xs.length:=by simp
     generalize (xs.map fun x=>(spO x).1)=l at *
     have HBAD:=Hy hbad
     have HGOOD:=Hy hgood
     have HLL:=Hy hll
     have HL:=Hy hl
     clear hbad hgood hmm hq0 HFA hl hown hll
     go_wp2_with fail
     refine (CheckRange_any A xs.length c2 l _ (hg.toGood.ext (hxwr.trans hxq)) HLL.out hrd hsm (by omega)).mono ?_
     rintro e w3 ⟨rfl,hx3⟩
     have hB93:=hB9.ext hx3
     have bR3:=bRq.ext hx3
     clear b9c b9f b9l
     have b9c:=hB93.cell;have b9f:=hB93.free;have b9l:=hB93.lt
     have cR:=bR3.cell;have fR:=bR3.free;have zR:=bR3.lt
     have hxx:=(hxwr.trans hxq).trans hx3
     by_cases hr:rngErr l=0
     ·have HP:=Hy (HGOOD.out hr)
      rw[hr]
      clear hr
      go_wp2
      refine bodyPost_ret (v:=.tuple #[.agg #[.slice A xs.length c2],.int .i64 0]) (by simp[results,Tryz.results31,go_sem,cR]) rfl ?_
      rw[HP.out]
      have hwl:w.heap.size < wo.heap.size+1:=by have:=bR1.lt;omega
      refine⟨A,c2,by rw[<-HLL.out],?_,hsm,Ext.ad⟩
      obtain⟨A',c',e,hrd'⟩:=rdp_own (ownsRow_setCell_below (own_ext HL.out hx3) (a:=⟨w.heap.size,0,none⟩) hwl (.slice A xs.length c2)) HLL.out
      injection e with e
      rw[<-e] at hrd'
      exact fun hne=>by
       obtain⟨b,o,h1,h2,h3⟩:=hrd' hne
       exact⟨b,o,h1,by omega,h3⟩
     ·have HP:=Hy (HBAD.out hr)
      have hbn:(rngErr l != 0)=true:=by rw[bne_iff_ne];exact hr
      clear hr
      go_wp2
      refine bodyPost_ret (v:=.tuple #[.agg #[.slice none 0 0],.int .i64 (rngErr l)]) (by simp[results,Tryz.results31,go_sem,cR]) rfl ?_
      rw[HP.out]
      exact range_noneB Ext.ad
theorem ParseRange_any (s:ByteArray) (w:World) (hg:GoodN w) (hs:s.size<=2097152) :
 Calls Tryz.prog 31 #[.string s] w (RangePost (parseR (bs s)) w):=(ParseRange_own s w hg hs).mono fun _ _ h=>h.weak
end
end Go.Proofs.YtmpccllnpcbgcaaGreatDoor
