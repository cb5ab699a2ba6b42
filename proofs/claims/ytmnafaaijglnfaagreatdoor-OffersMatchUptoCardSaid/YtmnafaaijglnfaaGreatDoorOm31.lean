/- Contracts of ver.holds and its closures. -/
import Derived.Test.YtmnafaaijglnfaaGreatDoorOm27
import Derived.Test.YtmnafaaijglnfaaGreatDoorOm21
namespace Go.Proofs.YtmnafaaijglnfaaGreatDoor
open Go.RowKit
theorem S_inj {a b:Str} (h:S a=S b):a=b:=by
 unfold S at h
 injection h with h
 rw[<-bs_mk a,h,bs_mk]
def Tells (w:World) (g:Nat) (l:List Se):Prop:=∃ A n c,Blk w g 93 #[.slice A n c]∧l.length=n∧RdE w A l∧n<=2097152∧Asc l
theorem Tells.ext {w w':World} {g:Nat} {l:List Se} (h:Tells w g l) (hx:Ext w w'):Tells w' g l:=by
 obtain⟨A,n,c,h1,h2,h3,h4,h5⟩:=h
 exact⟨A,n,c,h1.ext hx,h2,h3.ext hx,h4,h5⟩
theorem tblN_from {l:List Se} {x u:Str}:∀ N,N<=l.length->tblN l N x=some u->∃ s∈l,u=bs s.v
 | 0,_,h=>by cases h
 | N+1,hN,h=>by
   rw[tblN_succ (show N < l.length by omega)] at h
   dsimp only at h
   by_cases e:x=bs l[N].k
   ·rw[if_pos e] at h
    exact⟨l[N],List.getElem_mem _,(Option.some.inj h).symm⟩
   ·rw[if_neg e] at h
    exact tblN_from N (by omega) h
theorem tbl_size {l:List Se} (hs:SmallE l) {x:Str} {u:ByteArray} (h:tbl l x=some (bs u)):u.size<=2097152:=by
 obtain⟨s,hm,e⟩:=tblN_from l.length (Nat.le_refl _) h
 rw[bs_inj e]
 exact (hs s hm).2
theorem tell_any (g:Nat) (l:List Se) (key:ByteArray) (w:World) (h:Tells w g l) :
 Calls Tryz.prog 250 #[.string key,.pointer (some ⟨g,0,none⟩)] w fun e w'=>e=.returned (.tuple #[S ((tbl l (bs key)).getD []),.bool (tbl l (bs key)).isSome])∧Ext w w':=by
 obtain⟨A,n,c,hb,hn,hr,hl,ha⟩:=h
 have CV:=Hy (valueOf_any A n c l key w hn hr hl ha)
 have c0:=hb.cell;have l0:=hb.lt
 clear hn hr ha
 generalize tbl l (bs key)=o at *
 go_enter Tryz.func250,Tryz.ntmps250
 go_wp2_with fail
 refine CV.out.mono ?_
 rintro e w1 ⟨rfl,hx1⟩
 go_wp2
 go_ret2
 exact⟨rfl,hx1⟩
theorem enters_one:∀ xs w,Sem.run Tryz.prog (callFunc 275 xs) w=.ok (.enter 275 xs) w:=enters_of Tryz.func275 (by kernel_rfl) rfl
theorem enters_not:∀ xs w,Sem.run Tryz.prog (callFunc 276 xs) w=.ok (.enter 276 xs) w:=enters_of Tryz.func276 (by kernel_rfl) rfl
abbrev tellV (g:Nat):Value:=.func (.func 250) #[] #[.pointer (some ⟨g,0,none⟩)]
def HoldsAt (lf ls:List Se) (c:Cd):Prop:=∀ (P:Nat->Prop) (v:Value) (g1 g2:Nat) (w:World),GoodN w->CdIn P w c v->Tells w g1 lf->Tells w g2 ls ->
 Calls Tryz.prog 252 #[v,tellV g1,tellV g2] w fun e w'=>e=.returned (.bool (holdsC (tbl lf) (tbl ls) c))∧Ext w w'
theorem one_any (lf ls:List Se) (c:Cd) (ih:HoldsAt lf ls c) (P:Nat->Prop) (v:Value) (g1 g2 q1 q2:Nat) (w:World) (hg:GoodN w) (hc:CdIn P w c v) (h1:Tells w g1 lf) (h2:Tells w g2 ls)
 (b1:Blk w q1 266 #[tellV g1]) (b2:Blk w q2 266 #[tellV g2]) :
 Calls Tryz.prog 275 #[v,.pointer (some ⟨q1,0,none⟩),.pointer (some ⟨q2,0,none⟩)] w fun e w'=>e=.returned (.bool (holdsC (tbl lf) (tbl ls) c))∧Ext w w':=by
 obtain⟨k,n,x,A,m,cp,rfl⟩:=hc.cells
 have hx0:Ext w (w.alloc (.cells #[.int .i64 k,.string n,.string x,.slice A m cp] 52)):=(Ext.refl w).alloc _
 have CI:=Hy (ih P _ g1 g2 _ (hg.ext hx0) (hc.ext hx0) (h1.ext hx0) (h2.ext hx0))
 have B1:=b1.ext hx0;have B2:=b2.ext hx0
 have c1:=B1.cell;have l1:=B1.lt;have c2:=B2.cell;have l2:=B2.lt
 clear ih hc h1 h2 b1 b2 B1 B2
 generalize holdsC (tbl lf) (tbl ls) c=r at *
 go_enter Tryz.func275,Tryz.ntmps275
 go_wp2_with fail
 refine CI.out.mono ?_
 rintro e w1 ⟨rfl,hx1⟩
 go_wp2
 go_ret
 exact⟨rfl,hx0.trans hx1⟩
theorem not_any (lf ls:List Se) (c:Cd) (ih:HoldsAt lf ls c) (P:Nat->Prop) (v:Value) (g1 g2 q1 q2 q3:Nat) (w:World) (hg:GoodN w) (hc:CdIn P w c v) (h1:Tells w g1 lf) (h2:Tells w g2 ls)
 (b1:Blk w q1 266 #[tellV g1]) (b2:Blk w q2 266 #[tellV g2])
 (b3:Blk w q3 237 #[.func (.func 275) #[] #[.pointer (some ⟨q1,0,none⟩),.pointer (some ⟨q2,0,none⟩)]]) :
 Calls Tryz.prog 276 #[v,.pointer (some ⟨q3,0,none⟩)] w fun e w'=>e=.returned (.bool (!holdsC (tbl lf) (tbl ls) c))∧Ext w w':=by
 obtain⟨k,n,x,A,m,cp,rfl⟩:=hc.cells
 have hx0:Ext w (w.alloc (.cells #[.int .i64 k,.string n,.string x,.slice A m cp] 52)):=(Ext.refl w).alloc _
 have CI:=Hy (one_any lf ls c ih P _ g1 g2 q1 q2 _ (hg.ext hx0) (hc.ext hx0) (h1.ext hx0) (h2.ext hx0) (b1.ext hx0) (b2.ext hx0))
 have B3:=b3.ext hx0
 have c3:=B3.cell;have l3:=B3.lt
 clear ih hc h1 h2 b1 b2 b3 B3
 generalize holdsC (tbl lf) (tbl ls) c=r at *
 go_enter Tryz.func276,Tryz.ntmps276
 go_wp2_with fail
 refine CI.out.mono ?_
 rintro e w1 ⟨rfl,hx1⟩
 go_wp2
 go_ret
 exact⟨rfl,hx0.trans hx1⟩
set_option maxRecDepth 100000 in
set_option maxHeartbeats 16000000 in
theorem holds_step (lf ls:List Se) (k:Int) (n x:ByteArray) (l:List Cd) (hp:partErr k (bs n) (bs x) l.length=0) (hll:l.length<=100000) (hsf:SmallE lf) (_hss:SmallE ls) (ih:∀ c∈l,HoldsAt lf ls c):HoldsAt lf ls (.mk k n x l):=by
 intro P v g1 g2 w hg hc h1 h2
 have hk:=part_kind hp
 have hf:=form_leaf (part_form hp)
 obtain⟨s1,s2⟩:=part_sizes hp
 rw[bs_length] at s1 s2
 obtain⟨A,cp,b,o,rfl,hA,hr⟩:=hc.arg
 obtain⟨W,hW⟩:∃ W,(((w.alloc (.cells #[.int .i64 k,.string n,.string x,.slice A l.length cp] 52)).alloc (.cells #[tellV g1] 266)).alloc (.cells #[tellV g2] 266)).alloc (.cells #[.func (.func 275) #[] #[.pointer (some ⟨w.heap.size+1,0,none⟩),.pointer (some ⟨w.heap.size+1+1,0,none⟩)]] 237)=W:=⟨_,rfl⟩
 have hxW:Ext w W:=by rw[<-hW];exact ((((Ext.refl w).alloc _).alloc _).alloc _).alloc _
 have bX:Blk W w.heap.size 52 #[.int .i64 k,.string n,.string x,.slice A l.length cp]:=by rw[<-hW];exact (((Blk.new w _ _).alloc _).alloc _).alloc _
 have b1:Blk W (w.heap.size+1) 266 #[tellV g1]:=by
  rw[<-hW]
  have:=((Blk.new (w.alloc (.cells #[.int .i64 k,.string n,.string x,.slice A l.length cp] 52)) 266 #[tellV g1]).alloc (.cells #[tellV g2] 266)).alloc (.cells #[.func (.func 275) #[] #[.pointer (some ⟨w.heap.size+1,0,none⟩),.pointer (some ⟨w.heap.size+1+1,0,none⟩)]] 237)
  rwa [World.size_alloc] at this
 have b2:Blk W (w.heap.size+1+1) 266 #[tellV g2]:=by
  rw[<-hW]
  have:=(Blk.new ((w.alloc (.cells #[.int .i64 k,.string n,.string x,.slice A l.length cp] 52)).alloc (.cells #[tellV g1] 266)) 266 #[tellV g2]).alloc (.cells #[.func (.func 275) #[] #[.pointer (some ⟨w.heap.size+1,0,none⟩),.pointer (some ⟨w.heap.size+1+1,0,none⟩)]] 237)
  rwa [World.size_alloc,World.size_alloc] at this
 have b3:Blk W (w.heap.size+1+1+1) 237 #[.func (.func 275) #[] #[.pointer (some ⟨w.heap.size+1,0,none⟩),.pointer (some ⟨w.heap.size+1+1,0,none⟩)]]:=by
  rw[<-hW]
  have:=Blk.new (((w.alloc (.cells #[.int .i64 k,.string n,.string x,.slice A l.length cp] 52)).alloc (.cells #[tellV g1] 266)).alloc (.cells #[tellV g2] 266)) 237 #[.func (.func 275) #[] #[.pointer (some ⟨w.heap.size+1,0,none⟩),.pointer (some ⟨w.heap.size+1+1,0,none⟩)]]
  rwa [World.size_alloc,World.size_alloc,World.size_alloc] at this
 have tF:=fun key=>tell_any g1 lf key W (h1.ext hxW)
 have tS:=fun key=>tell_any g2 ls key W (h2.ext hxW)
 have cX:=bX.cell;have lX:=bX.lt;have c1:=b1.cell;have l1:=b1.lt;have c2:=b2.cell;have l2:=b2.lt;have c3:=b3.cell;have l3:=b3.lt
 have HW:=Hy hW
 have HA:=Hy hA;have HR:=Hy hr;have HIH:=Hy ih;have TF:=Hy tF;have TS:=Hy tS;have HP:=Hy hp;have H1:=Hy h1;have H2:=Hy h2
 clear hA hr ih tF tS hp hc h1 h2 hW
 rcases (show k=1∨(k=2∨k=3)∨k=4∨k=5∨k=6∨k=7∨k=8 by omega) with rfl|h23|rfl|rfl|rfl|rfl|rfl
 ·have HT:=Hy (show holdsC (tbl lf) (tbl ls) (.mk 1 n x l)=true by unfold holdsC;rfl)
  clear hf cX lX c1 l1 c2 l2 c3 l3
  go_enter Tryz.func252,Tryz.ntmps252
  go_wp2
  go_ret
  exact⟨by rw[HT.out];rfl,by rw[<-HW.out] at hxW;exact hxW⟩
 ·rcases h23 with rfl|rfl
  ·have hT:holdsC (tbl lf) (tbl ls) (.mk 2 n x l)=decide (tbl lf (bs n)=some (bs x)):=by unfold holdsC;rfl
   rw[hT]
   have hv:=TF.out n
   generalize tbl lf (bs n)=O at *
   cases O with
   | none =>
     have HV:=Hy hv
     clear hf hv hT
     go_enter Tryz.func252,Tryz.ntmps252
     go_wp2_with fail
     rw[HW.out]
     refine HV.out.mono ?_
     rintro e w1 ⟨rfl,hx1⟩
     have bX1:=bX.ext hx1
     have cX1:=bX1.cell;have lX1:=bX1.lt
     go_wp2
     go_ret
     exact⟨rfl,hxW.trans hx1⟩
   | some s =>
     obtain⟨u,rfl⟩:∃ u:ByteArray,s=bs u:=⟨⟨s.toArray⟩,(bs_mk s).symm⟩
     simp only[Option.isSome_some,Option.getD_some,S_bs] at hv
     have HV:=Hy hv
     clear hf hv hT
     by_cases he:u=x
     ·subst he
      go_enter Tryz.func252,Tryz.ntmps252
      go_wp2_with fail
      rw[HW.out]
      refine HV.out.mono ?_
      rintro e w1 ⟨rfl,hx1⟩
      have bX1:=bX.ext hx1
      have cX1:=bX1.cell;have lX1:=bX1.lt
      go_wp2
      go_ret
      exact⟨by simp,hxW.trans hx1⟩
     ·have he1:¬ u.toList=x.toList:=by rw[str_eq];exact he
      have he2:(u.toList==x.toList)=false:=beq_eq_false_iff_ne.2 he1
      have HNE:=Hy (show decide (some (bs u)=some (bs x))=false from decide_eq_false fun e=>he (bs_inj (Option.some.inj e)))
      go_enter Tryz.func252,Tryz.ntmps252
      go_wp2_with fail
      rw[HW.out]
      refine HV.out.mono ?_
      rintro e w1 ⟨rfl,hx1⟩
      have bX1:=bX.ext hx1
      have cX1:=bX1.cell;have lX1:=bX1.lt
      go_wp2
      go_ret
      exact⟨ret_bool (by rw[HNE.out]),hxW.trans hx1⟩
  ·have hT:holdsC (tbl lf) (tbl ls) (.mk 3 n x l)=decide (tbl ls (bs n)=some (bs x)):=by unfold holdsC;rfl
   rw[hT]
   have hv:=TS.out n
   generalize tbl ls (bs n)=O at *
   cases O with
   | none =>
     have HV:=Hy hv
     clear hf hv hT
     go_enter Tryz.func252,Tryz.ntmps252
     go_wp2_with fail
     rw[HW.out]
     refine HV.out.mono ?_
     rintro e w1 ⟨rfl,hx1⟩
     have bX1:=bX.ext hx1
     have cX1:=bX1.cell;have lX1:=bX1.lt
     go_wp2
     go_ret
     exact⟨rfl,hxW.trans hx1⟩
   | some s =>
     obtain⟨u,rfl⟩:∃ u:ByteArray,s=bs u:=⟨⟨s.toArray⟩,(bs_mk s).symm⟩
     simp only[Option.isSome_some,Option.getD_some,S_bs] at hv
     have HV:=Hy hv
     clear hf hv hT
     by_cases he:u=x
     ·subst he
      go_enter Tryz.func252,Tryz.ntmps252
      go_wp2_with fail
      rw[HW.out]
      refine HV.out.mono ?_
      rintro e w1 ⟨rfl,hx1⟩
      have bX1:=bX.ext hx1
      have cX1:=bX1.cell;have lX1:=bX1.lt
      go_wp2
      go_ret
      exact⟨by simp,hxW.trans hx1⟩
     ·have he1:¬ u.toList=x.toList:=by rw[str_eq];exact he
      have he2:(u.toList==x.toList)=false:=beq_eq_false_iff_ne.2 he1
      have HNE:=Hy (show decide (some (bs u)=some (bs x))=false from decide_eq_false fun e=>he (bs_inj (Option.some.inj e)))
      go_enter Tryz.func252,Tryz.ntmps252
      go_wp2_with fail
      rw[HW.out]
      refine HV.out.mono ?_
      rintro e w1 ⟨rfl,hx1⟩
      have bX1:=bX.ext hx1
      have cX1:=bX1.cell;have lX1:=bX1.lt
      go_wp2
      go_ret
      exact⟨ret_bool (by rw[HNE.out]),hxW.trans hx1⟩
 ·have hT:holdsC (tbl lf) (tbl ls) (.mk 4 n x l)=(tbl ls (bs n)).isSome:=by unfold holdsC;rfl
  rw[hT]
  have hv:=TS.out n
  generalize tbl ls (bs n)=O at *
  have HV:=Hy hv
  clear hf hv hT
  go_enter Tryz.func252,Tryz.ntmps252
  go_wp2_with fail
  rw[HW.out]
  refine HV.out.mono ?_
  rintro e w1 ⟨rfl,hx1⟩
  go_wp2
  go_ret
  exact⟨rfl,hxW.trans hx1⟩
 ·have hx0:(parseR (bs x)).2=0:=part_range HP.out
  have hT:holdsC (tbl lf) (tbl ls) (.mk 5 n x l)=(match tbl lf (bs n) with|some s=>verIn (bs x) s|none=>false):=by unfold holdsC;rfl
  rw[hT]
  have hv:=TF.out n
  have hsz:∀ u:ByteArray,tbl lf (bs n)=some (bs u)->u.size<=2097152:=fun u=>tbl_size hsf
  have HV:=Hy hv;have HSZ:=Hy hsz;have HX0:=Hy hx0
  clear hf hv hT hsz hx0
  obtain⟨u,hu,hus⟩:∃ u:ByteArray,S ((tbl lf (bs n)).getD [])=.string u∧u.size<=2097152:=by
   cases hO:tbl lf (bs n) with
   | none=>exact⟨⟨#[]⟩,rfl,by decide⟩
   | some s =>
     obtain⟨ub,rfl⟩:∃ ub:ByteArray,s=bs ub:=⟨⟨s.toArray⟩,(bs_mk s).symm⟩
     exact⟨ub,by rw[Option.getD_some,S_bs],HSZ.out ub hO⟩
  have HU:=Hy (show tbl lf (bs n)=if (tbl lf (bs n)).isSome=true then some (bs u) else none by
   cases hO:tbl lf (bs n) with
   | none=>rfl
   | some s =>
     rw[hO,Option.getD_some] at hu
     rw[Option.isSome_some,if_pos rfl]
     have:S s=S (bs u):=by rw[hu,S_bs]
     exact congrArg some (S_inj this))
  have hv:=HV.out
  rw[hu] at hv
  have HV2:=Hy hv
  have HRES:=Hy (show (match tbl lf (bs n) with|some s=>verIn (bs x) s|none=>false)=((tbl lf (bs n)).isSome&&verIn (bs x) (bs u)) by
   have e:=HU.out
   cases hO:tbl lf (bs n) with
   | none=>rfl
   | some s =>
     rw[hO,Option.isSome_some,if_pos rfl] at e
     rw[Option.some.inj e]
     rfl)
  rw[HRES.out]
  clear hv hu HSZ HV HU HRES
  generalize (tbl lf (bs n)).isSome=ok at *
  have CP:=Hy (fun W' (h:Ext w W')=>Parse_x u W' (hg.ext h) hus)
  obtain⟨⟨rl,re⟩,hpr⟩:∃ q,parseR (bs x)=q:=⟨_,rfl⟩
  have CR:=Hy (show ∀ W',Ext w W'->Calls Tryz.prog 31 #[.string x] W' (RangePost (rl,re) W') from fun W' h=>by
   have:=ParseRange_any x W' (hg.ext h) (by omega)
   rw[hpr] at this
   exact this)
  have HX:=HX0.out
  have hrl:=Hy (parse_len (bs x))
  rw[hpr] at HX hrl
  dsimp only at HX hrl
  subst HX
  have HVI:verIn (bs x) (bs u)=(decide ((pV (bs u)).2=0)&&hasL (parseR (bs x)).1 (pV (bs u)).1):=rfl
  rw[HVI]
  clear HVI
  obtain⟨RES,hRES⟩:∃ RES,(ok&&(decide ((pV (bs u)).2=0)&&hasL rl (pV (bs u)).1))=RES:=⟨_,rfl⟩
  rw[hpr]
  dsimp only
  rw[hRES]
  clear hpr
  have HRS:=Hy hRES
  clear hRES
  go_enter Tryz.func252,Tryz.ntmps252
  go_wp2_with fail
  rw[HW.out]
  refine HV2.out.mono ?_
  rintro e w1 ⟨rfl,hx1⟩
  have hxa:=hxW.trans hx1
  have bX1:=bX.ext hx1
  go_wp2_with fail
  refine (CP.out _ hxa).mono ?_
  rintro e w2 ⟨v,r,hpv,rfl,hvz,hx2⟩
  have bX2:=bX1.ext hx2
  have cX2:=bX2.cell;have lX2:=bX2.lt
  have hxb:=hxa.trans hx2
  have hvs:v.a.size<=2097152:=by omega
  have HPV:=Hy hpv
  have bV:=Blk.new w2 23 #[.int .i64 v.a1,.int .i64 v.a2,.int .i64 v.a3,.string v.a]
  obtain⟨v1,v2,v3,va⟩:=v
  dsimp only[verV] at bV hvs
  clear hpv cX lX
  have hxc:=hxb.alloc (.cells #[.int .i64 v1,.int .i64 v2,.int .i64 v3,.string va] 23)
  go_wp2_with fail
  refine (CR.out _ hxc).mono ?_
  rintro e w3 ⟨A3,c3',rfl,hr3,hs3,hx3⟩
  dsimp only at hr3 hs3
  have hxd:=hxc.trans hx3
  have bV3:=bV.ext hx3
  have bR:=Blk.new w3 42 #[.slice A3 rl.length c3']
  have bV4:=bV3.alloc (.cells #[.slice A3 rl.length c3'] 42)
  have hxe:=hxd.alloc (.cells #[.slice A3 rl.length c3'] 42)
  have CH:=Hy (has_any A3 rl.length c3' rl ⟨v1,v2,v3,va⟩ _ (hg.toGood.ext hxe) rfl (hr3.ext ((Ext.refl w3).alloc _)) hs3 (by have:=hrl.out;omega) hvs)
  have cV4:=bV4.cell;have lV4:=bV4.lt;have cR:=bR.cell;have lR:=bR.lt
  clear hr3 hs3 cX2 lX2
  have hres:=HRS.out
  rw[HPV.out] at hres
  dsimp only at hres
  have HRS2:=Hy hres
  clear hres HRS HPV
  generalize hasL rl ⟨v1,v2,v3,va⟩=H at *
  by_cases hr0:r=0
  ·subst hr0
   cases ok
   ·go_wp2
    go_ret
    exact⟨ret_bool (by rw[<-HRS2.out];simp),hxe⟩
   ·go_wp2_with fail
    refine CH.out.mono ?_
    rintro e w4 ⟨rfl,hx4⟩
    go_wp2
    go_ret
    exact⟨ret_bool (by rw[<-HRS2.out];simp),hxe.trans hx4⟩
  ·have hr1:(r==0)=false:=beq_eq_false_iff_ne.2 hr0
   cases ok
   ·go_wp2
    go_ret
    exact⟨ret_bool (by rw[<-HRS2.out];simp),hxe⟩
   ·go_wp2
    go_ret
    exact⟨ret_bool (by rw[<-HRS2.out];simp[hr0]),hxe⟩
 ·have hl1:=hf.2.2.2 rfl
  match l,hl1 with
  | [c],_ =>
    have hT:holdsC (tbl lf) (tbl ls) (.mk 6 n x [c])=!(holdsC (tbl lf) (tbl ls) c):=by
     rw[show holdsC (tbl lf) (tbl ls) (.mk 6 n x [c])=!((holdsCs (tbl lf) (tbl ls) [c]).headD false) from by unfold holdsC;rfl]
     simp[holdsCs]
    rw[hT]
    obtain rfl:=HA.out (by simp)
    obtain⟨ck,cn,cx,cA,cm,ccp,x0,x1,x2,x3,hcd⟩:=HR.out.ext hxW 0 (by simp)
    simp only[Nat.zero_mul,Nat.add_zero,List.length_cons,List.length_nil,Nat.zero_add] at x0 x1 x2 x3 cX
    have lb:=lt_of_cell x0
    have CO:=Hy (fun W' (h:Ext W W')=>one_any lf ls c (HIH.out c (by simp)) P _ g1 g2 _ _ W' (hg.ext (hxW.trans h)) (hcd.ext h) (H1.out.ext (hxW.trans h)) (H2.out.ext (hxW.trans h)) (b1.ext h) (b2.ext h))
    generalize holdsC (tbl lf) (tbl ls) c=r at *
    clear hf hcd hT b1 b2 b3 bX hll
    go_enter Tryz.func252,Tryz.ntmps252
    go_wp2_with fail
    have hW:=HW.out
    simp only[List.length_cons,List.length_nil,Nat.zero_add] at hW
    rw[hW]
    refine wp_region_ext (by kernel_rfl) (by kernel_rfl) ?_
    repeat (first|go_big_quiet_skip|(refine wpQuiet_step (fun K hK=>?_);go_simp;first|(refine hK _ ?_;clear hK K)|(apply Exists.intro;refine⟨fun wq hwq=>?_,hK _ ?_⟩;(obtain⟨hqc,hqf⟩:=hwq.cells;have hqs:=hwq.size;(try go_simp);first|rfl|((first|rw[if_neg (by omega)]|rw[if_pos (by omega)]);(try go_simp);rfl)|((go_at_call 275;exact (CO.out _ hwq).mono (fun e w'' h=>⟨h.1,hwq.trans h.2⟩))));clear hK K)))
    refine wpQuiet_nil ?_
    intro wN hxN
    obtain⟨hcN,hfN⟩:=hxN.cells
    have hsN:=hxN.size
    go_wp2
    go_ret
    exact⟨rfl,hxW.trans hxN⟩
 ·have hT:=holds_all (tbl lf) (tbl ls) n x l
  rw[hT]
  have CC:=Hy (ContainsFuncC_any A cp b o P l 276 #[.pointer (some ⟨w.heap.size+1+1+1,0,none⟩)] (fun c=>!holdsC (tbl lf) (tbl ls) c) W HA.out (HR.out.ext hxW) (by omega) enters_not
   (fun j hj v W' hv h=>not_any lf ls l[j] (HIH.out _ (List.getElem_mem hj)) P v g1 g2 _ _ _ W' (hg.ext (hxW.trans h)) hv (H1.out.ext (hxW.trans h)) (H2.out.ext (hxW.trans h)) (b1.ext h) (b2.ext h) (b3.ext h)))
  generalize (l.any fun c=>!holdsC (tbl lf) (tbl ls) c)=r at *
  clear hf hT b1 b2 b3 bX
  go_enter Tryz.func252,Tryz.ntmps252
  go_wp2_with fail
  rw[HW.out]
  refine CC.out.mono ?_
  rintro e w1 ⟨rfl,hx1⟩
  go_wp2
  go_ret
  exact⟨rfl,hxW.trans hx1⟩
 ·have hT:=holds_some (tbl lf) (tbl ls) n x l
  rw[hT]
  have CC:=Hy (ContainsFuncC_any A cp b o P l 275 #[.pointer (some ⟨w.heap.size+1,0,none⟩),.pointer (some ⟨w.heap.size+1+1,0,none⟩)] (fun c=>holdsC (tbl lf) (tbl ls) c) W HA.out (HR.out.ext hxW) (by omega) enters_one
   (fun j hj v W' hv h=>one_any lf ls l[j] (HIH.out _ (List.getElem_mem hj)) P v g1 g2 _ _ W' (hg.ext (hxW.trans h)) hv (H1.out.ext (hxW.trans h)) (H2.out.ext (hxW.trans h)) (b1.ext h) (b2.ext h)))
  generalize (l.any fun c=>holdsC (tbl lf) (tbl ls) c)=r at *
  clear hf hT b1 b2 b3 bX
  go_enter Tryz.func252,Tryz.ntmps252
  go_wp2_with fail
  rw[HW.out]
  refine CC.out.mono ?_
  rintro e w1 ⟨rfl,hx1⟩
  go_wp2
  go_ret
  exact⟨rfl,hxW.trans hx1⟩
theorem holds_any (lf ls:List Se) (hsf:SmallE lf) (hss:SmallE ls):∀ (m:Nat) (c:Cd),OkD m c->cnt c<=10000->HoldsAt lf ls c:=by
 intro m
 induction m with
 | zero =>
   intro c h hc
   obtain⟨k,n,x,l⟩:=c
   have hl:=(form_leaf (part_form h.1)).2.2.1 h.2
   exact holds_step lf ls k n x l h.1 (by omega) hsf hss (fun c hm=>by rw[List.eq_nil_of_length_eq_zero hl] at hm;cases hm)
 | succ m ih =>
   intro c h hc
   obtain⟨k,n,x,l⟩:=c
   have hcl:cnt (.mk k n x l)=1+cnts l:=rfl
   have:=cntz_len l
   exact holds_step lf ls k n x l h.1 (by omega) hsf hss (fun c hm=>ih c (h.2 c hm) (by have:=cnts_mem' hm;omega))
end Go.Proofs.YtmnafaaijglnfaaGreatDoor
