/- Contract of ver.Holds. Contract of outref2.HoldsOf. slices.DeleteFunc over texts of the call's own. -/
import Derived.Test.YtmpccllnpcbgcaaGreatDoorPk12
import Derived.Test.YtmpccllnpcbgcaaGreatDoorPk23
import Derived.Test.YtmpccllnpcbgcaaGreatDoorPk25
namespace Go.Proofs.YtmpccllnpcbgcaaGreatDoor
section
open Go.RowKit
def holdE (c:Cd) (lf ls:List Se):Int:=firstI [checkC c,seErr nameL lf,seErr pathL ls]
def holdR (c:Cd) (lf ls:List Se):Bool:=if holdE c lf ls=0 then holdsC (tbl lf) (tbl ls) c else false
theorem Holds1_tells (A:Option Addr) (n c:Nat) (l:List Se) (w:World) (hn:l.length=n) (hr:RdE w A l) (hl:n<=2097152) (ha:Asc l) :
 Calls Tryz.prog 259 #[.slice A n c] w fun e w'=>∃ g,e=.returned (tellV g)∧Tells w' g l∧Ext w w':=by
 refine (Holds1_any A n c w).mono ?_
 rintro e w' ⟨rfl,rfl⟩
 exact⟨_,rfl,⟨A,n,c,Blk.new _ _ _,hn,hr.ext ((Ext.refl w).alloc _),hl,ha⟩,(Ext.refl w).alloc _⟩
set_option maxHeartbeats 8000000 in
set_option maxRecDepth 100000 in
theorem Holds_any (A B:Option Addr) (n1 n2 c1 c2:Nat) (lf ls:List Se) (c:Cd) (v:Value) (P:Nat->Prop) (w:World) (hg:GoodN w) (hc:CdIn P w c v) (hsm:SmallC c) (hcnt:cnt c<=100000000)
 (hn1:lf.length=n1) (hr1:RdE w A lf) (hs1:SmallE lf) (hl1:n1<=2097152) (hn2:ls.length=n2) (hr2:RdE w B ls) (hs2:SmallE ls) (hl2:n2<=2097152) :
 Calls Tryz.prog 185 #[v,.slice A n1 c1,.slice B n2 c2] w fun e w'=>e=.returned (.tuple #[.bool (holdR c lf ls),.int .i64 (holdE c lf ls)])∧Ext w w':=by
 obtain⟨k,n,x,A0,m,cp,rfl⟩:=hc.cells
 have hx0:Ext w (w.alloc (.cells #[.int .i64 k,.string n,.string x,.slice A0 m cp] 52)):=(Ext.refl w).alloc _
 have bX:=Blk.new w 52 #[.int .i64 k,.string n,.string x,.slice A0 m cp]
 have CC:=Hy (CheckCond_any c _ _ _ (hg.ext hx0) (hc.ext hx0) hsm hcnt)
 have CF:=Hy (fun W (hx:Ext w W)=>faultF_any A n1 c1 lf W (hg.toGood.ext hx) hn1 (hr1.ext hx) hs1 hl1)
 have CS:=Hy (fun W (hx:Ext w W)=>faultS_any B n2 c2 ls W (hg.toGood.ext hx) hn2 (hr2.ext hx) hs2 hl2)
 have HE:holdE c lf ls=firstI [checkC c,seErr nameL lf,seErr pathL ls]:=rfl
 have HH:=Hy (fun (h0:checkC c=0) W (hx:Ext w W) g1 g2 (t1:Tells W g1 lf) (t2:Tells W g2 ls)=>holds_any lf ls hs1 hs2 100 c (ok_of_check h0) (by
  unfold checkC at h0
  by_cases h1:100 < cnt c
  ·rw[if_pos h1] at h0;cases h0
  ·omega) P _ g1 g2 W (hg.ext hx) (hc.ext hx) t1 t2 |>.mono fun _ _ h=>(⟨h.1,h.2,hx.trans h.2⟩:_∧_∧Ext w _))
 have H1:=Hy (fun (h0:seErr nameL lf=0) W (hx:Ext w W)=>(Holds1_tells A n1 c1 lf W hn1 (hr1.ext hx) hl1 (seErr_asc h0)).mono fun _ _ h=>(match h with|⟨g,a,b,d⟩=>⟨g,a,b,d,hx.trans d⟩:∃ g,_=_∧Tells _ g lf∧Ext W _∧Ext w _))
 have H2:=Hy (fun (h0:seErr pathL ls=0) W (hx:Ext w W)=>(Holds1_tells B n2 c2 ls W hn2 (hr2.ext hx) hl2 (seErr_asc h0)).mono fun _ _ h=>(match h with|⟨g,a,b,d⟩=>⟨g,a,b,d,hx.trans d⟩:∃ g,_=_∧Tells _ g ls∧Ext W _∧Ext w _))
 unfold holdR
 clear hc hsm hn1 hr1 hs1 hn2 hr2 hs2
 generalize holdE c lf ls=E at *
 generalize holdsC (tbl lf) (tbl ls) c=R at *
 generalize checkC c=E0 at *
 generalize seErr nameL lf=E1 at *
 generalize seErr pathL ls=E2 at *
 obtain⟨RV,hRV⟩:∃ RV,(if E=0 then R else false)=RV:=⟨_,rfl⟩
 rw[hRV]
 have HRV:=Hy hRV
 clear hRV
 go_enter Tryz.func185,Tryz.ntmps185
 go_wp2_with fail
 refine CC.out.mono ?_
 rintro e w1 ⟨rfl,hx1⟩
 have hxa:Ext w w1:=hx0.trans hx1
 by_cases h0:E0=0
 rotate_left
 ·have hne:(E0 != 0)=true:=by rw[bne_iff_ne];exact h0
  have e:E=E0:=by rw[HE,firstI,if_neg h0]
  have hrv:RV=false:=by rw[<-HRV.out,if_neg (by rw[e];exact h0)]
  clear HE
  subst hrv
  subst e
  go_wp2
  go_ret2
  exact⟨rfl,hxa⟩
 subst h0
 go_wp2_with fail
 refine (CF.out _ hxa).mono ?_
 rintro e w2 ⟨rfl,hx2⟩
 have hxb:=hxa.trans hx2
 by_cases h1:E1=0
 rotate_left
 ·have hne:(E1 != 0)=true:=by rw[bne_iff_ne];exact h1
  have e:E=E1:=by rw[HE,firstI,if_pos rfl,firstI,if_neg h1]
  have hrv:RV=false:=by rw[<-HRV.out,if_neg (by rw[e];exact h1)]
  clear HE
  subst hrv
  subst e
  go_wp2
  go_ret2
  exact⟨rfl,hxb⟩
 subst h1
 go_wp2_with fail
 refine (CS.out _ hxb).mono ?_
 rintro e w3 ⟨rfl,hx3⟩
 have hxc:=hxb.trans hx3
 by_cases h2:E2=0
 rotate_left
 ·have hne:(E2 != 0)=true:=by rw[bne_iff_ne];exact h2
  have e:E=E2:=by rw[HE,firstI,if_pos rfl,firstI,if_pos rfl,firstI,if_neg h2]
  have hrv:RV=false:=by rw[<-HRV.out,if_neg (by rw[e];exact h2)]
  clear HE
  subst hrv
  subst e
  go_wp2
  go_ret2
  exact⟨rfl,hxc⟩
 subst h2
 have e:E=0:=by rw[HE];rfl
 have hrv:RV=R:=by rw[<-HRV.out,if_pos e]
 subst hrv
 subst e
 have bX3:=((bX.ext hx1).ext hx2).ext hx3
 have d0:w3.cell? ⟨w.heap.size,0,none⟩=some (.int .i64 k):=bX3.cell 0
 have d1:w3.cell? ⟨w.heap.size,1,none⟩=some (.string n):=bX3.cell 1
 have d2:w3.cell? ⟨w.heap.size,2,none⟩=some (.string x):=bX3.cell 2
 have d3:w3.cell? ⟨w.heap.size,3,none⟩=some (.slice A0 m cp):=bX3.cell 3
 have dl:=bX3.lt
 clear CC CF CS bX bX3 HE
 go_wp2_with fail
 go_region_held3 (fun w'=>w'.cell? ⟨w.heap.size,0,none⟩=some (.int .i64 k)∧w'.cell? ⟨w.heap.size,1,none⟩=some (.string n)∧w'.cell? ⟨w.heap.size,2,none⟩=some (.string x)∧w'.cell? ⟨w.heap.size,3,none⟩=some (.slice A0 m cp)) (first|(go_keep;done)|((try go_split_ands);(try dsimp only);(repeat' apply And.intro);all_goals (first|(go_keep;done)|(with_reducible exact hxh.cell (by assumption))|(refine hxh.cell ?_;go_simp))))
  (first
  | (go_at_call 259;refine (H1.out (by trivial) _ Ext.au).mono ?_;rintro e w' ⟨g,rfl,ht,hxh,hab⟩)
  | (go_at_call 259;refine (H2.out (by trivial) _ Ext.au).mono ?_;rintro e w' ⟨g,rfl,ht,hxh,hab⟩)
  | (go_at_call 262;refine (HH.out (by trivial) _ Ext.au _ _ (by first|with_reducible assumption|exact Tells.ext (by with_reducible assumption) (by with_reducible assumption)|exact Tells.ext (by with_reducible assumption) Ext.au) (by first|with_reducible assumption|exact Tells.ext (by with_reducible assumption) (by with_reducible assumption)|exact Tells.ext (by with_reducible assumption) Ext.au)).mono ?_;rintro e w' ⟨rfl,hxh,hab⟩))
 all_goals
  go_wp2
  go_ret2
  refine⟨rfl,?_⟩
  exact Ext.au
end
section
open Go.RowKit
theorem parse_right {s:Str} (h:(parseR s).2=0):rngErr (parseR s).1=0:=by
 unfold parseR at h ⊢
 split
 ·rename_i h1;rw[if_pos h1] at h;cases h
 ·rename_i h1
  rw[if_neg h1] at h
  split
  ·rfl
  ·rename_i h2
   rw[if_neg h2] at h
   split
   ·rename_i h3;rw[if_pos h3] at h;cases h
   ·rename_i h3
    rw[if_neg h3] at h
    unfold spansOf at h ⊢
    split
    ·rename_i h4;rw[if_pos h4] at h;exact absurd h h4
    ·rename_i h4
     rw[if_neg h4] at h
     split
     ·rename_i h5;rw[if_pos h5] at h;exact absurd h h5
     ·rename_i h5
      exact Classical.not_not.1 h5
def HoldsOfAt (F S':Str->Option Str) (c:Cd):Prop:=∀ (P:Nat->Prop) (v:Value) (b1 b2 m1 m2:Nat) (w:World),GoodN w->CdIn P w c v->StrMap w b1 m1 F->StrMap w b2 m2 S' ->
 Calls Tryz.prog 133 #[v,.map (some b1),.map (some b2)] w fun e w'=>e=.returned (.bool (holdsC F S' c))∧Ext w w'
theorem enters_hno:∀ xs w,Sem.run Tryz.prog (callFunc 227 xs) w=.ok (.enter 227 xs) w:=enters_of Tryz.func227 (by kernel_rfl) rfl
theorem enters_hyes:∀ xs w,Sem.run Tryz.prog (callFunc 228 xs) w=.ok (.enter 228 xs) w:=enters_of Tryz.func228 (by kernel_rfl) rfl
theorem hno_any (F S':Str->Option Str) (c:Cd) (ih:HoldsOfAt F S' c) (P:Nat->Prop) (v:Value) (b1 b2 m1 m2 q1 q2:Nat) (w:World) (hg:GoodN w) (hc:CdIn P w c v) (h1:StrMap w b1 m1 F) (h2:StrMap w b2 m2 S')
 (k1:Blk w q1 95 #[.map (some b1)]) (k2:Blk w q2 95 #[.map (some b2)]) :
 Calls Tryz.prog 227 #[v,.pointer (some ⟨q1,0,none⟩),.pointer (some ⟨q2,0,none⟩)] w fun e w'=>e=.returned (.bool (!holdsC F S' c))∧Ext w w':=by
 obtain⟨k,n,x,A,m,cp,rfl⟩:=hc.cells
 have hx0:Ext w (w.alloc (.cells #[.int .i64 k,.string n,.string x,.slice A m cp] 52)):=(Ext.refl w).alloc _
 have CI:=Hy (ih P _ b1 b2 m1 m2 _ (hg.ext hx0) (hc.ext hx0) (h1.ext hx0) (h2.ext hx0))
 have B1:=k1.ext hx0;have B2:=k2.ext hx0
 have c1:=B1.cell;have l1:=B1.lt;have c2:=B2.cell;have l2:=B2.lt
 clear ih hc h1 h2 k1 k2 B1 B2
 generalize holdsC F S' c=r at *
 go_enter Tryz.func227,Tryz.ntmps227
 go_wp2_with fail
 refine CI.out.mono ?_
 rintro e w1 ⟨rfl,hx1⟩
 go_wp2
 go_ret
 exact⟨rfl,hx0.trans hx1⟩
theorem hyes_any (F S':Str->Option Str) (c:Cd) (ih:HoldsOfAt F S' c) (P:Nat->Prop) (v:Value) (b1 b2 m1 m2 q1 q2:Nat) (w:World) (hg:GoodN w) (hc:CdIn P w c v) (h1:StrMap w b1 m1 F) (h2:StrMap w b2 m2 S')
 (k1:Blk w q1 95 #[.map (some b1)]) (k2:Blk w q2 95 #[.map (some b2)]) :
 Calls Tryz.prog 228 #[v,.pointer (some ⟨q1,0,none⟩),.pointer (some ⟨q2,0,none⟩)] w fun e w'=>e=.returned (.bool (holdsC F S' c))∧Ext w w':=by
 obtain⟨k,n,x,A,m,cp,rfl⟩:=hc.cells
 have hx0:Ext w (w.alloc (.cells #[.int .i64 k,.string n,.string x,.slice A m cp] 52)):=(Ext.refl w).alloc _
 have CI:=Hy (ih P _ b1 b2 m1 m2 _ (hg.ext hx0) (hc.ext hx0) (h1.ext hx0) (h2.ext hx0))
 have B1:=k1.ext hx0;have B2:=k2.ext hx0
 have c1:=B1.cell;have l1:=B1.lt;have c2:=B2.cell;have l2:=B2.lt
 clear ih hc h1 h2 k1 k2 B1 B2
 generalize holdsC F S' c=r at *
 go_enter Tryz.func228,Tryz.ntmps228
 go_wp2_with fail
 refine CI.out.mono ?_
 rintro e w1 ⟨rfl,hx1⟩
 go_wp2
 go_ret
 exact⟨rfl,hx0.trans hx1⟩
set_option maxRecDepth 100000 in
set_option maxHeartbeats 16000000 in
theorem holdsOf_step (F S':Str->Option Str) (k:Int) (n x:ByteArray) (l:List Cd) (hp:partErr k (bs n) (bs x) l.length=0) (hll:l.length<=100000) (hsf:∀ y (u:ByteArray),F y=some (bs u)->u.size<=2097152) (ih:∀ c∈l,HoldsOfAt F S' c):HoldsOfAt F S' (.mk k n x l):=by
 intro P v m1 m2 e1 e2 w hg hc h1 h2
 have hk:=part_kind hp
 have hf:=form_leaf (part_form hp)
 obtain⟨s1,s2⟩:=part_sizes hp
 rw[bs_length] at s1 s2
 obtain⟨A,cp,b,o,rfl,hA,hr⟩:=hc.arg
 obtain⟨W,hW⟩:∃ W,((w.alloc (.cells #[.int .i64 k,.string n,.string x,.slice A l.length cp] 52)).alloc (.cells #[.map (some m1)] 95)).alloc (.cells #[.map (some m2)] 95)=W:=⟨_,rfl⟩
 have hxW:Ext w W:=by rw[<-hW];exact (((Ext.refl w).alloc _).alloc _).alloc _
 have bX:Blk W w.heap.size 52 #[.int .i64 k,.string n,.string x,.slice A l.length cp]:=by rw[<-hW];exact ((Blk.new w _ _).alloc _).alloc _
 have b1:Blk W (w.heap.size+1) 95 #[.map (some m1)]:=by
  rw[<-hW]
  have:=(Blk.new (w.alloc (.cells #[.int .i64 k,.string n,.string x,.slice A l.length cp] 52)) 95 #[.map (some m1)]).alloc (.cells #[.map (some m2)] 95)
  rwa [World.size_alloc] at this
 have b2:Blk W (w.heap.size+1+1) 95 #[.map (some m2)]:=by
  rw[<-hW]
  have:=Blk.new ((w.alloc (.cells #[.int .i64 k,.string n,.string x,.slice A l.length cp] 52)).alloc (.cells #[.map (some m1)] 95)) 95 #[.map (some m2)]
  rwa [World.size_alloc,World.size_alloc] at this
 have lF:=(h1.ext hxW).look (t:=95) Tryz.underlying95 n (by omega)
 have lS:=(h2.ext hxW).look (t:=95) Tryz.underlying95 n (by omega)
 have cX:=bX.cell;have lX:=bX.lt;have c1:=b1.cell;have l1:=b1.lt;have c2:=b2.cell;have l2:=b2.lt
 have HW:=Hy hW
 have HA:=Hy hA;have HR:=Hy hr;have HIH:=Hy ih;have HP:=Hy hp;have H1:=Hy h1;have H2:=Hy h2
 clear hA hr ih hp hc h1 h2
 rcases (show k=1∨(k=2∨k=3)∨k=4∨k=5∨k=6∨k=7∨k=8 by omega) with rfl|h23|rfl|rfl|rfl|rfl|rfl
 ·have HT:=Hy (show holdsC F S' (.mk 1 n x l)=true by unfold holdsC;rfl)
  clear hf cX lX c1 l1 c2 l2 lF lS hW
  go_enter Tryz.func133,Tryz.ntmps133
  go_wp2
  go_ret
  exact⟨by rw[HT.out];rfl,by rw[<-HW.out] at hxW;exact hxW⟩
 ·rcases h23 with rfl|rfl
  ·have hT:holdsC F S' (.mk 2 n x l)=decide (F (bs n)=some (bs x)):=by unfold holdsC;rfl
   rw[hT]
   clear lS
   generalize F (bs n)=O at *
   cases O with
   | none =>
     simp only[Option.isSome_none,Option.getD_none] at lF
     rw[<-hW] at lF cX lX c1 l1 c2 l2 hxW
     clear hf hT hW
     go_enter Tryz.func133,Tryz.ntmps133
     go_wp2
     go_ret
     exact⟨rfl,hxW⟩
   | some s =>
     obtain⟨u,rfl⟩:∃ u:ByteArray,s=bs u:=⟨⟨s.toArray⟩,(bs_mk s).symm⟩
     simp only[Option.isSome_some,Option.getD_some,S_bs] at lF
     rw[<-hW] at lF cX lX c1 l1 c2 l2 hxW
     clear hf hT hW
     by_cases he:u=x
     ·subst he
      go_enter Tryz.func133,Tryz.ntmps133
      go_wp2
      go_ret
      exact⟨by simp,hxW⟩
     ·have he1:¬ u.toList=x.toList:=by rw[str_eq];exact he
      have he2:(u.toList==x.toList)=false:=beq_eq_false_iff_ne.2 he1
      have HNE:=Hy (show decide (some (bs u)=some (bs x))=false from decide_eq_false fun e=>he (bs_inj (Option.some.inj e)))
      go_enter Tryz.func133,Tryz.ntmps133
      go_wp2
      go_ret
      exact⟨ret_bool (by rw[HNE.out]),hxW⟩
  ·have hT:holdsC F S' (.mk 3 n x l)=decide (S' (bs n)=some (bs x)):=by unfold holdsC;rfl
   rw[hT]
   clear lF
   generalize S' (bs n)=O at *
   cases O with
   | none =>
     simp only[Option.isSome_none,Option.getD_none] at lS
     rw[<-hW] at lS cX lX c1 l1 c2 l2 hxW
     clear hf hT hW
     go_enter Tryz.func133,Tryz.ntmps133
     go_wp2
     go_ret
     exact⟨rfl,hxW⟩
   | some s =>
     obtain⟨u,rfl⟩:∃ u:ByteArray,s=bs u:=⟨⟨s.toArray⟩,(bs_mk s).symm⟩
     simp only[Option.isSome_some,Option.getD_some,S_bs] at lS
     rw[<-hW] at lS cX lX c1 l1 c2 l2 hxW
     clear hf hT hW
     by_cases he:u=x
     ·subst he
      go_enter Tryz.func133,Tryz.ntmps133
      go_wp2
      go_ret
      exact⟨by simp,hxW⟩
     ·have he1:¬ u.toList=x.toList:=by rw[str_eq];exact he
      have he2:(u.toList==x.toList)=false:=beq_eq_false_iff_ne.2 he1
      have HNE:=Hy (show decide (some (bs u)=some (bs x))=false from decide_eq_false fun e=>he (bs_inj (Option.some.inj e)))
      go_enter Tryz.func133,Tryz.ntmps133
      go_wp2
      go_ret
      exact⟨ret_bool (by rw[HNE.out]),hxW⟩
 ·have hT:holdsC F S' (.mk 4 n x l)=(S' (bs n)).isSome:=by unfold holdsC;rfl
  rw[hT]
  clear lF hf hT
  generalize S' (bs n)=O at *
  rw[<-hW] at lS cX lX c1 l1 c2 l2 hxW
  clear hW
  go_enter Tryz.func133,Tryz.ntmps133
  go_wp2
  go_ret
  exact⟨rfl,hxW⟩
 ·have hx0:(parseR (bs x)).2=0:=part_range HP.out
  have hT:holdsC F S' (.mk 5 n x l)=(match F (bs n) with|some s=>verIn (bs x) s|none=>false):=by unfold holdsC;rfl
  rw[hT]
  clear lS
  have HSZ:=Hy (fun u=>hsf (bs n) u);have HX0:=Hy hx0
  clear hf hT hx0
  obtain⟨u,hu,hus⟩:∃ u:ByteArray,S ((F (bs n)).getD [])=.string u∧u.size<=2097152:=by
   cases hO:F (bs n) with
   | none=>exact⟨⟨#[]⟩,rfl,by decide⟩
   | some s =>
     obtain⟨ub,rfl⟩:∃ ub:ByteArray,s=bs ub:=⟨⟨s.toArray⟩,(bs_mk s).symm⟩
     exact⟨ub,by rw[Option.getD_some,S_bs],HSZ.out ub hO⟩
  have HU:=Hy (show F (bs n)=if (F (bs n)).isSome=true then some (bs u) else none by
   cases hO:F (bs n) with
   | none=>rfl
   | some s =>
     rw[hO,Option.getD_some] at hu
     rw[Option.isSome_some,if_pos rfl]
     have:S s=S (bs u):=by rw[hu,S_bs]
     exact congrArg some (S_inj this))
  rw[hu] at lF
  have HRES:=Hy (show (match F (bs n) with|some s=>verIn (bs x) s|none=>false)=((F (bs n)).isSome&&verIn (bs x) (bs u)) by
   have e:=HU.out
   cases hO:F (bs n) with
   | none=>rfl
   | some s =>
     rw[hO,Option.isSome_some,if_pos rfl] at e
     rw[Option.some.inj e]
     rfl)
  rw[HRES.out]
  clear hu HSZ HU HRES
  generalize (F (bs n)).isSome=ok at *
  have CP:=Hy (fun W' (h:Ext w W')=>Read_x u W' (hg.ext h) hus)
  obtain⟨⟨rl,re⟩,hpr⟩:∃ q,parseR (bs x)=q:=⟨_,rfl⟩
  have CR:=Hy (show ∀ W',Ext w W'->Calls Tryz.prog 33 #[.string x] W' (RangePost (rl,re) W') from fun W' h=>by
   have:=ReadRange_any x W' (hg.ext h) (by omega)
   rw[read_same,hpr] at this
   exact this)
  have HX:=HX0.out
  have hrl:=Hy (parse_len (bs x))
  have HRT:=Hy (parse_right HX)
  rw[hpr] at HX hrl HRT
  dsimp only at HX hrl HRT
  subst HX
  have HVI:verIn (bs x) (bs u)=(decide ((pV (bs u)).2=0)&&hasL (parseR (bs x)).1 (pV (bs u)).1):=rfl
  rw[HVI]
  clear HVI
  obtain⟨RES,hRES⟩:∃ RES,(ok&&(decide ((pV (bs u)).2=0)&&hasL rl (pV (bs u)).1))=RES:=⟨_,rfl⟩
  rw[hpr]
  dsimp only
  rw[hRES]
  clear hpr
  have HRS:=Hy hRES
  clear hRES
  have HPE:=Hy (fun h=>pV_err (l:=bs u) h)
  rw[<-hW] at lF cX lX c1 l1 c2 l2 hxW bX
  clear hW
  go_enter Tryz.func133,Tryz.ntmps133
  go_wp2_with fail
  refine (CP.out _ hxW).mono ?_
  rintro e w2 ⟨v,r,hpv,rfl,hvz,hx2⟩
  have bX2:=bX.ext hx2
  have cX2:=bX2.cell;have lX2:=bX2.lt
  have hxb:=hxW.trans hx2
  have hvs:v.a.size<=2097152:=by omega
  have hpe:=HPE.out
  rw[hpv] at hpe
  have HPV:=Hy hpv
  have bV:=Blk.new w2 23 #[.int .i64 v.a1,.int .i64 v.a2,.int .i64 v.a3,.string v.a]
  obtain⟨v1,v2,v3,va⟩:=v
  dsimp only[verV] at bV hvs hpe
  clear hpv cX lX lF c1 l1 c2 l2
  have hxc:=hxb.alloc (.cells #[.int .i64 v1,.int .i64 v2,.int .i64 v3,.string va] 23)
  go_wp2_with fail
  refine (CR.out _ hxc).mono ?_
  rintro e w3 ⟨A3,c3',rfl,hr3,hs3,hx3⟩
  dsimp only at hr3 hs3
  have hxd:=hxc.trans hx3
  have bV3:=bV.ext hx3
  have bR:=Blk.new w3 42 #[.slice A3 rl.length c3']
  have bV4:=bV3.alloc (.cells #[.slice A3 rl.length c3'] 42)
  have hxe:=hxd.alloc (.cells #[.slice A3 rl.length c3'] 42)
  have CH:=Hy (fun hov=>HasOf_any A3 rl.length c3' rl ⟨v1,v2,v3,va⟩ _ (hg.ext hxe) rfl (hr3.ext ((Ext.refl w3).alloc _)) hs3 (by have:=hrl.out;omega) hvs HRT.out hov)
  have cV4:=bV4.cell;have lV4:=bV4.lt;have cR:=bR.cell;have lR:=bR.lt
  clear hr3 hs3 cX2 lX2
  have hres:=HRS.out
  rw[HPV.out] at hres
  dsimp only at hres
  have HRS2:=Hy hres
  clear hres HRS HPV
  generalize hasL rl ⟨v1,v2,v3,va⟩=H at *
  by_cases hr0:r=0
  ·subst hr0
   have CH2:=Hy (CH.out (hpe rfl))
   clear CH hpe
   cases ok
   ·go_wp2
    go_ret
    exact⟨ret_bool (by rw[<-HRS2.out];simp),hxe⟩
   ·go_wp2_with fail
    refine CH2.out.mono ?_
    rintro e w4 ⟨rfl,hx4⟩
    go_wp2
    go_ret
    exact⟨ret_bool (by rw[<-HRS2.out];simp),hxe.trans hx4⟩
  ·have hr1:(r==0)=false:=beq_eq_false_iff_ne.2 hr0
   clear hpe
   cases ok
   ·go_wp2
    go_ret
    exact⟨ret_bool (by rw[<-HRS2.out];simp),hxe⟩
   ·go_wp2
    go_ret
    exact⟨ret_bool (by rw[<-HRS2.out];simp[hr0]),hxe⟩
 ·have hl1:=hf.2.2.2 rfl
  match l,hl1 with
  | [c],_ =>
    have hT:holdsC F S' (.mk 6 n x [c])=!(holdsC F S' c):=by
     rw[show holdsC F S' (.mk 6 n x [c])=!((holdsCs F S' [c]).headD false) from by unfold holdsC;rfl]
     simp[holdsCs]
    rw[hT]
    obtain rfl:=HA.out (by simp)
    obtain⟨ck,cn,cx,cA,cm,ccp,x0,x1,x2,x3,hcd⟩:=HR.out.ext hxW 0 (by simp)
    simp only[Nat.zero_mul,Nat.add_zero,List.length_cons,List.length_nil,Nat.zero_add] at x0 x1 x2 x3 cX
    have lb:=lt_of_cell x0
    have CO:=Hy (fun W' (h:Ext W W')=>HIH.out c (by simp) P _ m1 m2 e1 e2 W' (hg.ext (hxW.trans h)) (hcd.ext h) (H1.out.ext (hxW.trans h)) (H2.out.ext (hxW.trans h)))
    generalize holdsC F S' c=r at *
    clear hf hcd hT b1 b2 bX hll lF lS hW
    go_enter Tryz.func133,Tryz.ntmps133
    go_wp2_with fail
    have hW:=HW.out
    simp only[List.length_cons,List.length_nil,Nat.zero_add] at hW
    rw[hW]
    refine wp_region_ext (by kernel_rfl) (by kernel_rfl) ?_
    repeat (first|go_big_quiet_skip|(refine wpQuiet_step (fun K hK=>?_);go_simp;first|(refine hK _ ?_;clear hK K)|(apply Exists.intro;refine⟨fun wq hwq=>?_,hK _ ?_⟩;(obtain⟨hqc,hqf⟩:=hwq.cells;have hqs:=hwq.size;(try go_simp);first|rfl|((first|rw[if_neg (by omega)]|rw[if_pos (by omega)]);(try go_simp);rfl)|((go_at_call 133;exact (CO.out _ hwq).mono (fun e w'' h=>⟨h.1,hwq.trans h.2⟩))));clear hK K)))
    refine wpQuiet_nil ?_
    intro wN hxN
    obtain⟨hcN,hfN⟩:=hxN.cells
    have hsN:=hxN.size
    go_wp2
    go_ret
    exact⟨rfl,hxW.trans hxN⟩
 ·have hT:=holds_all F S' n x l
  rw[hT]
  have CC:=Hy (ContainsFuncC_any A cp b o P l 227 #[.pointer (some ⟨w.heap.size+1,0,none⟩),.pointer (some ⟨w.heap.size+1+1,0,none⟩)] (fun c=>!holdsC F S' c) W HA.out (HR.out.ext hxW) (by omega) enters_hno
   (fun j hj v W' hv h=>hno_any F S' l[j] (HIH.out _ (List.getElem_mem hj)) P v m1 m2 e1 e2 _ _ W' (hg.ext (hxW.trans h)) hv (H1.out.ext (hxW.trans h)) (H2.out.ext (hxW.trans h)) (b1.ext h) (b2.ext h)))
  generalize (l.any fun c=>!holdsC F S' c)=r at *
  clear hf hT b1 b2 bX lF lS hW
  go_enter Tryz.func133,Tryz.ntmps133
  go_wp2_with fail
  rw[HW.out]
  refine CC.out.mono ?_
  rintro e w1 ⟨rfl,hx1⟩
  go_wp2
  go_ret
  exact⟨rfl,hxW.trans hx1⟩
 ·have hT:=holds_some F S' n x l
  rw[hT]
  have CC:=Hy (ContainsFuncC_any A cp b o P l 228 #[.pointer (some ⟨w.heap.size+1,0,none⟩),.pointer (some ⟨w.heap.size+1+1,0,none⟩)] (fun c=>holdsC F S' c) W HA.out (HR.out.ext hxW) (by omega) enters_hyes
   (fun j hj v W' hv h=>hyes_any F S' l[j] (HIH.out _ (List.getElem_mem hj)) P v m1 m2 e1 e2 _ _ W' (hg.ext (hxW.trans h)) hv (H1.out.ext (hxW.trans h)) (H2.out.ext (hxW.trans h)) (b1.ext h) (b2.ext h)))
  generalize (l.any fun c=>holdsC F S' c)=r at *
  clear hf hT b1 b2 bX lF lS hW
  go_enter Tryz.func133,Tryz.ntmps133
  go_wp2_with fail
  rw[HW.out]
  refine CC.out.mono ?_
  rintro e w1 ⟨rfl,hx1⟩
  go_wp2
  go_ret
  exact⟨rfl,hxW.trans hx1⟩
theorem holdsOf_any (F S':Str->Option Str) (hsf:∀ y (u:ByteArray),F y=some (bs u)->u.size<=2097152):∀ (m:Nat) (c:Cd),OkD m c->cnt c<=10000->HoldsOfAt F S' c:=by
 intro m
 induction m with
 | zero =>
   intro c h hc
   obtain⟨k,n,x,l⟩:=c
   have hl:=(form_leaf (part_form h.1)).2.2.1 h.2
   exact holdsOf_step F S' k n x l h.1 (by omega) hsf (fun c hm=>by rw[List.eq_nil_of_length_eq_zero hl] at hm;cases hm)
 | succ m ih =>
   intro c h hc
   obtain⟨k,n,x,l⟩:=c
   have hcl:cnt (.mk k n x l)=1+cnts l:=rfl
   have:=cntz_len l
   exact holdsOf_step F S' k n x l h.1 (by omega) hsf (fun c hm=>ih c (h.2 c hm) (by have:=cnts_mem' hm;omega))
end
section
open Go.RowKit
theorem findN_cases (n:Nat) (p:Nat->Bool):(findN n p=-1∧∀ j,j < n->p j=false)∨∃ k,k < n∧findN n p=k∧p k=true∧∀ j,j < k->p j=false:=by
 suffices h:∀ m,m<=n->(∀ j,j < m->p j=false)∨∃ k,k < m∧p k=true∧∀ j,j < k->p j=false by
  rcases h n (Nat.le_refl _) with h|⟨k,hk,h1,h2⟩
  ·exact .inl ⟨findN_none h,h⟩
  ·exact .inr ⟨k,hk,findN_at hk h2 h1,h1,h2⟩
 intro m
 induction m with
 | zero=>exact fun _=>.inl fun j hj=>absurd hj (Nat.not_lt_zero _)
 | succ m ih =>
   intro hm
   rcases ih (by omega) with h|⟨k,hk,h1,h2⟩
   ·cases e:p m with
    | false=>exact .inl (allB_next h e)
    | true=>exact .inr ⟨m,by omega,e,h⟩
   ·exact .inr ⟨k,by omega,h1,h2⟩
namespace RowX
variable {w w':World} {g:Nat} {M:List ByteArray}
theorem rdx (h:RowX w g M):RdX w (some ⟨g,0,none⟩) M:=fun _=>⟨g,0,rfl,fun k hk=>by rw[Nat.zero_add];exact h.c k hk⟩
end RowX
set_option maxHeartbeats 16000000 in
set_option maxRecDepth 100000 in
theorem DeleteX_any (A:Option Addr) (g n c:Nat) (D:List ByteArray) (f:FuncId) (cp:Array Value) (p:ByteArray->Bool) (w:World) (hn:D.length=n) (hA:0 < n->A=some ⟨g,0,none⟩) (hr:RowX w g D) (hl:n<=1000) (hc:n<=c)
 (hen:∀ xs w,Sem.run Tryz.prog (callFunc f xs) w=.ok (.enter f xs) w)
 (hp:∀ x∈D,∀ W,ExtC (·=g) w W->Calls Tryz.prog f (#[.string x]++cp) W fun e w'=>e=.returned (.bool (p x))∧Ext W w') :
 Calls Tryz.prog 134 #[.slice A n c,.func (.func f) #[] cp] w fun e w'=>e=.returned (.slice A (D.filter fun x=>!p x).length c)∧RowX w' g (D.filter fun x=>!p x)∧ExtC (·=g) w w':=by
 have HI:=Hy (show Calls Tryz.prog 229 #[.slice A n c,.func (.func f) #[] cp] w fun e w'=>e=.returned (.int .i64 (findN n fun j=>p (D.getD j ⟨#[]⟩)))∧Ext w w' from by
  subst hn
  refine IndexFuncX_any A D.length c g 0 (fun j=>D.getD j ⟨#[]⟩) _ _ _ w hA (by omega) hen (fun q hq W hW=>?_) (fun q hq W hW=>?_)
  ·rw[Nat.zero_add,show D.getD q ⟨#[]⟩=D[q] from by simp[List.getD,List.getElem?_eq_getElem hq]]
   exact hW.cell (hr.c q hq)
  ·rw[show D.getD q ⟨#[]⟩=D[q] from by simp[List.getD,List.getElem?_eq_getElem hq]]
   exact hp _ (List.getElem_mem hq) W (ExtC.ofExt hW))
 have HGD:=Hy (fun j (hj:j < D.length)=>show D.getD j ⟨#[]⟩=D[j] from by simp[List.getD,List.getElem?_eq_getElem hj])
 have HFC:=Hy (findN_cases n fun j=>p (D.getD j ⟨#[]⟩))
 have HR:=Hy hr
 have HP:=Hy hp
 have HN:=Hy hn
 generalize findN n (fun j=>p (D.getD j ⟨#[]⟩))=Z at *
 clear hr hp hn
 rcases HFC.out with ⟨rfl,hno⟩|⟨k,hk,rfl,hpk,hno⟩
 ·have HID:=Hy (show D.filter (fun x=>!p x)=D from DelInv.filter_id fun j hj=>by rw[<-HGD.out j hj];exact hno j (by rw[<-HN.out];exact hj))
  rw[HID.out]
  clear hno
  rw[HN.out]
  go_enter Tryz.func134,Tryz.ntmps134
  go_wp2_with fail
  refine HI.out.mono ?_
  rintro e w1 ⟨rfl,hx1⟩
  go_wp2
  go_ret
  exact⟨rfl,HR.out.ext hx1,ExtC.ofExt hx1⟩
 ·obtain rfl:=hA (by omega)
  have hkD:k < D.length:=by rw[HN.out];exact hk
  have HINV0:=Hy (DelInv.start (p:=p) hkD (by rw[<-HGD.out k hkD];exact hpk) (fun j hj hjk=>by rw[<-HGD.out j hj];exact hno j hjk))
  clear hno hpk HFC
  have hkm:((k:Int)==-1)=false:=by rw[beq_eq_false_iff_ne];omega
  go_enter Tryz.func134,Tryz.ntmps134
  go_wp2_with fail
  refine HI.out.mono ?_
  rintro e w1 ⟨rfl,hx1⟩
  have HR1:=Hy (HR.out.ext hx1)
  go_wp2
  go_loopw [5,6] (fun a b wr=>∃ (kk i:Nat) (M:List ByteArray),a=.int .i64 kk∧b=.int .i64 i∧i<=n∧kk < i∧Hid (DelInv D p i kk M)∧Hid (RowX wr g M)∧ExtC (·=g) w wr) (fun _ b _=>n - (intOf b).toNat)
  case atStart=>exact⟨k,k+1,D,rfl,by go_num,by omega,by omega,HINV0,HR1,ExtC.ofExt hx1⟩
  case round =>
   clear HINV0 HR1 HI
   obtain⟨kk,i,M,rfl,rfl,hi,hki,HINV,HRM,hxc⟩:=hrel
   obtain⟨wo,rfl⟩:∃ wo:World,wo=wr:=⟨_,rfl⟩
   have hML:M.length=n:=by rw[HINV.out.len,HN.out]
   by_cases hlt:i < n
   ·have hiD:i < D.length:=by rw[HN.out];exact hlt
    have x0:=HRM.out.c i (by rw[hML];exact hlt)
    rw[HINV.out.high i (by rw[hML];exact hlt) hiD (Nat.le_refl _)] at x0
    have z0:=HRM.out.c kk (by rw[hML];omega)
    have zf:=HRM.out.f kk (by rw[hML];omega)
    have HC:=Hy (fun W (h:ExtC (·=g) w W)=>HP.out _ (List.getElem_mem hiD) W h)
    have HSK:=Hy (fun e=>HINV.out.skip hiD e)
    have HKP:=Hy (fun e=>HINV.out.keep hiD e)
    have HKL:=Hy (show kk < M.length from by rw[hML];omega)
    generalize D[i]=x at *
    generalize p x=r at *
    generalize M[kk]'_=y at *
    clear hML
    have gl:=lt_of_cell x0
    go_wp2_with fail
    refine (HC.out _ hxc).mono ?_
    rintro e w1 ⟨rfl,hx1⟩
    have z1:=hx1.cell z0
    have zf1:w1.frozen? ⟨g,kk,none⟩=false:=by rw[hx1.cells.2 g kk gl];exact zf
    have gl1:g < w1.heap.size:=Nat.lt_of_lt_of_le gl hx1.size
    have HRM1:=Hy (HRM.out.ext hx1)
    have HRS:=Hy (HRM1.out.set HKL.out x)
    have hxc1:=hxc.trans (ExtC.ofExt hx1)
    have hxs:=hxc1.set (p:=⟨g,kk,none⟩) (.inl rfl) (.string x)
    clear x0 z0 zf gl HRM
    cases r with
    | true =>
      have HI2:=Hy (HSK.out rfl)
      clear HSK HKP HINV
      go_wp2
      go_roundw
      case rel=>exact⟨kk,i+1,M,rfl,by go_num,by omega,by omega,HI2,HRM1,hxc1⟩
      case measure=>simp[intOf];omega
    | false =>
      have HI2:=Hy (HKP.out rfl)
      clear HSK HKP HINV
      go_wp2
      go_roundw
      case rel=>exact⟨kk+1,i+1,_,by go_num,by go_num,by omega,by omega,HI2,HRS,hxs⟩
      case measure=>simp[intOf];omega
   ·obtain rfl:i=n:=by omega
    obtain⟨w9,hcl,hR9,hE9⟩:=HRM.out.clear (c:=c - kk) hML hki
    have hdone:=HINV.out.done
    have hnum:=HINV.out.num
    rw[show D.take i=D from List.take_of_length_le (by rw[HN.out];exact Nat.le_refl _)] at hdone hnum
    rw[hdone] at hR9
    have HR9:=Hy hR9;have HE9:=Hy hE9;have HNUM:=Hy hnum
    have hck:¬ c=kk:=by omega
    clear hR9 hE9 hdone hnum HINV HRM hML
    go_wp2
    go_ret
    exact⟨congrArg (fun z=>Ending.returned (.slice (some ⟨g,0,none⟩) z c)) HNUM.out.symm,HR9.out,hxc.trans HE9.out⟩
end
end Go.Proofs.YtmpccllnpcbgcaaGreatDoor
