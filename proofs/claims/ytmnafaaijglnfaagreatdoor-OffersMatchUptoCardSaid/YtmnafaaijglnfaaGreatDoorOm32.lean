/- Contract of ver.Holds. The law's look at package feed (feeds), and at a feed that is none. -/
import Derived.Test.YtmnafaaijglnfaaGreatDoorOm09
import Derived.Test.YtmnafaaijglnfaaGreatDoorOm31
import Derived.Test.YtmnafaaijglnfaaGreatDoorOm30
namespace Go.Proofs.YtmnafaaijglnfaaGreatDoor
section
open Go.RowKit
def holdE (c:Cd) (lf ls:List Se):Int:=firstI [checkC c,seErr nameL lf,seErr pathL ls]
def holdR (c:Cd) (lf ls:List Se):Bool:=if holdE c lf ls=0 then holdsC (tbl lf) (tbl ls) c else false
theorem Holds1_tells (A:Option Addr) (n c:Nat) (l:List Se) (w:World) (hn:l.length=n) (hr:RdE w A l) (hl:n<=2097152) (ha:Asc l) :
 Calls Tryz.prog 249 #[.slice A n c] w fun e w'=>∃ g,e=.returned (tellV g)∧Tells w' g l∧Ext w w':=by
 refine (Holds1_any A n c w).mono ?_
 rintro e w' ⟨rfl,rfl⟩
 exact⟨_,rfl,⟨A,n,c,Blk.new _ _ _,hn,hr.ext ((Ext.refl w).alloc _),hl,ha⟩,(Ext.refl w).alloc _⟩
set_option maxHeartbeats 8000000 in
set_option maxRecDepth 100000 in
theorem Holds_any (A B:Option Addr) (n1 n2 c1 c2:Nat) (lf ls:List Se) (c:Cd) (v:Value) (P:Nat->Prop) (w:World) (hg:GoodN w) (hc:CdIn P w c v) (hsm:SmallC c) (hcnt:cnt c<=100000000)
 (hn1:lf.length=n1) (hr1:RdE w A lf) (hs1:SmallE lf) (hl1:n1<=2097152) (hn2:ls.length=n2) (hr2:RdE w B ls) (hs2:SmallE ls) (hl2:n2<=2097152) :
 Calls Tryz.prog 201 #[v,.slice A n1 c1,.slice B n2 c2] w fun e w'=>e=.returned (.tuple #[.bool (holdR c lf ls),.int .i64 (holdE c lf ls)])∧Ext w w':=by
 obtain⟨k,n,x,A0,m,cp,rfl⟩:=hc.cells
 have hx0:Ext w (w.alloc (.cells #[.int .i64 k,.string n,.string x,.slice A0 m cp] 52)):=(Ext.refl w).alloc _
 have bX:=Blk.new w 52 #[.int .i64 k,.string n,.string x,.slice A0 m cp]
 have CC:=Hy (CheckCond_any c _ _ _ (hg.ext hx0) (hc.ext hx0) hsm hcnt)
 have CF:=Hy (fun W (hx:Ext w W)=>faultF_any A n1 c1 lf W (hg.toGood.ext hx) hn1 (hr1.ext hx) hs1 hl1)
 have CS:=Hy (fun W (hx:Ext w W)=>faultS_any B n2 c2 ls W (hg.toGood.ext hx) hn2 (hr2.ext hx) hs2 hl2)
 have HE:holdE c lf ls=firstI [checkC c,seErr nameL lf,seErr pathL ls]:=rfl
 have HH:=Hy (fun (h0:checkC c=0) W (hx:Ext w W) g1 g2 (t1:Tells W g1 lf) (t2:Tells W g2 ls)=>holds_any lf ls hs1 hs2 100 c (ok_of_check h0) (by
  unfold checkC at h0
  by_cases h1:100 < cnt c
  ·rw[if_pos h1] at h0;cases h0
  ·omega) P _ g1 g2 W (hg.ext hx) (hc.ext hx) t1 t2 |>.mono fun _ _ h=>(⟨h.1,h.2,hx.trans h.2⟩:_∧_∧Ext w _))
 have H1:=Hy (fun (h0:seErr nameL lf=0) W (hx:Ext w W)=>(Holds1_tells A n1 c1 lf W hn1 (hr1.ext hx) hl1 (seErr_asc h0)).mono fun _ _ h=>(match h with|⟨g,a,b,d⟩=>⟨g,a,b,d,hx.trans d⟩:∃ g,_=_∧Tells _ g lf∧Ext W _∧Ext w _))
 have H2:=Hy (fun (h0:seErr pathL ls=0) W (hx:Ext w W)=>(Holds1_tells B n2 c2 ls W hn2 (hr2.ext hx) hl2 (seErr_asc h0)).mono fun _ _ h=>(match h with|⟨g,a,b,d⟩=>⟨g,a,b,d,hx.trans d⟩:∃ g,_=_∧Tells _ g ls∧Ext W _∧Ext w _))
 unfold holdR
 clear hc hsm hn1 hr1 hs1 hn2 hr2 hs2
 generalize holdE c lf ls=E at *
 generalize holdsC (tbl lf) (tbl ls) c=R at *
 generalize checkC c=E0 at *
 generalize seErr nameL lf=E1 at *
 generalize seErr pathL ls=E2 at *
 obtain⟨RV,hRV⟩:∃ RV,(if E=0 then R else false)=RV:=⟨_,rfl⟩
 rw[hRV]
 have HRV:=Hy hRV
 clear hRV
 go_enter Tryz.func201,Tryz.ntmps201
 go_wp2_with fail
 refine CC.out.mono ?_
 rintro e w1 ⟨rfl,hx1⟩
 have hxa:Ext w w1:=hx0.trans hx1
 by_cases h0:E0=0
 rotate_left
 ·have hne:(E0 != 0)=true:=by rw[bne_iff_ne];exact h0
  have e:E=E0:=by rw[HE,firstI,if_neg h0]
  have hrv:RV=false:=by rw[<-HRV.out,if_neg (by rw[e];exact h0)]
  clear HE
  subst hrv
  subst e
  go_wp2
  go_ret2
  exact⟨rfl,hxa⟩
 subst h0
 go_wp2_with fail
 refine (CF.out _ hxa).mono ?_
 rintro e w2 ⟨rfl,hx2⟩
 have hxb:=hxa.trans hx2
 by_cases h1:E1=0
 rotate_left
 ·have hne:(E1 != 0)=true:=by rw[bne_iff_ne];exact h1
  have e:E=E1:=by rw[HE,firstI,if_pos rfl,firstI,if_neg h1]
  have hrv:RV=false:=by rw[<-HRV.out,if_neg (by rw[e];exact h1)]
  clear HE
  subst hrv
  subst e
  go_wp2
  go_ret2
  exact⟨rfl,hxb⟩
 subst h1
 go_wp2_with fail
 refine (CS.out _ hxb).mono ?_
 rintro e w3 ⟨rfl,hx3⟩
 have hxc:=hxb.trans hx3
 by_cases h2:E2=0
 rotate_left
 ·have hne:(E2 != 0)=true:=by rw[bne_iff_ne];exact h2
  have e:E=E2:=by rw[HE,firstI,if_pos rfl,firstI,if_pos rfl,firstI,if_neg h2]
  have hrv:RV=false:=by rw[<-HRV.out,if_neg (by rw[e];exact h2)]
  clear HE
  subst hrv
  subst e
  go_wp2
  go_ret2
  exact⟨rfl,hxc⟩
 subst h2
 have e:E=0:=by rw[HE];rfl
 have hrv:RV=R:=by rw[<-HRV.out,if_pos e]
 subst hrv
 subst e
 have bX3:=((bX.ext hx1).ext hx2).ext hx3
 have d0:w3.cell? ⟨w.heap.size,0,none⟩=some (.int .i64 k):=bX3.cell 0
 have d1:w3.cell? ⟨w.heap.size,1,none⟩=some (.string n):=bX3.cell 1
 have d2:w3.cell? ⟨w.heap.size,2,none⟩=some (.string x):=bX3.cell 2
 have d3:w3.cell? ⟨w.heap.size,3,none⟩=some (.slice A0 m cp):=bX3.cell 3
 have dl:=bX3.lt
 clear CC CF CS bX bX3 HE
 go_wp2_with fail
 go_region_held3 (fun w'=>w'.cell? ⟨w.heap.size,0,none⟩=some (.int .i64 k)∧w'.cell? ⟨w.heap.size,1,none⟩=some (.string n)∧w'.cell? ⟨w.heap.size,2,none⟩=some (.string x)∧w'.cell? ⟨w.heap.size,3,none⟩=some (.slice A0 m cp)) (first|(go_keep;done)|((try go_split_ands);(try dsimp only);(repeat' apply And.intro);all_goals (first|(go_keep;done)|(with_reducible exact hxh.cell (by assumption))|(refine hxh.cell ?_;go_simp))))
  (first
  | (go_at_call 249;refine (H1.out (by trivial) _ Ext.au).mono ?_;rintro e w' ⟨g,rfl,ht,hxh,hab⟩)
  | (go_at_call 249;refine (H2.out (by trivial) _ Ext.au).mono ?_;rintro e w' ⟨g,rfl,ht,hxh,hab⟩)
  | (go_at_call 252;refine (HH.out (by trivial) _ Ext.au _ _ (by first|with_reducible assumption|exact Tells.ext (by with_reducible assumption) (by with_reducible assumption)|exact Tells.ext (by with_reducible assumption) Ext.au) (by first|with_reducible assumption|exact Tells.ext (by with_reducible assumption) (by with_reducible assumption)|exact Tells.ext (by with_reducible assumption) Ext.au)).mono ?_;rintro e w' ⟨rfl,hxh,hab⟩))
 all_goals
  go_wp2
  go_ret2
  refine⟨rfl,?_⟩
  exact Ext.au
end
section
open Go.RowKit
abbrev zeroFV:Value:=.agg #[.string ⟨#[]⟩,.int .i64 0,.int .i64 0,.slice none 0 0]
theorem feErr_zero:feErr ⟨#[]⟩ 0 0 []=5:=by decide
abbrev zeroFA:Array Value:=#[.string ⟨#[]⟩,.int .i64 0,.int .i64 0,.slice none 0 0]
set_option maxHeartbeats 4000000 in
set_option maxRecDepth 100000 in
theorem mergeNil_any (w:World) :
 Calls Tryz.prog 37 #[.slice none 0 0] w fun e w'=>e=.returned (.tuple #[zeroFV,.int .i64 9])∧Ext w w':=by
 go_enter Tryz.func37,Tryz.ntmps37
 go_wp2
 refine bodyPost_ret (v:=.tuple #[zeroFV,.int .i64 9]) (by simp[results,Tryz.results37,go_sem]) rfl ?_
 exact⟨rfl,Ext.ad⟩
theorem feeds_any (w:World) (hg:GoodN w) :
 Calls Tryz.prog 40 #[] w fun e w'=>e=.returned (.bool true)∧Ext w w':=by
 have CK:=Hy (fun W (h:Ext w W)=>by
  have:=CheckF_any ⟨#[]⟩ 0 0 [] none 0 0 W (hg.ext h) rfl (fun h=>absurd rfl h) (fun _ h=>by cases h) (by decide) (by decide)
  rw[feErr_zero] at this
  exact this)
 go_enter Tryz.func40,Tryz.ntmps40
 go_wp2_with fail
 refine (mergeNil_any _).mono ?_
 rintro e w1 ⟨rfl,hx1⟩
 have hxa:=hx1.alloc (.cells zeroFA 59)
 go_wp2_with fail
 refine (CK.out _ hxa).mono ?_
 rintro e w2 ⟨rfl,hx2⟩
 go_wp2
 go_ret
 exact⟨rfl,hxa.trans hx2⟩
end
end Go.Proofs.YtmnafaaijglnfaaGreatDoor
