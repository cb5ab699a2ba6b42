/- Contract of outref2.HoldsOf. -/
import Derived.Test.YtmnafaaijglnfaaGreatDoorOm22
import Derived.Test.YtmnafaaijglnfaaGreatDoorOm31
namespace Go.Proofs.YtmnafaaijglnfaaGreatDoor
open Go.RowKit
theorem parse_right {s:Str} (h:(parseR s).2=0):rngErr (parseR s).1=0:=by
 unfold parseR at h ⊢
 split
 ·rename_i h1;rw[if_pos h1] at h;cases h
 ·rename_i h1
  rw[if_neg h1] at h
  split
  ·rfl
  ·rename_i h2
   rw[if_neg h2] at h
   split
   ·rename_i h3;rw[if_pos h3] at h;cases h
   ·rename_i h3
    rw[if_neg h3] at h
    unfold spansOf at h ⊢
    split
    ·rename_i h4;rw[if_pos h4] at h;exact absurd h h4
    ·rename_i h4
     rw[if_neg h4] at h
     split
     ·rename_i h5;rw[if_pos h5] at h;exact absurd h h5
     ·rename_i h5
      exact Classical.not_not.1 h5
def HoldsOfAt (F S':Str->Option Str) (c:Cd):Prop:=∀ (P:Nat->Prop) (v:Value) (b1 b2 m1 m2:Nat) (w:World),GoodN w->CdIn P w c v->StrMap w b1 m1 F->StrMap w b2 m2 S' ->
 Calls Tryz.prog 137 #[v,.map (some b1),.map (some b2)] w fun e w'=>e=.returned (.bool (holdsC F S' c))∧Ext w w'
theorem enters_hno:∀ xs w,Sem.run Tryz.prog (callFunc 211 xs) w=.ok (.enter 211 xs) w:=enters_of Tryz.func211 (by kernel_rfl) rfl
theorem enters_hyes:∀ xs w,Sem.run Tryz.prog (callFunc 212 xs) w=.ok (.enter 212 xs) w:=enters_of Tryz.func212 (by kernel_rfl) rfl
theorem hno_any (F S':Str->Option Str) (c:Cd) (ih:HoldsOfAt F S' c) (P:Nat->Prop) (v:Value) (b1 b2 m1 m2 q1 q2:Nat) (w:World) (hg:GoodN w) (hc:CdIn P w c v) (h1:StrMap w b1 m1 F) (h2:StrMap w b2 m2 S')
 (k1:Blk w q1 189 #[.map (some b1)]) (k2:Blk w q2 189 #[.map (some b2)]) :
 Calls Tryz.prog 211 #[v,.pointer (some ⟨q1,0,none⟩),.pointer (some ⟨q2,0,none⟩)] w fun e w'=>e=.returned (.bool (!holdsC F S' c))∧Ext w w':=by
 obtain⟨k,n,x,A,m,cp,rfl⟩:=hc.cells
 have hx0:Ext w (w.alloc (.cells #[.int .i64 k,.string n,.string x,.slice A m cp] 52)):=(Ext.refl w).alloc _
 have CI:=Hy (ih P _ b1 b2 m1 m2 _ (hg.ext hx0) (hc.ext hx0) (h1.ext hx0) (h2.ext hx0))
 have B1:=k1.ext hx0;have B2:=k2.ext hx0
 have c1:=B1.cell;have l1:=B1.lt;have c2:=B2.cell;have l2:=B2.lt
 clear ih hc h1 h2 k1 k2 B1 B2
 generalize holdsC F S' c=r at *
 go_enter Tryz.func211,Tryz.ntmps211
 go_wp2_with fail
 refine CI.out.mono ?_
 rintro e w1 ⟨rfl,hx1⟩
 go_wp2
 go_ret
 exact⟨rfl,hx0.trans hx1⟩
theorem hyes_any (F S':Str->Option Str) (c:Cd) (ih:HoldsOfAt F S' c) (P:Nat->Prop) (v:Value) (b1 b2 m1 m2 q1 q2:Nat) (w:World) (hg:GoodN w) (hc:CdIn P w c v) (h1:StrMap w b1 m1 F) (h2:StrMap w b2 m2 S')
 (k1:Blk w q1 189 #[.map (some b1)]) (k2:Blk w q2 189 #[.map (some b2)]) :
 Calls Tryz.prog 212 #[v,.pointer (some ⟨q1,0,none⟩),.pointer (some ⟨q2,0,none⟩)] w fun e w'=>e=.returned (.bool (holdsC F S' c))∧Ext w w':=by
 obtain⟨k,n,x,A,m,cp,rfl⟩:=hc.cells
 have hx0:Ext w (w.alloc (.cells #[.int .i64 k,.string n,.string x,.slice A m cp] 52)):=(Ext.refl w).alloc _
 have CI:=Hy (ih P _ b1 b2 m1 m2 _ (hg.ext hx0) (hc.ext hx0) (h1.ext hx0) (h2.ext hx0))
 have B1:=k1.ext hx0;have B2:=k2.ext hx0
 have c1:=B1.cell;have l1:=B1.lt;have c2:=B2.cell;have l2:=B2.lt
 clear ih hc h1 h2 k1 k2 B1 B2
 generalize holdsC F S' c=r at *
 go_enter Tryz.func212,Tryz.ntmps212
 go_wp2_with fail
 refine CI.out.mono ?_
 rintro e w1 ⟨rfl,hx1⟩
 go_wp2
 go_ret
 exact⟨rfl,hx0.trans hx1⟩
set_option maxRecDepth 100000 in
set_option maxHeartbeats 16000000 in
theorem holdsOf_step (F S':Str->Option Str) (k:Int) (n x:ByteArray) (l:List Cd) (hp:partErr k (bs n) (bs x) l.length=0) (hll:l.length<=100000) (hsf:∀ y (u:ByteArray),F y=some (bs u)->u.size<=2097152) (ih:∀ c∈l,HoldsOfAt F S' c):HoldsOfAt F S' (.mk k n x l):=by
 intro P v m1 m2 e1 e2 w hg hc h1 h2
 have hk:=part_kind hp
 have hf:=form_leaf (part_form hp)
 obtain⟨s1,s2⟩:=part_sizes hp
 rw[bs_length] at s1 s2
 obtain⟨A,cp,b,o,rfl,hA,hr⟩:=hc.arg
 obtain⟨W,hW⟩:∃ W,((w.alloc (.cells #[.int .i64 k,.string n,.string x,.slice A l.length cp] 52)).alloc (.cells #[.map (some m1)] 189)).alloc (.cells #[.map (some m2)] 189)=W:=⟨_,rfl⟩
 have hxW:Ext w W:=by rw[<-hW];exact (((Ext.refl w).alloc _).alloc _).alloc _
 have bX:Blk W w.heap.size 52 #[.int .i64 k,.string n,.string x,.slice A l.length cp]:=by rw[<-hW];exact ((Blk.new w _ _).alloc _).alloc _
 have b1:Blk W (w.heap.size+1) 189 #[.map (some m1)]:=by
  rw[<-hW]
  have:=(Blk.new (w.alloc (.cells #[.int .i64 k,.string n,.string x,.slice A l.length cp] 52)) 189 #[.map (some m1)]).alloc (.cells #[.map (some m2)] 189)
  rwa [World.size_alloc] at this
 have b2:Blk W (w.heap.size+1+1) 189 #[.map (some m2)]:=by
  rw[<-hW]
  have:=Blk.new ((w.alloc (.cells #[.int .i64 k,.string n,.string x,.slice A l.length cp] 52)).alloc (.cells #[.map (some m1)] 189)) 189 #[.map (some m2)]
  rwa [World.size_alloc,World.size_alloc] at this
 have lF:=(h1.ext hxW).look (t:=189) Tryz.underlying189 n (by omega)
 have lS:=(h2.ext hxW).look (t:=189) Tryz.underlying189 n (by omega)
 have cX:=bX.cell;have lX:=bX.lt;have c1:=b1.cell;have l1:=b1.lt;have c2:=b2.cell;have l2:=b2.lt
 have HW:=Hy hW
 have HA:=Hy hA;have HR:=Hy hr;have HIH:=Hy ih;have HP:=Hy hp;have H1:=Hy h1;have H2:=Hy h2
 clear hA hr ih hp hc h1 h2
 rcases (show k=1∨(k=2∨k=3)∨k=4∨k=5∨k=6∨k=7∨k=8 by omega) with rfl|h23|rfl|rfl|rfl|rfl|rfl
 ·have HT:=Hy (show holdsC F S' (.mk 1 n x l)=true by unfold holdsC;rfl)
  clear hf cX lX c1 l1 c2 l2 lF lS hW
  go_enter Tryz.func137,Tryz.ntmps137
  go_wp2
  go_ret
  exact⟨by rw[HT.out];rfl,by rw[<-HW.out] at hxW;exact hxW⟩
 ·rcases h23 with rfl|rfl
  ·have hT:holdsC F S' (.mk 2 n x l)=decide (F (bs n)=some (bs x)):=by unfold holdsC;rfl
   rw[hT]
   clear lS
   generalize F (bs n)=O at *
   cases O with
   | none =>
     simp only[Option.isSome_none,Option.getD_none] at lF
     rw[<-hW] at lF cX lX c1 l1 c2 l2 hxW
     clear hf hT hW
     go_enter Tryz.func137,Tryz.ntmps137
     go_wp2
     go_ret
     exact⟨rfl,hxW⟩
   | some s =>
     obtain⟨u,rfl⟩:∃ u:ByteArray,s=bs u:=⟨⟨s.toArray⟩,(bs_mk s).symm⟩
     simp only[Option.isSome_some,Option.getD_some,S_bs] at lF
     rw[<-hW] at lF cX lX c1 l1 c2 l2 hxW
     clear hf hT hW
     by_cases he:u=x
     ·subst he
      go_enter Tryz.func137,Tryz.ntmps137
      go_wp2
      go_ret
      exact⟨by simp,hxW⟩
     ·have he1:¬ u.toList=x.toList:=by rw[str_eq];exact he
      have he2:(u.toList==x.toList)=false:=beq_eq_false_iff_ne.2 he1
      have HNE:=Hy (show decide (some (bs u)=some (bs x))=false from decide_eq_false fun e=>he (bs_inj (Option.some.inj e)))
      go_enter Tryz.func137,Tryz.ntmps137
      go_wp2
      go_ret
      exact⟨ret_bool (by rw[HNE.out]),hxW⟩
  ·have hT:holdsC F S' (.mk 3 n x l)=decide (S' (bs n)=some (bs x)):=by unfold holdsC;rfl
   rw[hT]
   clear lF
   generalize S' (bs n)=O at *
   cases O with
   | none =>
     simp only[Option.isSome_none,Option.getD_none] at lS
     rw[<-hW] at lS cX lX c1 l1 c2 l2 hxW
     clear hf hT hW
     go_enter Tryz.func137,Tryz.ntmps137
     go_wp2
     go_ret
     exact⟨rfl,hxW⟩
   | some s =>
     obtain⟨u,rfl⟩:∃ u:ByteArray,s=bs u:=⟨⟨s.toArray⟩,(bs_mk s).symm⟩
     simp only[Option.isSome_some,Option.getD_some,S_bs] at lS
     rw[<-hW] at lS cX lX c1 l1 c2 l2 hxW
     clear hf hT hW
     by_cases he:u=x
     ·subst he
      go_enter Tryz.func137,Tryz.ntmps137
      go_wp2
      go_ret
      exact⟨by simp,hxW⟩
     ·have he1:¬ u.toList=x.toList:=by rw[str_eq];exact he
      have he2:(u.toList==x.toList)=false:=beq_eq_false_iff_ne.2 he1
      have HNE:=Hy (show decide (some (bs u)=some (bs x))=false from decide_eq_false fun e=>he (bs_inj (Option.some.inj e)))
      go_enter Tryz.func137,Tryz.ntmps137
      go_wp2
      go_ret
      exact⟨ret_bool (by rw[HNE.out]),hxW⟩
 ·have hT:holdsC F S' (.mk 4 n x l)=(S' (bs n)).isSome:=by unfold holdsC;rfl
  rw[hT]
  clear lF hf hT
  generalize S' (bs n)=O at *
  rw[<-hW] at lS cX lX c1 l1 c2 l2 hxW
  clear hW
  go_enter Tryz.func137,Tryz.ntmps137
  go_wp2
  go_ret
  exact⟨rfl,hxW⟩
 ·have hx0:(parseR (bs x)).2=0:=part_range HP.out
  have hT:holdsC F S' (.mk 5 n x l)=(match F (bs n) with|some s=>verIn (bs x) s|none=>false):=by unfold holdsC;rfl
  rw[hT]
  clear lS
  have HSZ:=Hy (fun u=>hsf (bs n) u);have HX0:=Hy hx0
  clear hf hT hx0
  obtain⟨u,hu,hus⟩:∃ u:ByteArray,S ((F (bs n)).getD [])=.string u∧u.size<=2097152:=by
   cases hO:F (bs n) with
   | none=>exact⟨⟨#[]⟩,rfl,by decide⟩
   | some s =>
     obtain⟨ub,rfl⟩:∃ ub:ByteArray,s=bs ub:=⟨⟨s.toArray⟩,(bs_mk s).symm⟩
     exact⟨ub,by rw[Option.getD_some,S_bs],HSZ.out ub hO⟩
  have HU:=Hy (show F (bs n)=if (F (bs n)).isSome=true then some (bs u) else none by
   cases hO:F (bs n) with
   | none=>rfl
   | some s =>
     rw[hO,Option.getD_some] at hu
     rw[Option.isSome_some,if_pos rfl]
     have:S s=S (bs u):=by rw[hu,S_bs]
     exact congrArg some (S_inj this))
  rw[hu] at lF
  have HRES:=Hy (show (match F (bs n) with|some s=>verIn (bs x) s|none=>false)=((F (bs n)).isSome&&verIn (bs x) (bs u)) by
   have e:=HU.out
   cases hO:F (bs n) with
   | none=>rfl
   | some s =>
     rw[hO,Option.isSome_some,if_pos rfl] at e
     rw[Option.some.inj e]
     rfl)
  rw[HRES.out]
  clear hu HSZ HU HRES
  generalize (F (bs n)).isSome=ok at *
  have CP:=Hy (fun W' (h:Ext w W')=>Read_x u W' (hg.ext h) hus)
  obtain⟨⟨rl,re⟩,hpr⟩:∃ q,parseR (bs x)=q:=⟨_,rfl⟩
  have CR:=Hy (show ∀ W',Ext w W'->Calls Tryz.prog 33 #[.string x] W' (RangePost (rl,re) W') from fun W' h=>by
   have:=ReadRange_any x W' (hg.ext h) (by omega)
   rw[read_same,hpr] at this
   exact this)
  have HX:=HX0.out
  have hrl:=Hy (parse_len (bs x))
  have HRT:=Hy (parse_right HX)
  rw[hpr] at HX hrl HRT
  dsimp only at HX hrl HRT
  subst HX
  have HVI:verIn (bs x) (bs u)=(decide ((pV (bs u)).2=0)&&hasL (parseR (bs x)).1 (pV (bs u)).1):=rfl
  rw[HVI]
  clear HVI
  obtain⟨RES,hRES⟩:∃ RES,(ok&&(decide ((pV (bs u)).2=0)&&hasL rl (pV (bs u)).1))=RES:=⟨_,rfl⟩
  rw[hpr]
  dsimp only
  rw[hRES]
  clear hpr
  have HRS:=Hy hRES
  clear hRES
  have HPE:=Hy (fun h=>pV_err (l:=bs u) h)
  rw[<-hW] at lF cX lX c1 l1 c2 l2 hxW bX
  clear hW
  go_enter Tryz.func137,Tryz.ntmps137
  go_wp2_with fail
  refine (CP.out _ hxW).mono ?_
  rintro e w2 ⟨v,r,hpv,rfl,hvz,hx2⟩
  have bX2:=bX.ext hx2
  have cX2:=bX2.cell;have lX2:=bX2.lt
  have hxb:=hxW.trans hx2
  have hvs:v.a.size<=2097152:=by omega
  have hpe:=HPE.out
  rw[hpv] at hpe
  have HPV:=Hy hpv
  have bV:=Blk.new w2 23 #[.int .i64 v.a1,.int .i64 v.a2,.int .i64 v.a3,.string v.a]
  obtain⟨v1,v2,v3,va⟩:=v
  dsimp only[verV] at bV hvs hpe
  clear hpv cX lX lF c1 l1 c2 l2
  have hxc:=hxb.alloc (.cells #[.int .i64 v1,.int .i64 v2,.int .i64 v3,.string va] 23)
  go_wp2_with fail
  refine (CR.out _ hxc).mono ?_
  rintro e w3 ⟨A3,c3',rfl,hr3,hs3,hx3⟩
  dsimp only at hr3 hs3
  have hxd:=hxc.trans hx3
  have bV3:=bV.ext hx3
  have bR:=Blk.new w3 42 #[.slice A3 rl.length c3']
  have bV4:=bV3.alloc (.cells #[.slice A3 rl.length c3'] 42)
  have hxe:=hxd.alloc (.cells #[.slice A3 rl.length c3'] 42)
  have CH:=Hy (fun hov=>HasOf_any A3 rl.length c3' rl ⟨v1,v2,v3,va⟩ _ (hg.ext hxe) rfl (hr3.ext ((Ext.refl w3).alloc _)) hs3 (by have:=hrl.out;omega) hvs HRT.out hov)
  have cV4:=bV4.cell;have lV4:=bV4.lt;have cR:=bR.cell;have lR:=bR.lt
  clear hr3 hs3 cX2 lX2
  have hres:=HRS.out
  rw[HPV.out] at hres
  dsimp only at hres
  have HRS2:=Hy hres
  clear hres HRS HPV
  generalize hasL rl ⟨v1,v2,v3,va⟩=H at *
  by_cases hr0:r=0
  ·subst hr0
   have CH2:=Hy (CH.out (hpe rfl))
   clear CH hpe
   cases ok
   ·go_wp2
    go_ret
    exact⟨ret_bool (by rw[<-HRS2.out];simp),hxe⟩
   ·go_wp2_with fail
    refine CH2.out.mono ?_
    rintro e w4 ⟨rfl,hx4⟩
    go_wp2
    go_ret
    exact⟨ret_bool (by rw[<-HRS2.out];simp),hxe.trans hx4⟩
  ·have hr1:(r==0)=false:=beq_eq_false_iff_ne.2 hr0
   clear hpe
   cases ok
   ·go_wp2
    go_ret
    exact⟨ret_bool (by rw[<-HRS2.out];simp),hxe⟩
   ·go_wp2
    go_ret
    exact⟨ret_bool (by rw[<-HRS2.out];simp[hr0]),hxe⟩
 ·have hl1:=hf.2.2.2 rfl
  match l,hl1 with
  | [c],_ =>
    have hT:holdsC F S' (.mk 6 n x [c])=!(holdsC F S' c):=by
     rw[show holdsC F S' (.mk 6 n x [c])=!((holdsCs F S' [c]).headD false) from by unfold holdsC;rfl]
     simp[holdsCs]
    rw[hT]
    obtain rfl:=HA.out (by simp)
    obtain⟨ck,cn,cx,cA,cm,ccp,x0,x1,x2,x3,hcd⟩:=HR.out.ext hxW 0 (by simp)
    simp only[Nat.zero_mul,Nat.add_zero,List.length_cons,List.length_nil,Nat.zero_add] at x0 x1 x2 x3 cX
    have lb:=lt_of_cell x0
    have CO:=Hy (fun W' (h:Ext W W')=>HIH.out c (by simp) P _ m1 m2 e1 e2 W' (hg.ext (hxW.trans h)) (hcd.ext h) (H1.out.ext (hxW.trans h)) (H2.out.ext (hxW.trans h)))
    generalize holdsC F S' c=r at *
    clear hf hcd hT b1 b2 bX hll lF lS hW
    go_enter Tryz.func137,Tryz.ntmps137
    go_wp2_with fail
    have hW:=HW.out
    simp only[List.length_cons,List.length_nil,Nat.zero_add] at hW
    rw[hW]
    refine wp_region_ext (by kernel_rfl) (by kernel_rfl) ?_
    repeat (first|go_big_quiet_skip|(refine wpQuiet_step (fun K hK=>?_);go_simp;first|(refine hK _ ?_;clear hK K)|(apply Exists.intro;refine⟨fun wq hwq=>?_,hK _ ?_⟩;(obtain⟨hqc,hqf⟩:=hwq.cells;have hqs:=hwq.size;(try go_simp);first|rfl|((first|rw[if_neg (by omega)]|rw[if_pos (by omega)]);(try go_simp);rfl)|((go_at_call 137;exact (CO.out _ hwq).mono (fun e w'' h=>⟨h.1,hwq.trans h.2⟩))));clear hK K)))
    refine wpQuiet_nil ?_
    intro wN hxN
    obtain⟨hcN,hfN⟩:=hxN.cells
    have hsN:=hxN.size
    go_wp2
    go_ret
    exact⟨rfl,hxW.trans hxN⟩
 ·have hT:=holds_all F S' n x l
  rw[hT]
  have CC:=Hy (ContainsFuncC_any A cp b o P l 211 #[.pointer (some ⟨w.heap.size+1,0,none⟩),.pointer (some ⟨w.heap.size+1+1,0,none⟩)] (fun c=>!holdsC F S' c) W HA.out (HR.out.ext hxW) (by omega) enters_hno
   (fun j hj v W' hv h=>hno_any F S' l[j] (HIH.out _ (List.getElem_mem hj)) P v m1 m2 e1 e2 _ _ W' (hg.ext (hxW.trans h)) hv (H1.out.ext (hxW.trans h)) (H2.out.ext (hxW.trans h)) (b1.ext h) (b2.ext h)))
  generalize (l.any fun c=>!holdsC F S' c)=r at *
  clear hf hT b1 b2 bX lF lS hW
  go_enter Tryz.func137,Tryz.ntmps137
  go_wp2_with fail
  rw[HW.out]
  refine CC.out.mono ?_
  rintro e w1 ⟨rfl,hx1⟩
  go_wp2
  go_ret
  exact⟨rfl,hxW.trans hx1⟩
 ·have hT:=holds_some F S' n x l
  rw[hT]
  have CC:=Hy (ContainsFuncC_any A cp b o P l 212 #[.pointer (some ⟨w.heap.size+1,0,none⟩),.pointer (some ⟨w.heap.size+1+1,0,none⟩)] (fun c=>holdsC F S' c) W HA.out (HR.out.ext hxW) (by omega) enters_hyes
   (fun j hj v W' hv h=>hyes_any F S' l[j] (HIH.out _ (List.getElem_mem hj)) P v m1 m2 e1 e2 _ _ W' (hg.ext (hxW.trans h)) hv (H1.out.ext (hxW.trans h)) (H2.out.ext (hxW.trans h)) (b1.ext h) (b2.ext h)))
  generalize (l.any fun c=>holdsC F S' c)=r at *
  clear hf hT b1 b2 bX lF lS hW
  go_enter Tryz.func137,Tryz.ntmps137
  go_wp2_with fail
  rw[HW.out]
  refine CC.out.mono ?_
  rintro e w1 ⟨rfl,hx1⟩
  go_wp2
  go_ret
  exact⟨rfl,hxW.trans hx1⟩
theorem holdsOf_any (F S':Str->Option Str) (hsf:∀ y (u:ByteArray),F y=some (bs u)->u.size<=2097152):∀ (m:Nat) (c:Cd),OkD m c->cnt c<=10000->HoldsOfAt F S' c:=by
 intro m
 induction m with
 | zero =>
   intro c h hc
   obtain⟨k,n,x,l⟩:=c
   have hl:=(form_leaf (part_form h.1)).2.2.1 h.2
   exact holdsOf_step F S' k n x l h.1 (by omega) hsf (fun c hm=>by rw[List.eq_nil_of_length_eq_zero hl] at hm;cases hm)
 | succ m ih =>
   intro c h hc
   obtain⟨k,n,x,l⟩:=c
   have hcl:cnt (.mk k n x l)=1+cnts l:=rfl
   have:=cntz_len l
   exact holdsOf_step F S' k n x l h.1 (by omega) hsf (fun c hm=>ih c (h.2 c hm) (by have:=cnts_mem' hm;omega))
end Go.Proofs.YtmnafaaijglnfaaGreatDoor
