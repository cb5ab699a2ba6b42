/- Contract of outref2.PackageError. -/
import Derived.Test.YtmpccllnpcbgcaaGreatDoorPk38
import Derived.Test.YtmpccllnpcbgcaaGreatDoorPk39
namespace Go.Proofs.YtmpccllnpcbgcaaGreatDoor
open Go.RowKit
theorem webAt_lead {l:List Cmp} {k:Nat} (hk:k < l.length):webAt l k=if (l[k].needs.any fun x=>!isComp l x)=true then 10 else if leadsB l l[k].name l[k].name=true then 13 else 0:=by
 unfold webAt
 rw[getD_cm hk,List.all_eq_not_any_not]
 cases (l[k].needs.any fun x=>!isComp l x)<;>rfl
theorem web_none {l:List Cmp} {k:Nat} (hk:k < l.length) {j:Nat} (hj:j < l[k].needs.length) (h:isComp l l[k].needs[j]=false):webAt l k=10:=by
 rw[webAt_lead hk,if_pos]
 rw[List.any_eq_true]
 exact⟨_,List.getElem_mem hj,by rw[h];rfl⟩
theorem web_all {l:List Cmp} {k:Nat} (hk:k < l.length) (h:∀ j (hj:j < l[k].needs.length),isComp l l[k].needs[j]=true):webAt l k=if leadsB l l[k].name l[k].name=true then 13 else 0:=by
 rw[webAt_lead hk,if_neg]
 rw[Bool.not_eq_true,List.any_eq_false]
 intro x hx
 obtain⟨j,hj,rfl⟩:=List.mem_iff_getElem.1 hx
 rw[h j hj]
 decide
def badR (s:ByteArray):Bool:=decide (s.size=0)||!valueL (bs s)
def rulesE (l:List ByteArray):Int:=if l.any badR=true then 2 else 0
theorem rulesE_succ {l:List ByteArray} {j:Nat} (h:j < l.length):rulesE (l.take (j+1))=f2 (rulesE (l.take j)) (if badR l[j]=true then 2 else 0):=by
 unfold rulesE
 rw[List.take_succ_eq_append_getElem h,List.any_append]
 cases (l.take j).any badR<;>cases h2:badR l[j]<;>simp[f2,h2]
theorem pmvAt_f2 {l:List Mv} {k:Nat} (hk:k < l.length):pmvAt l k=f2 (firstI [rngErr l[k].fr,l[k].tt.err,(if 100 < l[k].rules.length then 4 else 0)]) (rulesE l[k].rules):=by
 have e:l.getD k zeroM=l[k]:=by simp[List.getD,List.getElem?_eq_getElem hk]
 unfold pmvAt
 rw[e,all_any]
 simp only[firstI_f2,firstI_nil,f2_zero,f2_assoc]
 congr 3
 unfold rulesE badR
 cases l[k].rules.any (fun x=>decide (x.size=0)||!valueL (bs x))<;>rfl
theorem pmv_f2 {l:List Mv} {k:Nat} (hk:k < l.length):firstN (k+1) (pmvAt l)=f2 (f2 (firstN k (pmvAt l)) (firstI [rngErr l[k].fr,l[k].tt.err,(if 100 < l[k].rules.length then 4 else 0)])) (rulesE l[k].rules):=by
 rw[firstN_succ,pmvAt_f2 hk,f2_assoc]
theorem pkErr_f2 (p:Pkg):pkErr p=f2 (headErr p) (f2 (firstN p.comps.length (cpAt p.comps)) (f2 (firstN p.comps.length (webAt p.comps)) (f2 (placesErr p.comps) (f2 (pmvErr p.moves) (if 524288 < bytesOf (itemsL p.comps) then 4 else 0))))):=by
 unfold pkErr
 simp only[firstI_f2,firstI_nil,f2_zero]
theorem headErr_f2 (p:Pkg):headErr p=firstI [firstI [(if (!nameL (bs p.name))=true then 5 else 0),p.vv.err,(if (!valueL (bs p.title))=true then 2 else 0),(if (decide ((20:Int) < (p.needs.length:Int))||decide ((20:Int) < (p.bars.length:Int)))=true then 4 else 0),nedErr p.name p.needs,nedErr p.name p.bars],(if ((p.comps.length:Int)==0)=true then 9 else 0),(if decide ((30:Int) < (p.comps.length:Int))=true then 4 else 0)]:=by
 have e1:(if nameL (bs p.name)=true then (0:Int) else 5)=if (!nameL (bs p.name))=true then 5 else 0:=by cases nameL (bs p.name)<;>rfl
 have e2:(if valueL (bs p.title)=true then (0:Int) else 2)=if (!valueL (bs p.title))=true then 2 else 0:=by cases valueL (bs p.title)<;>rfl
 have e3:(20 < p.needs.length∨20 < p.bars.length)=((decide ((20:Int) < (p.needs.length:Int))||decide ((20:Int) < (p.bars.length:Int)))=true):=by
  rw[Bool.or_eq_true,decide_eq_true_eq,decide_eq_true_eq]
  exact propext ⟨fun h=>by omega,fun h=>by omega⟩
 have e4:(p.comps.length=0)=(((p.comps.length:Int)==0)=true):=by rw[beq_iff_eq];exact propext ⟨fun h=>by omega,fun h=>by omega⟩
 have e5:(30 < p.comps.length)=(decide ((30:Int) < (p.comps.length:Int))=true):=by rw[decide_eq_true_eq];exact propext ⟨fun h=>by omega,fun h=>by omega⟩
 unfold headErr
 simp only[firstI_f2,firstI_nil,f2_zero,f2_assoc]
 rw[e1,e2]
 simp only[e3,e4,e5]
theorem bytes_split {l:List Cmp} {k:Nat} (hk:k < l.length) (j:Nat):bytesOf (itemsL (l.take k))+bytesOf (l[k].items.take j)<=bytesOf (itemsL l):=by
 have e:itemsL l=itemsL (l.take k)++(l[k].items.take j++(l[k].items.drop j++itemsL (l.drop (k+1)))):=by
  have h1:l=l.take k++(l[k]::l.drop (k+1)):=by rw[<-List.drop_eq_getElem_cons hk,List.take_append_drop]
  have h2:itemsL l=itemsL (l.take k++(l[k]::l.drop (k+1))):=by rw[<-h1]
  rw[h2]
  unfold itemsL
  rw[List.flatMap_append,List.flatMap_cons,<-List.append_assoc (List.take j _),List.take_append_drop]
 have e2:∀ a b:List Itm,bytesOf (a++b)=bytesOf a+bytesOf b:=fun a b=>by unfold bytesOf;rw[List.map_append,List.sum_append]
 rw[e,e2,e2]
 omega
theorem bytes_comp {l:List Cmp} {k:Nat} (hk:k < l.length):bytesOf (itemsL (l.take (k+1)))=bytesOf (itemsL (l.take k))+bytesOf l[k].items:=by
 rw[itemsL_take l k hk]
 unfold bytesOf
 rw[List.map_append,List.sum_append]
set_option maxHeartbeats 64000000 in
set_option maxRecDepth 100000 in
theorem PackageError_any (p:Pkg) (A:Option Addr) (c:Nat) (A2:Option Addr) (c2:Nat) (A3:Option Addr) (c3:Nat) (A4:Option Addr) (c4:Nat) (w:World) (hg:GoodN w) (hp:PkIn w p A c A2 c2 A3 c3 A4 c4) (hs:SmallP p) :
 Calls Tryz.prog 42 #[pkV p A c A2 c2 A3 c3 A4 c4] w fun e w'=>e=.returned (.int .i64 (pkErr p))∧Ext w w':=by
 obtain⟨cp1,cp2,cp3,cp4⟩:=hp.cap
 have CL1:=Hy (fun (pv:Array Value) (h0:pv[0]?=some (.string p.name)) (h1:pv.size=10) W (h:Ext w W)=>listError_any p.name pv p.needs A p.needs.length c W (hg.ext h) h0 h1 rfl cp1 (hp.needs.ext h) hs.needs hs.nlen)
 have CL2:=Hy (fun (pv:Array Value) (h0:pv[0]?=some (.string p.name)) (h1:pv.size=10) W (h:Ext w W)=>listError_any p.name pv p.bars A2 p.bars.length c2 W (hg.ext h) h0 h1 rfl cp2 (hp.bars.ext h) hs.bars hs.blen)
 have CNM:=Hy (fun W=>NameOf_any p.name W hs.name)
 have CVL:=Hy (fun W=>ValueOf_any p.title W hs.title)
 have CVE:=Hy (show ∀ b cp W,Ext w W->VerS W b [p.vv]->Calls Tryz.prog 10 #[.slice (some ⟨b,0,none⟩) 1 cp] W fun e w'=>e=.returned (.int .i64 p.vv.err)∧Ext W w' from fun b cp W h hv=>by
  have:=VersionError_any b cp [p.vv] W (hg.toGood.ext h) hv (by intro v hv;rw[List.mem_singleton] at hv;subst hv;exact hs.vv) (by simp)
  have e:firstI ([p.vv].map V4.err)=p.vv.err:=by
   simp only[List.map_cons,List.map_nil,firstI]
   split<;>simp_all
  rw[e] at this
  exact this)
 have CCE:=Hy (fun k (hk:k < p.comps.length) W (h:Ext w W)=>(show Calls Tryz.prog 113 #[pkV p A c A2 c2 A3 c3 A4 c4,.int .i64 (k:Int)] W fun e w'=>e=.returned (.int .i64 (cpAt p.comps k))∧Ext W w' from by
  have:=componentError_any p A c A2 c2 A3 c3 A4 c4 k W (hg.ext h) (hp.comps.ext h) hk cp3 hs.clen (hs.comps _ (List.getElem_mem hk))
  rwa [<-getD_cm hk,<-cpAt_eq] at this))
 have CND:=Hy (fun hnd W (h:Ext w W)=>needsOf_any p A c A2 c2 A3 c3 A4 c4 W (hp.comps.ext h) hs.clen (fun c hc=>(hs.comps c hc).name) hnd)
 have CLD:=Hy (fun h30 w0 b n a W (h:Ext w0 W) (ha:a.size<=2097152) (hm:NdMap w0 W b n p.comps)=>leads_any w0 b n p.comps a W (needs_small (fun c hc=>(hs.comps c hc).nlen) (fun c hc=>(hs.comps c hc).needs)) (needs_total p.comps (fun c hc=>(hs.comps c hc).nlen) h30) ha h hm)
 have CPE:=Hy (fun h30 hnd w0 b n W (h:Ext w W) (h0:Ext w0 W) (hm:NdMap w0 W b n p.comps)=>placesError_any p A c A2 c2 A3 c3 A4 c4 w0 b n W (hg.toGood.ext h) (hp.comps.ext h) hs.clen hnd (fun c hc=>(hs.comps c hc).items) hs.all (fun c hc=>(hs.comps c hc).name) (needs_small (fun c hc=>(hs.comps c hc).nlen) (fun c hc=>(hs.comps c hc).needs)) (needs_total p.comps (fun c hc=>(hs.comps c hc).nlen) h30) h0 hm)
 have HOK:=Hy (head_ok (p:=p))
 have HND:=Hy (names_nd (l:=p.comps))
 have HR:=Hy hp.comps
 have HMV:=Hy hp.moves
 have HG:=Hy hg
 have HS:=Hy hs
 have hcl:=hs.clen
 have hml:=hs.mlen
 have hby:=hs.bytes
 have hal:=hs.all
 obtain⟨E,hE⟩:∃ E,E=pkErr p:=⟨_,rfl⟩
 rw[<-hE]
 have HE:=Hy (show E=f2 (headErr p) (f2 (firstN p.comps.length (cpAt p.comps)) (f2 (firstN p.comps.length (webAt p.comps)) (f2 (placesErr p.comps) (f2 (pmvErr p.moves) (if 524288 < bytesOf (itemsL p.comps) then 4 else 0))))) from by rw[hE];exact pkErr_f2 p)
 have HH:=Hy (headErr_f2 p)
 clear hg hp hs hE
 generalize headErr p=H at *
 generalize placesErr p.comps=PL at *
 generalize nedErr p.name p.needs=L1 at *
 generalize nedErr p.name p.bars=L2 at *
 obtain⟨pn,⟨v1,v2,v3,va⟩,pt,pe,pb,l,pm⟩:=p
 dsimp only[pkV] at *
 generalize V4.err ⟨v1,v2,v3,va⟩=EV at *
 generalize nameL (bs pn)=Q1 at *
 generalize valueL (bs pt)=Q2 at *
 generalize pe.length=l1 at *
 generalize pb.length=l2 at *
 generalize hl4:pm.length=l4 at *
 have HL4:=Hy hl4
 clear hl4
 generalize hn:l.length=n at CCE HOK HND HE HH hcl cp3 CPE CND CLD ⊢
 have HN:=Hy hn
 clear hn
 obtain⟨G1,hG1⟩:∃ G,decide ((20:Int) < (l1:Int))=G:=⟨_,rfl⟩
 obtain⟨G2,hG2⟩:∃ G,decide ((20:Int) < (l2:Int))=G:=⟨_,rfl⟩
 obtain⟨G3,hG3⟩:∃ G,((n:Int)==0)=G:=⟨_,rfl⟩
 obtain⟨G4,hG4⟩:∃ G,decide ((30:Int) < (n:Int))=G:=⟨_,rfl⟩
 rw[hG1,hG2,hG3,hG4] at HH
 have CW1:=Hy (fun W=>When_any (!Q1) 5 W)
 have CW2:=Hy (fun W=>When_any (!Q2) 2 W)
 have CW3:=Hy (fun W=>When_any (G1||G2) 4 W)
 have CW4:=Hy (fun W=>When_any G3 9 W)
 have CW5:=Hy (fun W=>When_any G4 4 W)
 obtain⟨X1,hX1⟩:∃ X,(if (!Q1)=true then (5:Int) else 0)=X:=⟨_,rfl⟩
 obtain⟨X2,hX2⟩:∃ X,(if (!Q2)=true then (2:Int) else 0)=X:=⟨_,rfl⟩
 obtain⟨X3,hX3⟩:∃ X,(if (G1||G2)=true then (4:Int) else 0)=X:=⟨_,rfl⟩
 obtain⟨X4,hX4⟩:∃ X,(if G3=true then (9:Int) else 0)=X:=⟨_,rfl⟩
 obtain⟨X5,hX5⟩:∃ X,(if G4=true then (4:Int) else 0)=X:=⟨_,rfl⟩
 rw[hX1,hX2,hX3,hX4,hX5] at HH
 rw[hX1] at CW1
 rw[hX2] at CW2
 rw[hX3] at CW3
 rw[hX4] at CW4
 rw[hX5] at CW5
 clear hX1 hX2 hX3 hX4 hX5
 obtain⟨F,hF⟩:∃ F,firstI [X1,EV,X2,X3,L1,L2]=F:=⟨_,rfl⟩
 rw[hF] at HH
 have CFI:=Hy (fun b cp W (h:∀ k (hk:k < [X1,EV,X2,X3,L1,L2].length),World.cell? W ⟨b,k,none⟩=some (.int .i64 [X1,EV,X2,X3,L1,L2][k]))=>First_any b cp [X1,EV,X2,X3,L1,L2] W h (by simp))
 rw[hF] at CFI
 clear hF
 have b0:=Blk.new w 76 #[.string pn,.int .i64 v1,.int .i64 v2,.int .i64 v3,.string va,.string pt,.slice A l1 c,.slice A2 l2 c2,.slice A3 n c3,.slice A4 l4 c4]
 have hx0:Ext w (w.alloc (.cells #[.string pn,.int .i64 v1,.int .i64 v2,.int .i64 v3,.string va,.string pt,.slice A l1 c,.slice A2 l2 c2,.slice A3 n c3,.slice A4 l4 c4] 76)):=(Ext.refl w).alloc _
 generalize hW0:w.alloc (.cells #[.string pn,.int .i64 v1,.int .i64 v2,.int .i64 v3,.string va,.string pt,.slice A l1 c,.slice A2 l2 c2,.slice A3 n c3,.slice A4 l4 c4] 76)=W0 at *
 have HW0:=Hy hW0
 clear hW0
 go_enter Tryz.func42,Tryz.ntmps42
 go_upto_region 1 with fail
 rw[HW0.out]
 go_cut [3] (fun v wx=>v=.int .i64 F∧Hid (Blk wx w.heap.size 76 #[.string pn,.int .i64 v1,.int .i64 v2,.int .i64 v3,.string va,.string pt,.slice A l1 c,.slice A2 l2 c2,.slice A3 n c3,.slice A4 l4 c4])∧Ext w wx)
 case first =>
  have d0:W0.cell? ⟨w.heap.size,0,none⟩=some (.string pn):=b0.cell 0
  have d1:W0.cell? ⟨w.heap.size,1,none⟩=some (.int .i64 v1):=b0.cell 1
  have d2:W0.cell? ⟨w.heap.size,2,none⟩=some (.int .i64 v2):=b0.cell 2
  have d3:W0.cell? ⟨w.heap.size,3,none⟩=some (.int .i64 v3):=b0.cell 3
  have d4:W0.cell? ⟨w.heap.size,4,none⟩=some (.string va):=b0.cell 4
  have d5:W0.cell? ⟨w.heap.size,5,none⟩=some (.string pt):=b0.cell 5
  have d6:W0.cell? ⟨w.heap.size,6,none⟩=some (.slice A l1 c):=b0.cell 6
  have d7:W0.cell? ⟨w.heap.size,7,none⟩=some (.slice A2 l2 c2):=b0.cell 7
  have d8:W0.cell? ⟨w.heap.size,8,none⟩=some (.slice A3 n c3):=b0.cell 8
  have d9:W0.cell? ⟨w.heap.size,9,none⟩=some (.slice A4 l4 c4):=b0.cell 9
  have dl:=b0.lt
  have B0:=Hy b0
  have hx00:=Hy hx0
  have CNE:=Hy (fun W (h:Ext W0 W)=>(CNM.out W).mono (fun e w' hh=>(show e=_∧Ext W w'∧Ext W0 w' from ⟨hh.1,hh.2,h.trans hh.2⟩)))
  have CV:=Hy (fun b cp W (h:Ext W0 W) (hv:VerS W b [⟨v1,v2,v3,va⟩])=>(CVE.out b cp W (hx0.trans h) hv).mono (fun e w' hh=>(show e=_∧Ext W w'∧Ext W0 w' from ⟨hh.1,hh.2,h.trans hh.2⟩)))
  have CLA:=Hy (fun W (h:Ext W0 W)=>(CL1.out #[.string pn,.int .i64 v1,.int .i64 v2,.int .i64 v3,.string va,.string pt,.slice A l1 c,.slice A2 l2 c2,.slice A3 n c3,.slice A4 l4 c4] rfl rfl W (hx0.trans h)).mono (fun e w' hh=>(show e=_∧Ext W w'∧Ext W0 w' from ⟨hh.1,hh.2,h.trans hh.2⟩)))
  have CLB:=Hy (fun W (h:Ext W0 W)=>(CL2.out #[.string pn,.int .i64 v1,.int .i64 v2,.int .i64 v3,.string va,.string pt,.slice A l1 c,.slice A2 l2 c2,.slice A3 n c3,.slice A4 l4 c4] rfl rfl W (hx0.trans h)).mono (fun e w' hh=>(show e=_∧Ext W w'∧Ext W0 w' from ⟨hh.1,hh.2,h.trans hh.2⟩)))
  clear b0 hx0 HE HH CCE CND CLD CPE HOK HND HR HMV HG HS CW4 CW5 hG3 hG4 CL1 CL2 CNM CVE HN HL4 hcl hml hby hal
  by_cases h20:20 < l1
  ·obtain rfl:G1=true:=by rw[<-hG1];exact decide_eq_true (by omega)
   simp only[Bool.true_or] at CW3
   refine wp_region_held_drew (S:=(fun w'=>w'.cell? ⟨w.heap.size,0,none⟩=some (.string pn)∧w'.cell? ⟨w.heap.size,1,none⟩=some (.int .i64 v1)∧w'.cell? ⟨w.heap.size,2,none⟩=some (.int .i64 v2)∧w'.cell? ⟨w.heap.size,3,none⟩=some (.int .i64 v3)∧w'.cell? ⟨w.heap.size,4,none⟩=some (.string va)∧w'.cell? ⟨w.heap.size,5,none⟩=some (.string pt)∧w'.cell? ⟨w.heap.size,6,none⟩=some (.slice A l1 c)∧w'.cell? ⟨w.heap.size,7,none⟩=some (.slice A2 l2 c2)∧w'.cell? ⟨w.heap.size,8,none⟩=some (.slice A3 n c3)∧w'.cell? ⟨w.heap.size,9,none⟩=some (.slice A4 l4 c4))) (by kernel_rfl) ?hS0 (fun hHeld=>?rest0)
   case hS0=>((try dsimp only);(first|(go_keep;done)|((try go_split_ands);(try dsimp only);(repeat' apply And.intro);all_goals (first|(go_keep;done)|(with_reducible exact hxh.cell (by assumption))|(refine hxh.cell ?_;go_simp)))))
   refine wpAnyH_take (i:=0) (v:=?_) rfl (by kernel_rfl) (by kernel_rfl) (by kernel_rfl) (fun _ _ _ h=>h) (Or.inl ⟨by rfl,?_⟩) (by assumption) ?_
   rotate_left
   focus ((intro w hSw);(try dsimp only at hSw);go_simp;try with_reducible rfl)
   try simp only[Act.put,List.setIfInBounds_toArray]
   refine wpAnyH_take (i:=1) (v:=?_) rfl (by kernel_rfl) (by kernel_rfl) (by kernel_rfl) (fun _ _ _ h=>h) (Or.inl ⟨by rfl,?_⟩) (by assumption) ?_
   rotate_left
   focus ((intro w hSw);(try dsimp only at hSw);go_simp;try with_reducible rfl)
   try simp only[Act.put]
   refine wpAnyH_take (i:=5) (v:=?_) rfl (by kernel_rfl) (by kernel_rfl) (by kernel_rfl) (fun _ _ _ h=>h) (Or.inl ⟨by rfl,?_⟩) (by assumption) ?_
   rotate_left
   focus ((intro w hSw);(try dsimp only at hSw);go_simp;try with_reducible rfl)
   try simp only[Act.put]
   refine wpAnyH_take (i:=6) (v:=?_) rfl (by kernel_rfl) (by kernel_rfl) (by kernel_rfl) (fun _ _ _ h=>h) (Or.inl ⟨by rfl,?_⟩) (by assumption) ?_
   rotate_left
   focus ((intro w hSw);(try dsimp only at hSw);go_simp;try with_reducible rfl)
   try simp only[Act.put]
   refine wpAnyH_take (i:=9) (v:=?_) rfl (by kernel_rfl) (by kernel_rfl) (by kernel_rfl) (fun _ _ _ h=>h) (Or.inl ⟨by rfl,?_⟩) (by assumption) ?_
   rotate_left
   focus ((intro w hSw);(try dsimp only at hSw);go_simp;try with_reducible rfl)
   try simp only[Act.put]
   refine wpAnyH_take (i:=10) (v:=?_) rfl (by kernel_rfl) (by kernel_rfl) (by kernel_rfl) (fun _ _ _ h=>h) (Or.inl ⟨by rfl,?_⟩) (by assumption) ?_
   rotate_left
   focus ((intro w hSw);(try dsimp only at hSw);go_simp;try with_reducible rfl)
   try simp only[Act.put]
   refine wpAnyH_take (i:=14) (v:=?_) rfl (by kernel_rfl) (by kernel_rfl) (by kernel_rfl) (fun _ _ _ h=>h) (Or.inl ⟨by rfl,?_⟩) (by assumption) ?_
   rotate_left
   focus ((intro w hSw);(try dsimp only at hSw);go_simp;try with_reducible rfl)
   try simp only[Act.put]
   refine wpAnyH_take (i:=15) (v:=?_) rfl (by kernel_rfl) (by kernel_rfl) (by kernel_rfl) (fun _ _ _ h=>h) (Or.inl ⟨by rfl,?_⟩) (by assumption) ?_
   rotate_left
   focus ((intro w hSw);(try dsimp only at hSw);go_simp;try with_reducible rfl)
   try simp only[Act.put]
   refine wpAnyH_take (i:=16) (v:=?_) rfl (by kernel_rfl) (by kernel_rfl) (by kernel_rfl) (fun _ _ _ h=>h) (Or.inl ⟨by rfl,?_⟩) (by assumption) ?_
   rotate_left
   focus ((intro w hSw);(try dsimp only at hSw);go_simp;try with_reducible rfl)
   try simp only[Act.put]
   refine wpAnyH_take (i:=17) (v:=?_) rfl (by kernel_rfl) (by kernel_rfl) (by kernel_rfl) (fun _ _ _ h=>h) (Or.inl ⟨by rfl,?_⟩) (by assumption) ?_
   rotate_left
   focus ((intro w hSw);(try dsimp only at hSw);go_simp;try with_reducible rfl)
   try simp only[Act.put]
   refine wpAnyH_take (i:=25) (v:=?_) rfl (by kernel_rfl) (by kernel_rfl) (by kernel_rfl) (fun _ _ _ h=>h) (Or.inl ⟨by rfl,?_⟩) (by assumption) ?_
   rotate_left
   focus ((intro w hSw);(try dsimp only at hSw);go_simp;try with_reducible rfl)
   try simp only[Act.put]
   refine wpAnyH_take (i:=26) (v:=?_) rfl (by kernel_rfl) (by kernel_rfl) (by kernel_rfl) (fun _ _ _ h=>h) (Or.inl ⟨by rfl,?_⟩) (by assumption) ?_
   rotate_left
   focus ((intro w hSw);(try dsimp only at hSw);go_simp;try with_reducible rfl)
   try simp only[Act.put]
   refine wpAnyH_take (i:=27) (v:=?_) rfl (by kernel_rfl) (by kernel_rfl) (by kernel_rfl) (fun _ _ _ h=>h) (Or.inl ⟨by rfl,?_⟩) (by assumption) ?_
   rotate_left
   focus ((intro w hSw);(try dsimp only at hSw);go_simp;try with_reducible rfl)
   try simp only[Act.put]
   refine wpAnyH_take (i:=29) (v:=?_) rfl (by kernel_rfl) (by kernel_rfl) (by kernel_rfl) (fun _ _ _ h=>h) (Or.inl ⟨by rfl,?_⟩) (by assumption) ?_
   rotate_left
   focus ((intro w hSw);(try dsimp only at hSw);go_simp;try with_reducible rfl)
   try simp only[Act.put]
   refine wpAnyH_take (i:=30) (v:=?_) rfl (by kernel_rfl) (by kernel_rfl) (by kernel_rfl) (fun _ _ _ h=>h) (Or.inl ⟨by rfl,?_⟩) (by assumption) ?_
   rotate_left
   focus ((intro w hSw);(try dsimp only at hSw);go_simp;try with_reducible rfl)
   try simp only[Act.put]
   refine wpAnyH_take (i:=31) (v:=?_) rfl (by kernel_rfl) (by kernel_rfl) (by kernel_rfl) (fun _ _ _ h=>h) (Or.inl ⟨by rfl,?_⟩) (by assumption) ?_
   rotate_left
   focus ((intro w hSw);(try dsimp only at hSw);go_simp;try with_reducible rfl)
   try simp only[Act.put]
   refine wpAnyH_ready (rs:=[2,7]) (by kernel_rfl) (by simp) ?_
   refine AllReadyH.cons rfl (fun K hK=>?_) ?_
   ·skip
    go_simp
    go_at_call 19;with_reducible refine (CNE.out _ Ext.au).mono ?_;rintro e w' ⟨rfl,hxh,hab⟩
    (try go_simp)
    refine hK.out _ _ ?_ (fun hHeld=>?_)
    ·((try dsimp only);(first|(go_keep;done)|((try go_split_ands);(try dsimp only);(repeat' apply And.intro);all_goals (first|(go_keep;done)|(with_reducible exact hxh.cell (by assumption))|(refine hxh.cell ?_;go_simp)))))
    clear hK K
    try simp only[Act.put,List.setIfInBounds_toArray,List.set_cons_zero,List.set_cons_succ]
    refine wpAnyH_take (i:=3) (v:=?_) rfl (by kernel_rfl) (by kernel_rfl) (by kernel_rfl) (fun _ _ _ h=>h) (Or.inl ⟨by rfl,?_⟩) (by assumption) ?_
    rotate_left
    focus ((intro w hSw);(try dsimp only at hSw);go_simp;try with_reducible rfl)
    try simp only[Act.put,List.setIfInBounds_toArray]
    refine wpAnyH_ready (rs:=[4,7]) (by kernel_rfl) (by simp) ?_
    refine AllReadyH.cons rfl (fun K hK=>?_) ?_
    ·skip
     go_simp
     go_at_call 46;with_reducible refine (CW1.out _).mono ?_;rintro e w' ⟨rfl,rfl⟩
     (try go_simp)
     refine hK.out _ _ ?_ (fun hHeld=>?_)
     ·((try dsimp only);(first|(go_keep;done)|((try go_split_ands);(try dsimp only);(repeat' apply And.intro);all_goals (first|(go_keep;done)|(with_reducible exact hxh.cell (by assumption))|(refine hxh.cell ?_;go_simp)))))
     clear hK K
     try simp only[Act.put,List.setIfInBounds_toArray,List.set_cons_zero,List.set_cons_succ]
     refine wpAnyH_ready (rs:=[7]) (by kernel_rfl) (by simp) ?_
     refine AllReadyH.cons rfl (fun K hK=>?_) ?_
     ·skip
      go_simp
      (try go_simp)
      refine hK.out _ _ ?_ (fun hHeld=>?_)
      ·((try dsimp only);(first|(go_keep;done)|((try go_split_ands);(try dsimp only);(repeat' apply And.intro);all_goals (first|(go_keep;done)|(with_reducible exact hxh.cell (by assumption))|(refine hxh.cell ?_;go_simp)))))
      clear hK K
      try simp only[Act.put,List.setIfInBounds_toArray,List.set_cons_zero,List.set_cons_succ]
      refine wpAnyH_ready (rs:=[8]) (by kernel_rfl) (by simp) ?_
      refine AllReadyH.cons rfl (fun K hK=>?_) ?_
      ·skip
       go_simp
       go_at_call 10;with_reducible refine (CV.out _ _ _ Ext.au (VerS.one (by first|(go_simp;done)|(refine Ext.cell hxh ?_;go_simp;done)) (by first|(go_simp;done)|(refine Ext.cell hxh ?_;go_simp;done)) (by first|(go_simp;done)|(refine Ext.cell hxh ?_;go_simp;done)) (by first|(go_simp;done)|(refine Ext.cell hxh ?_;go_simp;done)))).mono ?_;rintro e w' ⟨rfl,hxh,hab⟩
       (try go_simp)
       refine hK.out _ _ ?_ (fun hHeld=>?_)
       ·((try dsimp only);(first|(go_keep;done)|((try go_split_ands);(try dsimp only);(repeat' apply And.intro);all_goals (first|(go_keep;done)|(with_reducible exact hxh.cell (by assumption))|(refine hxh.cell ?_;go_simp)))))
       clear hK K
       try simp only[Act.put,List.setIfInBounds_toArray,List.set_cons_zero,List.set_cons_succ]
       refine wpAnyH_ready (rs:=[11]) (by kernel_rfl) (by simp) ?_
       refine AllReadyH.cons rfl (fun K hK=>?_) ?_
       ·skip
        go_simp
        go_at_call 23;with_reducible refine (CVL.out _).mono ?_;rintro e w' ⟨rfl,rfl⟩
        (try go_simp)
        refine hK.out _ _ ?_ (fun hHeld=>?_)
        ·((try dsimp only);(first|(go_keep;done)|((try go_split_ands);(try dsimp only);(repeat' apply And.intro);all_goals (first|(go_keep;done)|(with_reducible exact hxh.cell (by assumption))|(refine hxh.cell ?_;go_simp)))))
        clear hK K
        try simp only[Act.put,List.setIfInBounds_toArray,List.set_cons_zero,List.set_cons_succ]
        refine wpAnyH_take (i:=12) (v:=?_) rfl (by kernel_rfl) (by kernel_rfl) (by kernel_rfl) (fun _ _ _ h=>h) (Or.inl ⟨by rfl,?_⟩) (by assumption) ?_
        rotate_left
        focus ((intro w hSw);(try dsimp only at hSw);go_simp;try with_reducible rfl)
        try simp only[Act.put,List.setIfInBounds_toArray]
        refine wpAnyH_ready (rs:=[13]) (by kernel_rfl) (by simp) ?_
        refine AllReadyH.cons rfl (fun K hK=>?_) ?_
        ·skip
         go_simp
         go_at_call 46;with_reducible refine (CW2.out _).mono ?_;rintro e w' ⟨rfl,rfl⟩
         (try go_simp)
         refine hK.out _ _ ?_ (fun hHeld=>?_)
         ·((try dsimp only);(first|(go_keep;done)|((try go_split_ands);(try dsimp only);(repeat' apply And.intro);all_goals (first|(go_keep;done)|(with_reducible exact hxh.cell (by assumption))|(refine hxh.cell ?_;go_simp)))))
         clear hK K
         try simp only[Act.put,List.setIfInBounds_toArray,List.set_cons_zero,List.set_cons_succ]
         refine wpAnyH_take (i:=18) (v:=?_) rfl (by kernel_rfl) (by kernel_rfl) (by kernel_rfl) (fun _ _ _ h=>h) (Or.inl ⟨by rfl,?_⟩) (by assumption) ?_
         rotate_left
         focus ((intro w hSw);(try dsimp only at hSw);go_simp;try with_reducible rfl)
         try simp only[Act.put,List.setIfInBounds_toArray]
         refine wpAnyH_take (i:=19) (v:=_) rfl (by kernel_rfl) (by kernel_rfl) (by kernel_rfl) (fun _ _ _ h=>h) (Or.inr ⟨by rfl,rfl⟩) (by assumption) ?_
         try simp only[Act.put]
         refine wpAnyH_take (i:=20) (v:=_) rfl (by kernel_rfl) (by kernel_rfl) (by kernel_rfl) (fun _ _ _ h=>h) (Or.inr ⟨by rfl,rfl⟩) (by assumption) ?_
         try simp only[Act.put]
         refine wpAnyH_take (i:=21) (v:=_) rfl (by kernel_rfl) (by kernel_rfl) (by kernel_rfl) (fun _ _ _ h=>h) (Or.inr ⟨by rfl,rfl⟩) (by assumption) ?_
         try simp only[Act.put]
         refine wpAnyH_take (i:=22) (v:=_) rfl (by kernel_rfl) (by kernel_rfl) (by kernel_rfl) (fun _ _ _ h=>h) (Or.inr ⟨by rfl,rfl⟩) (by assumption) ?_
         try simp only[Act.put]
         refine wpAnyH_take (i:=23) (v:=?_) rfl (by kernel_rfl) (by kernel_rfl) (by kernel_rfl) (fun _ _ _ h=>h) (Or.inl ⟨by rfl,?_⟩) (by assumption) ?_
         rotate_left
         focus ((intro w hSw);(try dsimp only at hSw);go_simp;try with_reducible rfl)
         try simp only[Act.put]
         refine wpAnyH_ready (rs:=[24]) (by kernel_rfl) (by simp) ?_
         refine AllReadyH.cons rfl (fun K hK=>?_) ?_
         ·skip
          go_simp
          go_at_call 46;with_reducible refine (CW3.out _).mono ?_;rintro e w' ⟨rfl,rfl⟩
          (try go_simp)
          refine hK.out _ _ ?_ (fun hHeld=>?_)
          ·((try dsimp only);(first|(go_keep;done)|((try go_split_ands);(try dsimp only);(repeat' apply And.intro);all_goals (first|(go_keep;done)|(with_reducible exact hxh.cell (by assumption))|(refine hxh.cell ?_;go_simp)))))
          clear hK K
          try simp only[Act.put,List.setIfInBounds_toArray,List.set_cons_zero,List.set_cons_succ]
          refine wpAnyH_ready (rs:=[28]) (by kernel_rfl) (by simp) ?_
          refine AllReadyH.cons rfl (fun K hK=>?_) ?_
          ·skip
           go_simp
           go_at_call 112;with_reducible refine (CLA.out _ Ext.au).mono ?_;rintro e w' ⟨rfl,hxh,hab⟩
           (try go_simp)
           refine hK.out _ _ ?_ (fun hHeld=>?_)
           ·((try dsimp only);(first|(go_keep;done)|((try go_split_ands);(try dsimp only);(repeat' apply And.intro);all_goals (first|(go_keep;done)|(with_reducible exact hxh.cell (by assumption))|(refine hxh.cell ?_;go_simp)))))
           clear hK K
           try simp only[Act.put,List.setIfInBounds_toArray,List.set_cons_zero,List.set_cons_succ]
           refine wpAnyH_ready (rs:=[32]) (by kernel_rfl) (by simp) ?_
           refine AllReadyH.cons rfl (fun K hK=>?_) ?_
           ·skip
            go_simp
            go_at_call 112;with_reducible refine (CLB.out _ Ext.au).mono ?_;rintro e w' ⟨rfl,hxh,hab⟩
            (try go_simp)
            refine hK.out _ _ ?_ (fun hHeld=>?_)
            ·((try dsimp only);(first|(go_keep;done)|((try go_split_ands);(try dsimp only);(repeat' apply And.intro);all_goals (first|(go_keep;done)|(with_reducible exact hxh.cell (by assumption))|(refine hxh.cell ?_;go_simp)))))
            clear hK K
            try simp only[Act.put,List.setIfInBounds_toArray,List.set_cons_zero,List.set_cons_succ]
            refine wpAnyH_ready (rs:=[33]) (by kernel_rfl) (by simp) ?_
            refine AllReadyH.cons rfl (fun K hK=>?_) ?_
            ·skip
             go_simp
             (try go_simp)
             refine hK.out _ _ ?_ (fun hHeld=>?_)
             ·((try dsimp only);(first|(go_keep;done)|((try go_split_ands);(try dsimp only);(repeat' apply And.intro);all_goals (first|(go_keep;done)|(with_reducible exact hxh.cell (by assumption))|(refine hxh.cell ?_;go_simp)))))
             clear hK K
             try simp only[Act.put,List.setIfInBounds_toArray,List.set_cons_zero,List.set_cons_succ]
             refine wpAnyH_ready (rs:=[34]) (by kernel_rfl) (by simp) ?_
             refine AllReadyH.cons rfl (fun K hK=>?_) ?_
             ·skip
              go_simp
              go_at_call 11;refine (CFI.out _ _ _ (by intro k hk;rw[World.cell?_alloc_at _ _ _ _ rfl];match k,hk with|0,_=>rfl|1,_=>rfl|2,_=>rfl|3,_=>rfl|4,_=>rfl|5,_=>rfl)).mono ?_;rintro e w' ⟨rfl,rfl⟩
              (try go_simp)
              refine hK.out _ _ ?_ (fun hHeld=>?_)
              ·((try dsimp only);(first|(go_keep;done)|((try go_split_ands);(try dsimp only);(repeat' apply And.intro);all_goals (first|(go_keep;done)|(with_reducible exact hxh.cell (by assumption))|(refine hxh.cell ?_;go_simp)))))
              clear hK K
              try simp only[Act.put,List.setIfInBounds_toArray,List.set_cons_zero,List.set_cons_succ]
              refine wpAnyH_take (i:=35) (oi:={ dst:=some 3,op:=.assign (.tmp 57),type:=24,pos:="pack.go:124",after:=#[⟨34,.data⟩,⟨34,.chain⟩,⟨0,.phase⟩,⟨1,.phase⟩,⟨2,.phase⟩,⟨3,.phase⟩,⟨4,.phase⟩,⟨5,.phase⟩,⟨6,.phase⟩,⟨7,.phase⟩,⟨8,.phase⟩,⟨9,.phase⟩,⟨10,.phase⟩,⟨11,.phase⟩,⟨12,.phase⟩,⟨13,.phase⟩,⟨14,.phase⟩,⟨15,.phase⟩,⟨16,.phase⟩,⟨17,.phase⟩,⟨18,.phase⟩,⟨19,.phase⟩,⟨20,.phase⟩,⟨21,.phase⟩,⟨22,.phase⟩,⟨23,.phase⟩,⟨24,.phase⟩,⟨25,.phase⟩,⟨26,.phase⟩,⟨27,.phase⟩,⟨28,.phase⟩,⟨29,.phase⟩,⟨30,.phase⟩,⟨31,.phase⟩,⟨32,.phase⟩,⟨33,.phase⟩,⟨34,.phase⟩],guard:=none }) (v:=?_) rfl (by kernel_rfl) (by kernel_rfl) (by kernel_rfl) (fun _ _ _ h=>h) (Or.inl ⟨by rfl,?_⟩) (by assumption) ?_
              rotate_left
              focus ((intro w hSw);(try dsimp only at hSw);go_simp;try with_reducible rfl)
              try simp only[Act.put,List.setIfInBounds_toArray,List.set_cons_zero,List.set_cons_succ]
              refine wpAnyH_done (by kernel_rfl) ?_ _
              obtain⟨k0,k1,k2,k3,k4,k5,k6,k7,k8,k9⟩:=hHeld
              have hxW:=hab.alloc (.cells #[.int .i64 X1,.int .i64 EV,.int .i64 X2,.int .i64 X3,.int .i64 L1,.int .i64 L2] 24)
              go_wp2_with fail
              go_meet
              case rel=>exact⟨rfl,Hy (B0.out.ext hxW),hx00.out.trans hxW⟩
             exact AllReadyH.nil
            exact AllReadyH.nil
           exact AllReadyH.nil
          exact AllReadyH.nil
         exact AllReadyH.nil
        exact AllReadyH.nil
       exact AllReadyH.nil
      exact AllReadyH.nil
     exact AllReadyH.nil
    refine AllReadyH.cons rfl (fun K hK=>?_) ?_
    ·skip
     go_simp
     (try go_simp)
     refine hK.out _ _ ?_ (fun hHeld=>?_)
     ·((try dsimp only);(first|(go_keep;done)|((try go_split_ands);(try dsimp only);(repeat' apply And.intro);all_goals (first|(go_keep;done)|(with_reducible exact hxh.cell (by assumption))|(refine hxh.cell ?_;go_simp)))))
     clear hK K
     try simp only[Act.put,List.setIfInBounds_toArray,List.set_cons_zero,List.set_cons_succ]
     refine wpAnyH_ready (rs:=[4]) (by kernel_rfl) (by simp) ?_
     refine AllReadyH.cons rfl (fun K hK=>?_) ?_
     ·skip
      go_simp
      go_at_call 46;with_reducible refine (CW1.out _).mono ?_;rintro e w' ⟨rfl,rfl⟩
      (try go_simp)
      refine hK.out _ _ ?_ (fun hHeld=>?_)
      ·((try dsimp only);(first|(go_keep;done)|((try go_split_ands);(try dsimp only);(repeat' apply And.intro);all_goals (first|(go_keep;done)|(with_reducible exact hxh.cell (by assumption))|(refine hxh.cell ?_;go_simp)))))
      clear hK K
      try simp only[Act.put,List.setIfInBounds_toArray,List.set_cons_zero,List.set_cons_succ]
      refine wpAnyH_ready (rs:=[8]) (by kernel_rfl) (by simp) ?_
      refine AllReadyH.cons rfl (fun K hK=>?_) ?_
      ·skip
       go_simp
       go_at_call 10;with_reducible refine (CV.out _ _ _ Ext.au (VerS.one (by first|(go_simp;done)|(refine Ext.cell hxh ?_;go_simp;done)) (by first|(go_simp;done)|(refine Ext.cell hxh ?_;go_simp;done)) (by first|(go_simp;done)|(refine Ext.cell hxh ?_;go_simp;done)) (by first|(go_simp;done)|(refine Ext.cell hxh ?_;go_simp;done)))).mono ?_;rintro e w' ⟨rfl,hxh,hab⟩
       (try go_simp)
       refine hK.out _ _ ?_ (fun hHeld=>?_)
       ·((try dsimp only);(first|(go_keep;done)|((try go_split_ands);(try dsimp only);(repeat' apply And.intro);all_goals (first|(go_keep;done)|(with_reducible exact hxh.cell (by assumption))|(refine hxh.cell ?_;go_simp)))))
       clear hK K
       try simp only[Act.put,List.setIfInBounds_toArray,List.set_cons_zero,List.set_cons_succ]
       refine wpAnyH_ready (rs:=[11]) (by kernel_rfl) (by simp) ?_
       refine AllReadyH.cons rfl (fun K hK=>?_) ?_
       ·skip
        go_simp
        go_at_call 23;with_reducible refine (CVL.out _).mono ?_;rintro e w' ⟨rfl,rfl⟩
        (try go_simp)
        refine hK.out _ _ ?_ (fun hHeld=>?_)
        ·((try dsimp only);(first|(go_keep;done)|((try go_split_ands);(try dsimp only);(repeat' apply And.intro);all_goals (first|(go_keep;done)|(with_reducible exact hxh.cell (by assumption))|(refine hxh.cell ?_;go_simp)))))
        clear hK K
        try simp only[Act.put,List.setIfInBounds_toArray,List.set_cons_zero,List.set_cons_succ]
        refine wpAnyH_take (i:=12) (v:=?_) rfl (by kernel_rfl) (by kernel_rfl) (by kernel_rfl) (fun _ _ _ h=>h) (Or.inl ⟨by rfl,?_⟩) (by assumption) ?_
        rotate_left
        focus ((intro w hSw);(try dsimp only at hSw);go_simp;try with_reducible rfl)
        try simp only[Act.put,List.setIfInBounds_toArray]
        refine wpAnyH_ready (rs:=[13]) (by kernel_rfl) (by simp) ?_
        refine AllReadyH.cons rfl (fun K hK=>?_) ?_
        ·skip
         go_simp
         go_at_call 46;with_reducible refine (CW2.out _).mono ?_;rintro e w' ⟨rfl,rfl⟩
         (try go_simp)
         refine hK.out _ _ ?_ (fun hHeld=>?_)
         ·((try dsimp only);(first|(go_keep;done)|((try go_split_ands);(try dsimp only);(repeat' apply And.intro);all_goals (first|(go_keep;done)|(with_reducible exact hxh.cell (by assumption))|(refine hxh.cell ?_;go_simp)))))
         clear hK K
         try simp only[Act.put,List.setIfInBounds_toArray,List.set_cons_zero,List.set_cons_succ]
         refine wpAnyH_take (i:=18) (v:=?_) rfl (by kernel_rfl) (by kernel_rfl) (by kernel_rfl) (fun _ _ _ h=>h) (Or.inl ⟨by rfl,?_⟩) (by assumption) ?_
         rotate_left
         focus ((intro w hSw);(try dsimp only at hSw);go_simp;try with_reducible rfl)
         try simp only[Act.put,List.setIfInBounds_toArray]
         refine wpAnyH_take (i:=19) (v:=_) rfl (by kernel_rfl) (by kernel_rfl) (by kernel_rfl) (fun _ _ _ h=>h) (Or.inr ⟨by rfl,rfl⟩) (by assumption) ?_
         try simp only[Act.put]
         refine wpAnyH_take (i:=20) (v:=_) rfl (by kernel_rfl) (by kernel_rfl) (by kernel_rfl) (fun _ _ _ h=>h) (Or.inr ⟨by rfl,rfl⟩) (by assumption) ?_
         try simp only[Act.put]
         refine wpAnyH_take (i:=21) (v:=_) rfl (by kernel_rfl) (by kernel_rfl) (by kernel_rfl) (fun _ _ _ h=>h) (Or.inr ⟨by rfl,rfl⟩) (by assumption) ?_
         try simp only[Act.put]
         refine wpAnyH_take (i:=22) (v:=_) rfl (by kernel_rfl) (by kernel_rfl) (by kernel_rfl) (fun _ _ _ h=>h) (Or.inr ⟨by rfl,rfl⟩) (by assumption) ?_
         try simp only[Act.put]
         refine wpAnyH_take (i:=23) (v:=?_) rfl (by kernel_rfl) (by kernel_rfl) (by kernel_rfl) (fun _ _ _ h=>h) (Or.inl ⟨by rfl,?_⟩) (by assumption) ?_
         rotate_left
         focus ((intro w hSw);(try dsimp only at hSw);go_simp;try with_reducible rfl)
         try simp only[Act.put]
         refine wpAnyH_ready (rs:=[24]) (by kernel_rfl) (by simp) ?_
         refine AllReadyH.cons rfl (fun K hK=>?_) ?_
         ·skip
          go_simp
          go_at_call 46;with_reducible refine (CW3.out _).mono ?_;rintro e w' ⟨rfl,rfl⟩
          (try go_simp)
          refine hK.out _ _ ?_ (fun hHeld=>?_)
          ·((try dsimp only);(first|(go_keep;done)|((try go_split_ands);(try dsimp only);(repeat' apply And.intro);all_goals (first|(go_keep;done)|(with_reducible exact hxh.cell (by assumption))|(refine hxh.cell ?_;go_simp)))))
          clear hK K
          try simp only[Act.put,List.setIfInBounds_toArray,List.set_cons_zero,List.set_cons_succ]
          refine wpAnyH_ready (rs:=[28]) (by kernel_rfl) (by simp) ?_
          refine AllReadyH.cons rfl (fun K hK=>?_) ?_
          ·skip
           go_simp
           go_at_call 112;with_reducible refine (CLA.out _ Ext.au).mono ?_;rintro e w' ⟨rfl,hxh,hab⟩
           (try go_simp)
           refine hK.out _ _ ?_ (fun hHeld=>?_)
           ·((try dsimp only);(first|(go_keep;done)|((try go_split_ands);(try dsimp only);(repeat' apply And.intro);all_goals (first|(go_keep;done)|(with_reducible exact hxh.cell (by assumption))|(refine hxh.cell ?_;go_simp)))))
           clear hK K
           try simp only[Act.put,List.setIfInBounds_toArray,List.set_cons_zero,List.set_cons_succ]
           refine wpAnyH_ready (rs:=[32]) (by kernel_rfl) (by simp) ?_
           refine AllReadyH.cons rfl (fun K hK=>?_) ?_
           ·skip
            go_simp
            go_at_call 112;with_reducible refine (CLB.out _ Ext.au).mono ?_;rintro e w' ⟨rfl,hxh,hab⟩
            (try go_simp)
            refine hK.out _ _ ?_ (fun hHeld=>?_)
            ·((try dsimp only);(first|(go_keep;done)|((try go_split_ands);(try dsimp only);(repeat' apply And.intro);all_goals (first|(go_keep;done)|(with_reducible exact hxh.cell (by assumption))|(refine hxh.cell ?_;go_simp)))))
            clear hK K
            try simp only[Act.put,List.setIfInBounds_toArray,List.set_cons_zero,List.set_cons_succ]
            refine wpAnyH_ready (rs:=[33]) (by kernel_rfl) (by simp) ?_
            refine AllReadyH.cons rfl (fun K hK=>?_) ?_
            ·skip
             go_simp
             (try go_simp)
             refine hK.out _ _ ?_ (fun hHeld=>?_)
             ·((try dsimp only);(first|(go_keep;done)|((try go_split_ands);(try dsimp only);(repeat' apply And.intro);all_goals (first|(go_keep;done)|(with_reducible exact hxh.cell (by assumption))|(refine hxh.cell ?_;go_simp)))))
             clear hK K
             try simp only[Act.put,List.setIfInBounds_toArray,List.set_cons_zero,List.set_cons_succ]
             refine wpAnyH_ready (rs:=[34]) (by kernel_rfl) (by simp) ?_
             refine AllReadyH.cons rfl (fun K hK=>?_) ?_
             ·skip
              go_simp
              go_at_call 11;refine (CFI.out _ _ _ (by intro k hk;rw[World.cell?_alloc_at _ _ _ _ rfl];match k,hk with|0,_=>rfl|1,_=>rfl|2,_=>rfl|3,_=>rfl|4,_=>rfl|5,_=>rfl)).mono ?_;rintro e w' ⟨rfl,rfl⟩
              (try go_simp)
              refine hK.out _ _ ?_ (fun hHeld=>?_)
              ·((try dsimp only);(first|(go_keep;done)|((try go_split_ands);(try dsimp only);(repeat' apply And.intro);all_goals (first|(go_keep;done)|(with_reducible exact hxh.cell (by assumption))|(refine hxh.cell ?_;go_simp)))))
              clear hK K
              try simp only[Act.put,List.setIfInBounds_toArray,List.set_cons_zero,List.set_cons_succ]
              refine wpAnyH_take (i:=35) (oi:={ dst:=some 3,op:=.assign (.tmp 57),type:=24,pos:="pack.go:124",after:=#[⟨34,.data⟩,⟨34,.chain⟩,⟨0,.phase⟩,⟨1,.phase⟩,⟨2,.phase⟩,⟨3,.phase⟩,⟨4,.phase⟩,⟨5,.phase⟩,⟨6,.phase⟩,⟨7,.phase⟩,⟨8,.phase⟩,⟨9,.phase⟩,⟨10,.phase⟩,⟨11,.phase⟩,⟨12,.phase⟩,⟨13,.phase⟩,⟨14,.phase⟩,⟨15,.phase⟩,⟨16,.phase⟩,⟨17,.phase⟩,⟨18,.phase⟩,⟨19,.phase⟩,⟨20,.phase⟩,⟨21,.phase⟩,⟨22,.phase⟩,⟨23,.phase⟩,⟨24,.phase⟩,⟨25,.phase⟩,⟨26,.phase⟩,⟨27,.phase⟩,⟨28,.phase⟩,⟨29,.phase⟩,⟨30,.phase⟩,⟨31,.phase⟩,⟨32,.phase⟩,⟨33,.phase⟩,⟨34,.phase⟩],guard:=none }) (v:=?_) rfl (by kernel_rfl) (by kernel_rfl) (by kernel_rfl) (fun _ _ _ h=>h) (Or.inl ⟨by rfl,?_⟩) (by assumption) ?_
              rotate_left
              focus ((intro w hSw);(try dsimp only at hSw);go_simp;try with_reducible rfl)
              try simp only[Act.put,List.setIfInBounds_toArray,List.set_cons_zero,List.set_cons_succ]
              refine wpAnyH_done (by kernel_rfl) ?_ _
              obtain⟨k0,k1,k2,k3,k4,k5,k6,k7,k8,k9⟩:=hHeld
              have hxW:=hab.alloc (.cells #[.int .i64 X1,.int .i64 EV,.int .i64 X2,.int .i64 X3,.int .i64 L1,.int .i64 L2] 24)
              go_wp2_with fail
              go_meet
              case rel=>exact⟨rfl,Hy (B0.out.ext hxW),hx00.out.trans hxW⟩
             exact AllReadyH.nil
            exact AllReadyH.nil
           exact AllReadyH.nil
          exact AllReadyH.nil
         exact AllReadyH.nil
        exact AllReadyH.nil
       exact AllReadyH.nil
      exact AllReadyH.nil
     exact AllReadyH.nil
    exact AllReadyH.nil
   refine AllReadyH.cons rfl (fun K hK=>?_) ?_
   ·skip
    go_simp
    (try go_simp)
    refine hK.out _ _ ?_ (fun hHeld=>?_)
    ·((try dsimp only);(first|(go_keep;done)|((try go_split_ands);(try dsimp only);(repeat' apply And.intro);all_goals (first|(go_keep;done)|(with_reducible exact hxh.cell (by assumption))|(refine hxh.cell ?_;go_simp)))))
    clear hK K
    try simp only[Act.put,List.setIfInBounds_toArray,List.set_cons_zero,List.set_cons_succ]
    refine wpAnyH_ready (rs:=[2]) (by kernel_rfl) (by simp) ?_
    refine AllReadyH.cons rfl (fun K hK=>?_) ?_
    ·skip
     go_simp
     go_at_call 19;with_reducible refine (CNE.out _ Ext.au).mono ?_;rintro e w' ⟨rfl,hxh,hab⟩
     (try go_simp)
     refine hK.out _ _ ?_ (fun hHeld=>?_)
     ·((try dsimp only);(first|(go_keep;done)|((try go_split_ands);(try dsimp only);(repeat' apply And.intro);all_goals (first|(go_keep;done)|(with_reducible exact hxh.cell (by assumption))|(refine hxh.cell ?_;go_simp)))))
     clear hK K
     try simp only[Act.put,List.setIfInBounds_toArray,List.set_cons_zero,List.set_cons_succ]
     refine wpAnyH_take (i:=3) (v:=?_) rfl (by kernel_rfl) (by kernel_rfl) (by kernel_rfl) (fun _ _ _ h=>h) (Or.inl ⟨by rfl,?_⟩) (by assumption) ?_
     rotate_left
     focus ((intro w hSw);(try dsimp only at hSw);go_simp;try with_reducible rfl)
     try simp only[Act.put,List.setIfInBounds_toArray]
     refine wpAnyH_ready (rs:=[4]) (by kernel_rfl) (by simp) ?_
     refine AllReadyH.cons rfl (fun K hK=>?_) ?_
     ·skip
      go_simp
      go_at_call 46;with_reducible refine (CW1.out _).mono ?_;rintro e w' ⟨rfl,rfl⟩
      (try go_simp)
      refine hK.out _ _ ?_ (fun hHeld=>?_)
      ·((try dsimp only);(first|(go_keep;done)|((try go_split_ands);(try dsimp only);(repeat' apply And.intro);all_goals (first|(go_keep;done)|(with_reducible exact hxh.cell (by assumption))|(refine hxh.cell ?_;go_simp)))))
      clear hK K
      try simp only[Act.put,List.setIfInBounds_toArray,List.set_cons_zero,List.set_cons_succ]
      refine wpAnyH_ready (rs:=[8]) (by kernel_rfl) (by simp) ?_
      refine AllReadyH.cons rfl (fun K hK=>?_) ?_
      ·skip
       go_simp
       go_at_call 10;with_reducible refine (CV.out _ _ _ Ext.au (VerS.one (by first|(go_simp;done)|(refine Ext.cell hxh ?_;go_simp;done)) (by first|(go_simp;done)|(refine Ext.cell hxh ?_;go_simp;done)) (by first|(go_simp;done)|(refine Ext.cell hxh ?_;go_simp;done)) (by first|(go_simp;done)|(refine Ext.cell hxh ?_;go_simp;done)))).mono ?_;rintro e w' ⟨rfl,hxh,hab⟩
       (try go_simp)
       refine hK.out _ _ ?_ (fun hHeld=>?_)
       ·((try dsimp only);(first|(go_keep;done)|((try go_split_ands);(try dsimp only);(repeat' apply And.intro);all_goals (first|(go_keep;done)|(with_reducible exact hxh.cell (by assumption))|(refine hxh.cell ?_;go_simp)))))
       clear hK K
       try simp only[Act.put,List.setIfInBounds_toArray,List.set_cons_zero,List.set_cons_succ]
       refine wpAnyH_ready (rs:=[11]) (by kernel_rfl) (by simp) ?_
       refine AllReadyH.cons rfl (fun K hK=>?_) ?_
       ·skip
        go_simp
        go_at_call 23;with_reducible refine (CVL.out _).mono ?_;rintro e w' ⟨rfl,rfl⟩
        (try go_simp)
        refine hK.out _ _ ?_ (fun hHeld=>?_)
        ·((try dsimp only);(first|(go_keep;done)|((try go_split_ands);(try dsimp only);(repeat' apply And.intro);all_goals (first|(go_keep;done)|(with_reducible exact hxh.cell (by assumption))|(refine hxh.cell ?_;go_simp)))))
        clear hK K
        try simp only[Act.put,List.setIfInBounds_toArray,List.set_cons_zero,List.set_cons_succ]
        refine wpAnyH_take (i:=12) (v:=?_) rfl (by kernel_rfl) (by kernel_rfl) (by kernel_rfl) (fun _ _ _ h=>h) (Or.inl ⟨by rfl,?_⟩) (by assumption) ?_
        rotate_left
        focus ((intro w hSw);(try dsimp only at hSw);go_simp;try with_reducible rfl)
        try simp only[Act.put,List.setIfInBounds_toArray]
        refine wpAnyH_ready (rs:=[13]) (by kernel_rfl) (by simp) ?_
        refine AllReadyH.cons rfl (fun K hK=>?_) ?_
        ·skip
         go_simp
         go_at_call 46;with_reducible refine (CW2.out _).mono ?_;rintro e w' ⟨rfl,rfl⟩
         (try go_simp)
         refine hK.out _ _ ?_ (fun hHeld=>?_)
         ·((try dsimp only);(first|(go_keep;done)|((try go_split_ands);(try dsimp only);(repeat' apply And.intro);all_goals (first|(go_keep;done)|(with_reducible exact hxh.cell (by assumption))|(refine hxh.cell ?_;go_simp)))))
         clear hK K
         try simp only[Act.put,List.setIfInBounds_toArray,List.set_cons_zero,List.set_cons_succ]
         refine wpAnyH_take (i:=18) (v:=?_) rfl (by kernel_rfl) (by kernel_rfl) (by kernel_rfl) (fun _ _ _ h=>h) (Or.inl ⟨by rfl,?_⟩) (by assumption) ?_
         rotate_left
         focus ((intro w hSw);(try dsimp only at hSw);go_simp;try with_reducible rfl)
         try simp only[Act.put,List.setIfInBounds_toArray]
         refine wpAnyH_take (i:=19) (v:=_) rfl (by kernel_rfl) (by kernel_rfl) (by kernel_rfl) (fun _ _ _ h=>h) (Or.inr ⟨by rfl,rfl⟩) (by assumption) ?_
         try simp only[Act.put]
         refine wpAnyH_take (i:=20) (v:=_) rfl (by kernel_rfl) (by kernel_rfl) (by kernel_rfl) (fun _ _ _ h=>h) (Or.inr ⟨by rfl,rfl⟩) (by assumption) ?_
         try simp only[Act.put]
         refine wpAnyH_take (i:=21) (v:=_) rfl (by kernel_rfl) (by kernel_rfl) (by kernel_rfl) (fun _ _ _ h=>h) (Or.inr ⟨by rfl,rfl⟩) (by assumption) ?_
         try simp only[Act.put]
         refine wpAnyH_take (i:=22) (v:=_) rfl (by kernel_rfl) (by kernel_rfl) (by kernel_rfl) (fun _ _ _ h=>h) (Or.inr ⟨by rfl,rfl⟩) (by assumption) ?_
         try simp only[Act.put]
         refine wpAnyH_take (i:=23) (v:=?_) rfl (by kernel_rfl) (by kernel_rfl) (by kernel_rfl) (fun _ _ _ h=>h) (Or.inl ⟨by rfl,?_⟩) (by assumption) ?_
         rotate_left
         focus ((intro w hSw);(try dsimp only at hSw);go_simp;try with_reducible rfl)
         try simp only[Act.put]
         refine wpAnyH_ready (rs:=[24]) (by kernel_rfl) (by simp) ?_
         refine AllReadyH.cons rfl (fun K hK=>?_) ?_
         ·skip
          go_simp
          go_at_call 46;with_reducible refine (CW3.out _).mono ?_;rintro e w' ⟨rfl,rfl⟩
          (try go_simp)
          refine hK.out _ _ ?_ (fun hHeld=>?_)
          ·((try dsimp only);(first|(go_keep;done)|((try go_split_ands);(try dsimp only);(repeat' apply And.intro);all_goals (first|(go_keep;done)|(with_reducible exact hxh.cell (by assumption))|(refine hxh.cell ?_;go_simp)))))
          clear hK K
          try simp only[Act.put,List.setIfInBounds_toArray,List.set_cons_zero,List.set_cons_succ]
          refine wpAnyH_ready (rs:=[28]) (by kernel_rfl) (by simp) ?_
          refine AllReadyH.cons rfl (fun K hK=>?_) ?_
          ·skip
           go_simp
           go_at_call 112;with_reducible refine (CLA.out _ Ext.au).mono ?_;rintro e w' ⟨rfl,hxh,hab⟩
           (try go_simp)
           refine hK.out _ _ ?_ (fun hHeld=>?_)
           ·((try dsimp only);(first|(go_keep;done)|((try go_split_ands);(try dsimp only);(repeat' apply And.intro);all_goals (first|(go_keep;done)|(with_reducible exact hxh.cell (by assumption))|(refine hxh.cell ?_;go_simp)))))
           clear hK K
           try simp only[Act.put,List.setIfInBounds_toArray,List.set_cons_zero,List.set_cons_succ]
           refine wpAnyH_ready (rs:=[32]) (by kernel_rfl) (by simp) ?_
           refine AllReadyH.cons rfl (fun K hK=>?_) ?_
           ·skip
            go_simp
            go_at_call 112;with_reducible refine (CLB.out _ Ext.au).mono ?_;rintro e w' ⟨rfl,hxh,hab⟩
            (try go_simp)
            refine hK.out _ _ ?_ (fun hHeld=>?_)
            ·((try dsimp only);(first|(go_keep;done)|((try go_split_ands);(try dsimp only);(repeat' apply And.intro);all_goals (first|(go_keep;done)|(with_reducible exact hxh.cell (by assumption))|(refine hxh.cell ?_;go_simp)))))
            clear hK K
            try simp only[Act.put,List.setIfInBounds_toArray,List.set_cons_zero,List.set_cons_succ]
            refine wpAnyH_ready (rs:=[33]) (by kernel_rfl) (by simp) ?_
            refine AllReadyH.cons rfl (fun K hK=>?_) ?_
            ·skip
             go_simp
             (try go_simp)
             refine hK.out _ _ ?_ (fun hHeld=>?_)
             ·((try dsimp only);(first|(go_keep;done)|((try go_split_ands);(try dsimp only);(repeat' apply And.intro);all_goals (first|(go_keep;done)|(with_reducible exact hxh.cell (by assumption))|(refine hxh.cell ?_;go_simp)))))
             clear hK K
             try simp only[Act.put,List.setIfInBounds_toArray,List.set_cons_zero,List.set_cons_succ]
             refine wpAnyH_ready (rs:=[34]) (by kernel_rfl) (by simp) ?_
             refine AllReadyH.cons rfl (fun K hK=>?_) ?_
             ·skip
              go_simp
              go_at_call 11;refine (CFI.out _ _ _ (by intro k hk;rw[World.cell?_alloc_at _ _ _ _ rfl];match k,hk with|0,_=>rfl|1,_=>rfl|2,_=>rfl|3,_=>rfl|4,_=>rfl|5,_=>rfl)).mono ?_;rintro e w' ⟨rfl,rfl⟩
              (try go_simp)
              refine hK.out _ _ ?_ (fun hHeld=>?_)
              ·((try dsimp only);(first|(go_keep;done)|((try go_split_ands);(try dsimp only);(repeat' apply And.intro);all_goals (first|(go_keep;done)|(with_reducible exact hxh.cell (by assumption))|(refine hxh.cell ?_;go_simp)))))
              clear hK K
              try simp only[Act.put,List.setIfInBounds_toArray,List.set_cons_zero,List.set_cons_succ]
              refine wpAnyH_take (i:=35) (oi:={ dst:=some 3,op:=.assign (.tmp 57),type:=24,pos:="pack.go:124",after:=#[⟨34,.data⟩,⟨34,.chain⟩,⟨0,.phase⟩,⟨1,.phase⟩,⟨2,.phase⟩,⟨3,.phase⟩,⟨4,.phase⟩,⟨5,.phase⟩,⟨6,.phase⟩,⟨7,.phase⟩,⟨8,.phase⟩,⟨9,.phase⟩,⟨10,.phase⟩,⟨11,.phase⟩,⟨12,.phase⟩,⟨13,.phase⟩,⟨14,.phase⟩,⟨15,.phase⟩,⟨16,.phase⟩,⟨17,.phase⟩,⟨18,.phase⟩,⟨19,.phase⟩,⟨20,.phase⟩,⟨21,.phase⟩,⟨22,.phase⟩,⟨23,.phase⟩,⟨24,.phase⟩,⟨25,.phase⟩,⟨26,.phase⟩,⟨27,.phase⟩,⟨28,.phase⟩,⟨29,.phase⟩,⟨30,.phase⟩,⟨31,.phase⟩,⟨32,.phase⟩,⟨33,.phase⟩,⟨34,.phase⟩],guard:=none }) (v:=?_) rfl (by kernel_rfl) (by kernel_rfl) (by kernel_rfl) (fun _ _ _ h=>h) (Or.inl ⟨by rfl,?_⟩) (by assumption) ?_
              rotate_left
              focus ((intro w hSw);(try dsimp only at hSw);go_simp;try with_reducible rfl)
              try simp only[Act.put,List.setIfInBounds_toArray,List.set_cons_zero,List.set_cons_succ]
              refine wpAnyH_done (by kernel_rfl) ?_ _
              obtain⟨k0,k1,k2,k3,k4,k5,k6,k7,k8,k9⟩:=hHeld
              have hxW:=hab.alloc (.cells #[.int .i64 X1,.int .i64 EV,.int .i64 X2,.int .i64 X3,.int .i64 L1,.int .i64 L2] 24)
              go_wp2_with fail
              go_meet
              case rel=>exact⟨rfl,Hy (B0.out.ext hxW),hx00.out.trans hxW⟩
             exact AllReadyH.nil
            exact AllReadyH.nil
           exact AllReadyH.nil
          exact AllReadyH.nil
         exact AllReadyH.nil
        exact AllReadyH.nil
       exact AllReadyH.nil
      exact AllReadyH.nil
     exact AllReadyH.nil
    exact AllReadyH.nil
   exact AllReadyH.nil
  ·obtain rfl:G1=false:=by rw[<-hG1];exact decide_eq_false (by omega)
   simp only[Bool.false_or] at CW3
   go_region_held3 (fun w'=>w'.cell? ⟨w.heap.size,0,none⟩=some (.string pn)∧w'.cell? ⟨w.heap.size,1,none⟩=some (.int .i64 v1)∧w'.cell? ⟨w.heap.size,2,none⟩=some (.int .i64 v2)∧w'.cell? ⟨w.heap.size,3,none⟩=some (.int .i64 v3)∧w'.cell? ⟨w.heap.size,4,none⟩=some (.string va)∧w'.cell? ⟨w.heap.size,5,none⟩=some (.string pt)∧w'.cell? ⟨w.heap.size,6,none⟩=some (.slice A l1 c)∧w'.cell? ⟨w.heap.size,7,none⟩=some (.slice A2 l2 c2)∧w'.cell? ⟨w.heap.size,8,none⟩=some (.slice A3 n c3)∧w'.cell? ⟨w.heap.size,9,none⟩=some (.slice A4 l4 c4)) (first|(go_keep;done)|((try go_split_ands);(try dsimp only);(repeat' apply And.intro);all_goals (first|(go_keep;done)|(with_reducible exact hxh.cell (by assumption))|(refine hxh.cell ?_;go_simp))))
    (first
    | (go_at_call 19;with_reducible refine (CNE.out _ Ext.au).mono ?_;rintro e w' ⟨rfl,hxh,hab⟩)
    | (go_at_call 10;with_reducible refine (CV.out _ _ _ Ext.au (VerS.one (by first|(go_simp;done)|(refine Ext.cell hxh ?_;go_simp;done)) (by first|(go_simp;done)|(refine Ext.cell hxh ?_;go_simp;done)) (by first|(go_simp;done)|(refine Ext.cell hxh ?_;go_simp;done)) (by first|(go_simp;done)|(refine Ext.cell hxh ?_;go_simp;done)))).mono ?_;rintro e w' ⟨rfl,hxh,hab⟩)
    | (go_at_call 23;with_reducible refine (CVL.out _).mono ?_;rintro e w' ⟨rfl,rfl⟩)
    | (go_at_call 112;with_reducible refine (CLA.out _ Ext.au).mono ?_;rintro e w' ⟨rfl,hxh,hab⟩)
    | (go_at_call 112;with_reducible refine (CLB.out _ Ext.au).mono ?_;rintro e w' ⟨rfl,hxh,hab⟩)
    | (go_at_call 46;with_reducible refine (CW1.out _).mono ?_;rintro e w' ⟨rfl,rfl⟩)
    | (go_at_call 46;with_reducible refine (CW2.out _).mono ?_;rintro e w' ⟨rfl,rfl⟩)
    | (go_at_call 46;with_reducible refine (CW3.out _).mono ?_;rintro e w' ⟨rfl,rfl⟩)
    | (go_at_call 11;refine (CFI.out _ _ _ (by intro k hk;rw[World.cell?_alloc_at _ _ _ _ rfl];match k,hk with|0,_=>rfl|1,_=>rfl|2,_=>rfl|3,_=>rfl|4,_=>rfl|5,_=>rfl)).mono ?_;rintro e w' ⟨rfl,rfl⟩))
   all_goals
    rename_i hHeld
    obtain⟨k0,k1,k2,k3,k4,k5,k6,k7,k8,k9⟩:=hHeld
    have hxW:=hab.alloc (.cells #[.int .i64 X1,.int .i64 EV,.int .i64 X2,.int .i64 X3,.int .i64 L1,.int .i64 L2] 24)
    go_wp2_with fail
    go_meet
    case rel=>exact⟨rfl,Hy (B0.out.ext hxW),hx00.out.trans hxW⟩
 case rest =>
  obtain⟨rfl,B1,hxc⟩:=hcut
  have e1:=B1.out.cell;have l1':=B1.out.lt
  clear b0 hx0 CFI CW1 CW2 CW3 CL1 CL2 CNM CVL CVE hG1 hG2
  go_wp2_with fail
  refine wp_region_ext_tail 11 (by kernel_rfl) (by kernel_rfl) ?_
  simp only[List.take_succ_cons,List.take_zero,List.drop_succ_cons,List.drop_zero]
  repeat (first|go_big_quiet_skip|(refine wpQuiet_step (fun K hK=>?_);go_simp;first|(refine hK _ ?_;clear hK K)|(apply Exists.intro;refine⟨fun wq hwq=>?_,hK _ ?_⟩;(obtain⟨hqc,hqf⟩:=hwq.cells;have hqs:=hwq.size;(try go_simp);first|rfl|((first|rw[if_neg (by omega)]|rw[if_pos (by omega)]);(try go_simp);rfl)|(((first|(go_at_call 46;exact (CW4.out _).mono (fun e w'' h=>⟨h.1,h.2 ▸ hwq⟩))|(go_at_call 46;exact (CW5.out _).mono (fun e w'' h=>⟨h.1,h.2 ▸ hwq⟩))))));clear hK K)))
  refine wpQuiet_nil ?_
  intro wN hxN
  obtain⟨hcN,hfN⟩:=hxN.cells
  have hsN:=hxN.size
  go_wp2_with fail
  refine (First_any _ _ [F,X4,X5] _ ?_ (by simp)).mono ?_
  ·intro kq hkq
   rw[World.cell?_alloc_at _ _ _ _ rfl]
   match kq,hkq with
   | 0,_=>rfl
   | 1,_=>rfl
   | 2,_=>rfl
  rw[<-HH.out]
  rintro e w' ⟨rfl,rfl⟩
  have hx2:Ext wc (wN.alloc (.cells #[.int .i64 F,.int .i64 X4,.int .i64 X5] 24)):=hxN.alloc _
  generalize wN.alloc (.cells #[.int .i64 F,.int .i64 X4,.int .i64 X5] 24)=W2 at *
  have hx02:=hxc.trans hx2
  have B2:=Hy (B1.out.ext hx2)
  clear e1 l1' hxN hcN hfN hsN CW4 CW5 HH hG3 hG4 B1 hx2 hxc
  have e2:=B2.out.cell;have l2':=B2.out.lt
  by_cases hH:H=0
  rotate_left
  ·have HEE:=Hy (show E=H from by rw[HE.out];exact f2_ne _ hH)
   have hne:(H != 0)=true:=by rw[bne_iff_ne];exact hH
   clear hH
   go_wp2
   go_ret
   exact⟨ret_int HEE.out.symm,hx02⟩
  have HOK2:=Hy (HOK.out hH)
  have HE1:=Hy (show E=f2 (firstN n (cpAt l)) (f2 (firstN n (webAt l)) (f2 PL (f2 (pmvErr pm) (if 524288 < bytesOf (itemsL l) then 4 else 0)))) from by rw[HE.out,hH];rfl)
  clear HOK HE
  subst hH
  go_wp2
  clear e2 l2'
  go_loopw [77] (fun i wr=>∃ k:Nat,k<=n∧i=.int .i64 k∧Hid (∀ j,j < k->cpAt l j=0)∧Ext W2 wr) (fun i _=>n - (intOf i).toNat)
  case atStart=>exact⟨0,Nat.zero_le _,rfl,Hy (fun j h=>absurd h (Nat.not_lt_zero _)),Ext.refl _⟩
  case round =>
   obtain⟨k,hk,rfl,H0,hxr⟩:=hrel
   obtain⟨wo,rfl⟩:∃ wo:World,wo=wr:=⟨_,rfl⟩
   have hxw:=hx02.trans hxr
   have B3:=Hy (B2.out.ext hxr)
   have e3:=B3.out.cell;have l3':=B3.out.lt
   by_cases hlt:k < n
   ·have CC:=Hy (CCE.out k hlt)
    have HBD:=Hy (show ¬ cpAt l k=0->E=cpAt l k from fun h=>by rw[HE1.out,firstN_at hlt H0.out h];exact f2_ne _ h)
    have HNX:=Hy (show cpAt l k=0->∀ j,j < k+1->cpAt l j=0 from firstN_next H0.out)
    generalize cpAt l k=Z at *
    go_wp2_with fail
    refine (CC.out _ hxw).mono ?_
    rintro e w3 ⟨rfl,hx3⟩
    clear e3 l3'
    by_cases hZ:Z=0
    ·have HO:=Hy (HNX.out hZ)
     subst hZ
     go_wp2
     go_roundw
     case rel=>exact⟨k+1,by omega,by go_num,HO,hxr.trans hx3⟩
     case measure=>simp[intOf];omega
    ·have HEE:=Hy (HBD.out hZ)
     have hne:(Z != 0)=true:=by rw[bne_iff_ne];exact hZ
     clear hZ
     go_wp2
     go_ret
     exact⟨ret_int HEE.out.symm,hxw.trans hx3⟩
   ·obtain rfl:n=k:=by omega
    have HND2:=Hy (HND.out H0.out)
    have HE2:=Hy (show E=f2 (firstN n (webAt l)) (f2 PL (f2 (pmvErr pm) (if 524288 < bytesOf (itemsL l) then 4 else 0))) from by rw[HE1.out,firstN_zero H0.out];rfl)
    have CN2:=Hy (CND.out HND2.out)
    have CPE2:=Hy (CPE.out HOK2.out.1 HND2.out)
    have CLD2:=Hy (CLD.out HOK2.out.1)
    clear H0 HE1 HND CND CPE CLD CCE
    go_wp2_with fail
    refine (CN2.out _ hxw).mono ?_
    rintro e w4 ⟨bA,rfl,hbA,hma,hx4⟩
    have hx04:=hxw.trans hx4
    have HMA:=Hy hma
    have CLX:=Hy (fun W (h:Ext w4 W) a (ha:a.size<=2097152)=>CLD2.out wo bA n a W (hx4.trans h) ha (hma.ext h))
    have CPX:=Hy (fun W (h:Ext w4 W)=>CPE2.out wo bA n W (hx04.trans h) (hx4.trans h) (hma.ext h))
    have B4:=Hy (B3.out.ext hx4)
    have e4:=B4.out.cell;have l4':=B4.out.lt
    clear e3 l3' B3 hma CN2 CPE2 CLD2
    go_wp2
    clear e4 l4'
    go_loopw [92] (fun i wr=>∃ k:Nat,k<=n∧i=.int .i64 k∧Hid (∀ j,j < k->webAt l j=0)∧Ext w4 wr) (fun i _=>n - (intOf i).toNat)
    case atStart=>exact⟨0,Nat.zero_le _,rfl,Hy (fun j h=>absurd h (Nat.not_lt_zero _)),Ext.refl _⟩
    case round =>
     clear hk hxr hxw
     obtain⟨k,hk,rfl,H0,hxr⟩:=hrel
     obtain⟨ws,rfl⟩:∃ ws:World,ws=wr:=⟨_,rfl⟩
     have hxws:=hx04.trans hxr
     by_cases hlt:k < n
     ·have hk1:k < l.length:=by rw[HN.out];exact hlt
      obtain⟨b,o,rfl,hX⟩:=HR.out (fun e=>by rw[e] at hk1;exact absurd hk1 (Nat.not_lt_zero _))
      obtain⟨k0,n0,x0,A5,m5,c5,A6,c6,A7,c7,A8,c8,hrow⟩:=hX k hk1
      have LD:=load_Cm (hrow.ext hxws)
      have HIN:=Hy hrow.has.needs
      have hsc:=HS.out.comps _ (List.getElem_mem hk1)
      have hnl6:=hsc.nlen
      have hnm:=hsc.name
      have HNZ:=Hy hsc.needs
      have HBAD:=Hy (fun j (hj:j < l[k].needs.length) h=>web_none hk1 hj h)
      have HALL:=Hy (web_all hk1)
      have HBE:=Hy (show ¬ webAt l k=0->E=webAt l k from fun h=>by rw[HE2.out,firstN_at hlt H0.out h];exact f2_ne _ h)
      have HNX:=Hy (show webAt l k=0->∀ j,j < k+1->webAt l j=0 from firstN_next H0.out)
      clear hX hrow hsc
      generalize webAt l k=Z at *
      generalize l[k]=q at *
      obtain⟨qn,qt,qd,qa,qw,qe,qi,qs⟩:=q
      dsimp only[cmV] at *
      generalize h6:qe.length=l6 at LD hnl6 ⊢
      have H6:=Hy h6
      clear h6
      generalize qi.length=l7 at *
      generalize qs.length=l8 at *
      have b1:=Blk.new ws 82 #[.string qn,.string qt,.bool qd,.bool qa,.int .i64 k0,.string n0,.string x0,.slice A5 m5 c5,.slice A6 l6 c6,.slice A7 l7 c7,.slice A8 l8 c8]
      have hxa:Ext ws (ws.alloc (.cells #[.string qn,.string qt,.bool qd,.bool qa,.int .i64 k0,.string n0,.string x0,.slice A5 m5 c5,.slice A6 l6 c6,.slice A7 l7 c7,.slice A8 l8 c8] 82)):=(Ext.refl ws).alloc _
      generalize hW1:ws.alloc (.cells #[.string qn,.string qt,.bool qd,.bool qa,.int .i64 k0,.string n0,.string x0,.slice A5 m5 c5,.slice A6 l6 c6,.slice A7 l7 c7,.slice A8 l8 c8] 82)=W1 at *
      have HW1:=Hy hW1
      clear hW1
      have e1:=b1.cell;have l1':=b1.lt
      go_wp2_with (refine wpList_load_at rfl _ _ rfl _ rfl _ LD ?_)
      rw[HW1.out]
      clear LD e1 l1'
      go_loopw [99] (fun i wr=>∃ j:Nat,j<=l6∧i=.int .i64 j∧Hid (∀ t (ht:t < qe.length),t < j->isComp l qe[t]=true)∧Ext W1 wr) (fun i _=>l6 - (intOf i).toNat)
      case atStart=>exact⟨0,Nat.zero_le _,rfl,Hy (fun t _ h=>absurd h (Nat.not_lt_zero _)),Ext.refl _⟩
      case round =>
       obtain⟨j,hj,rfl,HJ,hx7⟩:=hrel
       obtain⟨w7,rfl⟩:∃ w7:World,w7=wr:=⟨_,rfl⟩
       have hx47:=hxr.trans (hxa.trans hx7)
       by_cases hlt3:j < l6
       ·have hj1:j < qe.length:=by rw[H6.out];exact hlt3
        obtain⟨bn,on,rfl,hXn⟩:=(HIN.out.ext (hx04.trans hx47)) (fun e=>by rw[e] at hj1;exact absurd hj1 (Nat.not_lt_zero _))
        have hC:=hXn j hj1
        obtain⟨A',c',_,hlk,_⟩:=(HMA.out.ext hx47).look qe[j] (HNZ.out _ (List.getElem_mem hj1))
        have HBJ:=Hy (HBAD.out j hj1)
        have HNJ:=Hy (show isComp l qe[j]=true->∀ t (ht:t < qe.length),t < j+1->isComp l qe[t]=true from fun h t ht htj=>by
         rcases Nat.lt_or_ge t j with h1|h1
         ·exact HJ.out t ht h1
         ·obtain rfl:t=j:=by omega
          exact h)
        clear hXn HJ
        generalize qe[j]=y at *
        generalize isComp l y=D at *
        generalize (needsOf l y).length=ny at *
        cases D with
        | false =>
          have HEE:=Hy (show E=10 from by have hz:=HBJ.out rfl;rw[HBE.out (by rw[hz];decide),hz])
          go_wp2
          go_ret
          exact⟨ret_int HEE.out.symm,hx04.trans hx47⟩
        | true =>
          have HO:=Hy (HNJ.out rfl)
          go_wp2
          go_roundw
          case rel=>exact⟨j+1,by omega,by go_num,HO,hx7⟩
          case measure=>simp[intOf];omega
       ·obtain rfl:j=l6:=by omega
        have HZ:=Hy (HALL.out (fun t ht=>HJ.out t ht (by rw[<-H6.out];exact ht)))
        have cB:w7.cell? ⟨ws.heap.size,0,none⟩=some (.string qn):=(b1.ext hx7).cell 0
        have lB:=(b1.ext hx7).lt
        have CLY:=Hy (show ∀ W,Ext w7 W->Calls Tryz.prog 115 #[.map (some bA),.string qn] W fun e w'=>∃ s,e=.returned (.map (some s))∧(Instr.lookup 191 (.map (some s)) (.string qn) false).run Tryz.prog w'=.ok (.bool (leadsB l qn qn)) w'∧Ext W w'∧Ext w7 w' from fun W h =>
         (CLX.out W (hx47.trans h) qn hnm).mono fun e w' hh=>by
           obtain⟨s,N,L,he,_,hks,_,hll,hx⟩:=hh
           have hlk:=hks.look (t:=191) Tryz.underlying191 qn (by omega)
           rw[show decide (bs qn∈L.map bs)=leadsB l qn qn from by rw[Bool.eq_iff_iff,decide_eq_true_eq,mem_bs,hll,leadsB_iff]] at hlk
           exact⟨s,he,hlk,hx,h.trans hx⟩)
        generalize leadsB l qn qn=D at *
        clear HJ HALL
        go_wp2
        first
        | (go_region_held3 (fun w'=>w'.cell? ⟨ws.heap.size,0,none⟩=some (.string qn)) (first|(go_keep;done)|(with_reducible exact hxh.cell (by assumption))|(refine hxh.cell ?_;go_simp))
            (first
            | (go_at_call 115;with_reducible refine (CLY.out _ Ext.au).mono ?_;rintro e w' ⟨s,rfl,hlk,hxh,hab⟩)))
        | fail
        all_goals
         rename_i hHeld
         clear hHeld cB lB
         cases D with
         | true =>
           have HEE:=Hy (show E=13 from by have hz:=HZ.out;rw[HBE.out (by rw[hz];decide),hz];rfl)
           go_wp2
           go_ret
           exact⟨ret_int HEE.out.symm,hx04.trans (hx47.trans hab)⟩
         | false =>
           have HO:=Hy (HNX.out (by rw[HZ.out];rfl))
           go_wp2
           go_roundw
           case rel=>exact⟨k+1,by omega,by go_num,HO,hx47.trans hab⟩
           case measure=>simp[intOf];omega
     ·obtain rfl:n=k:=by omega
      have HE3:=Hy (show E=f2 PL (f2 (pmvErr pm) (if 524288 < bytesOf (itemsL l) then 4 else 0)) from by rw[HE2.out,firstN_zero H0.out];rfl)
      have B5:=Hy (B4.out.ext hxr)
      have e5:=B5.out.cell;have l5':=B5.out.lt
      clear H0 HE2 CLX B4
      go_wp2_with fail
      refine (CPX.out _ hxr).mono ?_
      rintro e w5 ⟨rfl,hx5⟩
      clear e5 l5' CPX HMA
      have hx05:=hxws.trans hx5
      have B6:=Hy (B5.out.ext hx5)
      have e6:=B6.out.cell;have l6':=B6.out.lt
      by_cases hP:PL=0
      rotate_left
      ·have HEE:=Hy (show E=PL from by rw[HE3.out];exact f2_ne _ hP)
       have hne:(PL != 0)=true:=by rw[bne_iff_ne];exact hP
       clear hP
       go_wp2
       go_ret
       exact⟨ret_int HEE.out.symm,hx05⟩
      have HE4:=Hy (show E=f2 (pmvErr pm) (if 524288 < bytesOf (itemsL l) then 4 else 0) from by rw[HE3.out,hP];rfl)
      clear HE3
      subst hP
      by_cases h20:20 < l4
      ·have HEE:=Hy (show E=4 from by
        have hz:pmvErr pm=4:=by unfold pmvErr;rw[HL4.out,if_pos h20]
        rw[HE4.out,hz]
        exact f2_ne _ (by decide))
       go_wp2
       go_ret
       exact⟨ret_int HEE.out.symm,hx05⟩
      have HPM:=Hy (show pmvErr pm=firstN l4 (pmvAt pm) from by unfold pmvErr;rw[HL4.out,if_neg h20])
      go_wp2
      clear e6 l6'
      go_loopw [3,133] (fun s i wr=>∃ (k:Nat) (ec:Int),k<=l4∧i=.int .i64 k∧s=.int .i64 ec∧Hid (ec=firstN k (pmvAt pm))∧Ext w5 wr) (fun _ i _=>l4 - (intOf i).toNat)
      case atStart=>exact⟨0,0,Nat.zero_le _,rfl,rfl,Hy rfl,Ext.refl _⟩
      case round =>
       clear hk hxr hxws
       obtain⟨k,ec,hk,rfl,rfl,HC,hxr⟩:=hrel
       obtain⟨ws,rfl⟩:∃ ws:World,ws=wr:=⟨_,rfl⟩
       have hxws:=hx05.trans hxr
       by_cases hlt:k < l4
       ·have hk1:k < pm.length:=by rw[HL4.out];exact hlt
        obtain⟨bm,om,rfl,hXm⟩:=(HMV.out.ext hxws) (fun e=>by rw[e] at hk1;exact absurd hk1 (Nat.not_lt_zero _))
        obtain⟨A5,c5,A6,c6,hrow⟩:=hXm k hk1
        have LD:=load_Mw hrow
        have hin:=hrow.has
        have hsm:=HS.out.moves _ (List.getElem_mem hk1)
        have HST:=Hy (pmv_f2 hk1)
        have CRE:=Hy (fun W (h:Ext ws W)=>(RangeError_any A5 pm[k].fr.length c5 pm[k].fr W (HG.out.ext (hxws.trans h)) rfl (hin.1.ext h) hsm.fr hsm.len).mono (fun e w' hh=>(show e=_∧Ext W w'∧Ext ws w' from ⟨hh.1,hh.2,h.trans hh.2⟩)))
        have CVE2:=Hy (show ∀ b cp W,Ext ws W->VerS W b [pm[k].tt]->Calls Tryz.prog 10 #[.slice (some ⟨b,0,none⟩) 1 cp] W fun e w'=>e=.returned (.int .i64 pm[k].tt.err)∧Ext W w'∧Ext ws w' from fun b cp W h hv=>by
         have:=VersionError_any b cp [pm[k].tt] W (HG.out.toGood.ext (hxws.trans h)) hv (by intro v hv;rw[List.mem_singleton] at hv;subst hv;exact hsm.tt) (by simp)
         have e:firstI ([pm[k].tt].map V4.err)=pm[k].tt.err:=by
          simp only[List.map_cons,List.map_nil,firstI]
          split<;>simp_all
         rw[e] at this
         exact this.mono fun e w' hh=>⟨hh.1,hh.2,h.trans hh.2⟩)
        have CWH:=Hy (fun W=>When_any (decide ((100:Int) < (pm[k].rules.length:Int))) 4 W)
        have HX6:=Hy (show (if 100 < pm[k].rules.length then (4:Int) else 0)=if decide ((100:Int) < (pm[k].rules.length:Int))=true then 4 else 0 from by
         by_cases h:100 < pm[k].rules.length
         ·rw[if_pos h,if_pos (by rw[decide_eq_true_eq];omega)]
         ·rw[if_neg h,if_neg (by rw[decide_eq_true_eq];omega)])
        rw[HX6.out] at HST
        have HRX:=Hy hin.2
        have hnum:=hsm.num
        have HRS:=Hy hsm.rules
        clear hXm hrow hin hsm HX6
        generalize pm[k]=m at *
        obtain⟨mf,⟨t1,t2,t3,ta⟩,mr⟩:=m
        dsimp only[mvV] at *
        generalize rngErr mf=R at *
        generalize V4.err ⟨t1,t2,t3,ta⟩=EV2 at *
        generalize mf.length=f5 at *
        generalize hr6:mr.length=r6 at LD CWH hnum HST ⊢
        have H6:=Hy hr6
        clear hr6
        obtain⟨X6,hX6⟩:∃ X,(if decide ((100:Int) < (r6:Int))=true then (4:Int) else 0)=X:=⟨_,rfl⟩
        rw[hX6] at CWH HST
        clear hX6
        obtain⟨G0,hG0⟩:∃ G,firstI [ec,R,EV2,X6]=G:=⟨_,rfl⟩
        have HG0:=Hy (show G0=f2 (firstN k (pmvAt pm)) (firstI [R,EV2,X6]) from by rw[<-hG0,firstI_f2,HC.out])
        rw[<-HG0.out] at HST
        have CFJ:=Hy (fun b cp W (h:∀ k (hk:k < [ec,R,EV2,X6].length),World.cell? W ⟨b,k,none⟩=some (.int .i64 [ec,R,EV2,X6][k]))=>First_any b cp [ec,R,EV2,X6] W h (by simp))
        rw[hG0] at CFJ
        clear hG0
        have b1:=Blk.new ws 195 #[.slice A5 f5 c5,.int .i64 t1,.int .i64 t2,.int .i64 t3,.string ta,.slice A6 r6 c6]
        have hxa:Ext ws (ws.alloc (.cells #[.slice A5 f5 c5,.int .i64 t1,.int .i64 t2,.int .i64 t3,.string ta,.slice A6 r6 c6] 195)):=(Ext.refl ws).alloc _
        generalize hW1:ws.alloc (.cells #[.slice A5 f5 c5,.int .i64 t1,.int .i64 t2,.int .i64 t3,.string ta,.slice A6 r6 c6] 195)=W1 at *
        have HW1:=Hy hW1
        clear hW1
        have d0:W1.cell? ⟨ws.heap.size,0,none⟩=some (.slice A5 f5 c5):=b1.cell 0
        have d1:W1.cell? ⟨ws.heap.size,1,none⟩=some (.int .i64 t1):=b1.cell 1
        have d2:W1.cell? ⟨ws.heap.size,2,none⟩=some (.int .i64 t2):=b1.cell 2
        have d3:W1.cell? ⟨ws.heap.size,3,none⟩=some (.int .i64 t3):=b1.cell 3
        have d4:W1.cell? ⟨ws.heap.size,4,none⟩=some (.string ta):=b1.cell 4
        have d5:W1.cell? ⟨ws.heap.size,5,none⟩=some (.slice A6 r6 c6):=b1.cell 5
        have dl:=b1.lt
        go_wp2_with (refine wpList_load_at rfl _ _ rfl _ rfl _ LD ?_)
        rw[HW1.out]
        clear LD b1
        first
        | (go_region_held3 (fun w'=>w'.cell? ⟨ws.heap.size,0,none⟩=some (.slice A5 f5 c5)∧w'.cell? ⟨ws.heap.size,1,none⟩=some (.int .i64 t1)∧w'.cell? ⟨ws.heap.size,2,none⟩=some (.int .i64 t2)∧w'.cell? ⟨ws.heap.size,3,none⟩=some (.int .i64 t3)∧w'.cell? ⟨ws.heap.size,4,none⟩=some (.string ta)∧w'.cell? ⟨ws.heap.size,5,none⟩=some (.slice A6 r6 c6)) (first|(go_keep;done)|((try go_split_ands);(try dsimp only);(repeat' apply And.intro);all_goals (first|(go_keep;done)|(with_reducible exact hxh.cell (by assumption))|(refine hxh.cell ?_;go_simp))))
            (first
            | (go_at_call 29;with_reducible refine (CRE.out _ Ext.au).mono ?_;rintro e w' ⟨rfl,hxh,hab⟩)
            | (go_at_call 10;with_reducible refine (CVE2.out _ _ _ Ext.au (VerS.one (by first|(go_simp;done)|(refine Ext.cell hxh ?_;go_simp;done)) (by first|(go_simp;done)|(refine Ext.cell hxh ?_;go_simp;done)) (by first|(go_simp;done)|(refine Ext.cell hxh ?_;go_simp;done)) (by first|(go_simp;done)|(refine Ext.cell hxh ?_;go_simp;done)))).mono ?_;rintro e w' ⟨rfl,hxh,hab⟩)
            | (go_at_call 46;with_reducible refine (CWH.out _).mono ?_;rintro e w' ⟨rfl,rfl⟩)
            | (go_at_call 11;refine (CFJ.out _ _ _ (by intro k hk;rw[World.cell?_alloc_at _ _ _ _ rfl];match k,hk with|0,_=>rfl|1,_=>rfl|2,_=>rfl|3,_=>rfl)).mono ?_;rintro e w' ⟨rfl,rfl⟩)))
        | fail
        all_goals
         rename_i hHeld
         obtain⟨k0,k1,k2,k3,k4,k5⟩:=hHeld
         have hxW:=hab.alloc (.cells #[.int .i64 ec,.int .i64 R,.int .i64 EV2,.int .i64 X6] 24)
         clear hxh hab d0 d1 d2 d3 d4 d5 dl CRE CVE2 CWH CFJ k0 k1 k2 k3 k4
         generalize (w'.alloc (.cells #[.int .i64 ec,.int .i64 R,.int .i64 EV2,.int .i64 X6] 24))=W3 at *
         have k5l:=lt_of_cell k5
         go_wp2
         clear k5 k5l
         go_loopw [3,155] (fun s i wr=>∃ (j:Nat) (ed:Int),j<=r6∧i=.int .i64 j∧s=.int .i64 ed∧Hid (ed=f2 G0 (rulesE (mr.take j)))∧Ext ws wr) (fun _ i _=>r6 - (intOf i).toNat)
         case atStart=>exact⟨0,G0,Nat.zero_le _,rfl,rfl,Hy (by rw[show rulesE (mr.take 0)=0 from rfl,f2_zero]),hxW⟩
         case round =>
          clear hxW
          obtain⟨j,ed,hj,rfl,rfl,HD,hx7⟩:=hrel
          obtain⟨w7,rfl⟩:∃ w7:World,w7=wr:=⟨_,rfl⟩
          by_cases hlt3:j < r6
          ·have hj1:j < mr.length:=by rw[H6.out];exact hlt3
           obtain⟨bn,on,rfl,hXn⟩:=(HRX.out.ext hx7) (fun e=>by rw[e] at hj1;exact absurd hj1 (Nat.not_lt_zero _))
           have hC:=hXn j hj1
           have hxs:=HRS.out _ (List.getElem_mem hj1)
           have CVX:=Hy (fun W=>ValueOf_any mr[j] W hxs)
           have HNJ:=Hy (show f2 ed (if badR mr[j]=true then 2 else 0)=f2 G0 (rulesE (mr.take (j+1))) from by rw[rulesE_succ hj1,HD.out,f2_assoc])
           have HBR:=Hy (show badR mr[j]=(decide (mr[j].size=0)||!valueL (bs mr[j])) from rfl)
           have hq:(mr[j].toList==[])=decide (mr[j].size=0):=by
            generalize mr[j]=x
            rw[Bool.eq_iff_iff,beq_iff_eq,decide_eq_true_eq,ByteArray.toList_eq]
            cases x with|mk d=>simp[ByteArray.size]
           clear hXn hxs
           generalize badR mr[j]=BR at *
           generalize decide (mr[j].size=0)=Zb at *
           generalize valueL (bs mr[j])=V at *
           generalize mr[j]=x at *
           cases Zb with
           | true =>
             obtain rfl:BR=true:=HBR.out
             have HNK:=Hy (show firstI [ed,2]=f2 G0 (rulesE (mr.take (j+1))) from by rw[<-HNJ.out];rfl)
             go_wp2_with fail
             refine (When_any _ 2 _).mono ?_
             rintro e w' ⟨rfl,rfl⟩
             go_wp2_with fail
             refine (First_any _ _ [ed,2] _ ?_ (by simp)).mono ?_
             ·intro kq hkq
              rw[World.cell?_alloc_at _ _ _ _ rfl]
              match kq,hkq with
              | 0,_=>rfl
              | 1,_=>rfl
             rintro e w' ⟨rfl,rfl⟩
             go_wp2
             go_roundw
             case rel=>exact⟨j+1,_,by omega,by go_num,rfl,HNK,hx7.alloc _⟩
             case measure=>simp[intOf];omega
           | false =>
             obtain rfl:BR=!V:=HBR.out
             obtain⟨Y,hY⟩:∃ Y,(if (!V)=true then (2:Int) else 0)=Y:=⟨_,rfl⟩
             have CWY:=Hy (fun W=>When_any (!V) 2 W)
             rw[hY] at HNJ CWY
             have HNK:=Hy (show firstI [ed,Y]=f2 G0 (rulesE (mr.take (j+1))) from by rw[<-HNJ.out,firstI_f2,firstI_f2,firstI_nil,f2_zero])
             clear hY
             go_wp2_with fail
             refine (CVX.out _).mono ?_
             rintro e w' ⟨rfl,rfl⟩
             go_wp2_with fail
             refine (CWY.out _).mono ?_
             rintro e w' ⟨rfl,rfl⟩
             go_wp2_with fail
             refine (First_any _ _ [ed,Y] _ ?_ (by simp)).mono ?_
             ·intro kq hkq
              rw[World.cell?_alloc_at _ _ _ _ rfl]
              match kq,hkq with
              | 0,_=>rfl
              | 1,_=>rfl
             rintro e w' ⟨rfl,rfl⟩
             go_wp2
             go_roundw
             case rel=>exact⟨j+1,_,by omega,by go_num,rfl,HNK,hx7.alloc _⟩
             case measure=>simp[intOf];omega
          ·obtain rfl:j=r6:=by omega
           have HD2:=Hy (show ed=firstN (k+1) (pmvAt pm) from by rw[HD.out,HST.out,List.take_of_length_le (by rw[H6.out];exact Nat.le_refl _)])
           go_wp2
           go_roundw
           case rel=>exact⟨k+1,ed,by omega,by go_num,rfl,HD2,hxr.trans hx7⟩
           case measure=>simp[intOf];omega
       ·obtain rfl:k=l4:=by omega
        have HC2:=Hy (show ec=pmvErr pm from by rw[HC.out,HPM.out])
        have B7:=Hy (B6.out.ext hxr)
        have e7:=B7.out.cell;have l7':=B7.out.lt
        clear HC HPM
        go_wp2
        clear e7 l7'
        go_loopw [18,175] (fun s i wr=>∃ k:Nat,k<=n∧i=.int .i64 k∧s=.int .i64 ((bytesOf (itemsL (l.take k)):Nat):Int)∧Ext w5 wr) (fun _ i _=>n - (intOf i).toNat)
        case atStart=>exact⟨0,Nat.zero_le _,rfl,rfl,hxr⟩
        case round =>
         clear hk hxr hxws B7
         obtain⟨k,hk,rfl,rfl,hxr⟩:=hrel
         obtain⟨ws,rfl⟩:∃ ws:World,ws=wr:=⟨_,rfl⟩
         have hxws:=hx05.trans hxr
         by_cases hlt:k < n
         ·have hk1:k < l.length:=by rw[HN.out];exact hlt
          obtain⟨b,o,rfl,hX⟩:=HR.out (fun e=>by rw[e] at hk1;exact absurd hk1 (Nat.not_lt_zero _))
          obtain⟨k0,n0,x0,A5,m5,c5,A6,c6,A7,c7,A8,c8,hrow⟩:=hX k hk1
          have LD:=load_Cm (hrow.ext hxws)
          have HII:=Hy hrow.has.items
          have HBS:=Hy (bytes_split hk1)
          have HBC:=Hy (bytes_comp hk1)
          have hil:=(HS.out.comps _ (List.getElem_mem hk1)).ilen
          clear hX hrow
          generalize l[k]=q at *
          obtain⟨qn,qt,qd,qa,qw,qe,qi,qs⟩:=q
          dsimp only[cmV] at *
          generalize qe.length=l6 at *
          generalize h7:qi.length=l7 at LD hil ⊢
          have H7:=Hy h7
          clear h7
          generalize qs.length=l8 at *
          generalize bytesOf (itemsL (l.take k))=BK at *
          have b1:=Blk.new ws 82 #[.string qn,.string qt,.bool qd,.bool qa,.int .i64 k0,.string n0,.string x0,.slice A5 m5 c5,.slice A6 l6 c6,.slice A7 l7 c7,.slice A8 l8 c8]
          have hxa:Ext ws (ws.alloc (.cells #[.string qn,.string qt,.bool qd,.bool qa,.int .i64 k0,.string n0,.string x0,.slice A5 m5 c5,.slice A6 l6 c6,.slice A7 l7 c7,.slice A8 l8 c8] 82)):=(Ext.refl ws).alloc _
          generalize hW1:ws.alloc (.cells #[.string qn,.string qt,.bool qd,.bool qa,.int .i64 k0,.string n0,.string x0,.slice A5 m5 c5,.slice A6 l6 c6,.slice A7 l7 c7,.slice A8 l8 c8] 82)=W1 at *
          have HW1:=Hy hW1
          clear hW1
          have e1:=b1.cell;have l1':=b1.lt
          go_wp2_with (refine wpList_load_at rfl _ _ rfl _ rfl _ LD ?_)
          rw[HW1.out]
          clear LD e1 l1' b1
          go_loopw [18,182] (fun s i wr=>∃ j:Nat,j<=l7∧i=.int .i64 j∧s=.int .i64 ((BK+bytesOf (qi.take j):Nat):Int)∧Ext W1 wr) (fun _ i _=>l7 - (intOf i).toNat)
          case atStart=>exact⟨0,Nat.zero_le _,rfl,by rfl,Ext.refl _⟩
          case round =>
           obtain⟨j,hj,rfl,rfl,hx7⟩:=hrel
           obtain⟨w7,rfl⟩:∃ w7:World,w7=wr:=⟨_,rfl⟩
           have hx57:=hxr.trans (hxa.trans hx7)
           by_cases hlt3:j < l7
           ·have hj1:j < qi.length:=by rw[H7.out];exact hlt3
            obtain⟨b7,o7,rfl⟩:=RdI.at HII.out hj1
            have LD:=load_It (RdI.row (HII.out.ext (hx05.trans hx57)) hj1)
            have hbs:=HBS.out (j+1)
            have hbt:=bytes_take qi j hj1
            rw[hbt] at hbs
            have HBT:=Hy hbt
            clear hbt
            generalize qi[j]=y at *
            generalize bytesOf (qi.take j)=BJ at *
            obtain⟨xk,xp,xd,xr,xe,xv,xs,xq,xa,xo⟩:=y
            dsimp only[itmV] at *
            have hxi:Ext w7 (w7.alloc (.cells #[.int .i64 xk,.string xp,.string xd,.bool xr,.string xe,.string xv,.string xs,.string xq,.bool xa,.bool xo] 104)):=(Ext.refl w7).alloc _
            have hsum:BK+BJ+xd.size<=2097152:=by omega
            clear hbs
            go_wp2_with (refine wpList_load_at rfl _ _ rfl _ rfl _ LD ?_)
            go_roundw
            case rel=>exact⟨j+1,by omega,by go_num,by rw[HBT.out,<-Nat.add_assoc];go_num,hx7.trans hxi⟩
            case measure=>simp[intOf];omega
           ·obtain rfl:j=l7:=by omega
            have HBE2:=Hy (show BK+bytesOf (qi.take j)=bytesOf (itemsL (l.take (k+1))) from by rw[HBC.out,List.take_of_length_le (by rw[H7.out];exact Nat.le_refl _)])
            rw[HBE2.out]
            go_wp2
            go_roundw
            case rel=>exact⟨k+1,by omega,by go_num,rfl,hx57⟩
            case measure=>simp[intOf];omega
         ·obtain rfl:n=k:=by omega
          rw[show l.take n=l from List.take_of_length_le (by rw[HN.out];exact Nat.le_refl _)]
          by_cases hBy:524288 < bytesOf (itemsL l)
          ·have HEE:=Hy (show E=firstI [ec,4] from by rw[HE4.out,HC2.out,if_pos hBy];rfl)
           generalize bytesOf (itemsL l)=TB at *
           go_wp2_with fail
           refine (When_any _ 4 _).mono ?_
           rintro e w' ⟨rfl,rfl⟩
           go_wp2_with fail
           refine (First_any _ _ [ec,4] _ ?_ (by simp)).mono ?_
           ·intro kq hkq
            rw[World.cell?_alloc_at _ _ _ _ rfl]
            match kq,hkq with
            | 0,_=>rfl
            | 1,_=>rfl
           rintro e w' ⟨rfl,rfl⟩
           go_wp2
           go_ret
           exact⟨ret_int HEE.out.symm,hxws.alloc _⟩
          ·have HEE:=Hy (show E=firstI [ec,0] from by rw[HE4.out,HC2.out,if_neg hBy];rfl)
           generalize bytesOf (itemsL l)=TB at *
           go_wp2_with fail
           refine (When_any _ 4 _).mono ?_
           rintro e w' ⟨rfl,rfl⟩
           go_wp2_with fail
           refine (First_any _ _ [ec,0] _ ?_ (by simp)).mono ?_
           ·intro kq hkq
            rw[World.cell?_alloc_at _ _ _ _ rfl]
            match kq,hkq with
            | 0,_=>rfl
            | 1,_=>rfl
           rintro e w' ⟨rfl,rfl⟩
           go_wp2
           go_ret
           exact⟨ret_int HEE.out.symm,hxws.alloc _⟩
end Go.Proofs.YtmpccllnpcbgcaaGreatDoor
