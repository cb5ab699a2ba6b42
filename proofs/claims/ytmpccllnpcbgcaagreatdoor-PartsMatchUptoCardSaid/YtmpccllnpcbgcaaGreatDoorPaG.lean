/- Contract of pack.Steps. -/
import Derived.Test.YtmpccllnpcbgcaaGreatDoorPk02
import Derived.Test.YtmpccllnpcbgcaaGreatDoorPk04
import Derived.Test.YtmpccllnpcbgcaaGreatDoorPk08
import Derived.Test.YtmpccllnpcbgcaaGreatDoorPk09
import Derived.Test.YtmpccllnpcbgcaaGreatDoorPk10
import Derived.Test.YtmpccllnpcbgcaaGreatDoorPk19
import Derived.Test.YtmpccllnpcbgcaaGreatDoorPk22
import Derived.Test.YtmpccllnpcbgcaaGreatDoorPk25
import Derived.Test.YtmpccllnpcbgcaaGreatDoorPk27
import Derived.Test.YtmpccllnpcbgcaaGreatDoorPk29
import Derived.Test.YtmpccllnpcbgcaaGreatDoorPk32
import Derived.Test.YtmpccllnpcbgcaaGreatDoorPk34
import Derived.Test.YtmpccllnpcbgcaaGreatDoorPk35
import Derived.Test.YtmpccllnpcbgcaaGreatDoorPk39
import Derived.Test.YtmpccllnpcbgcaaGreatDoorPk40
import Derived.Test.YtmpccllnpcbgcaaGreatDoorPk41
import Derived.Test.YtmpccllnpcbgcaaGreatDoorPaL
import Derived.Test.YtmpccllnpcbgcaaGreatDoorPaE
import Derived.Test.YtmpccllnpcbgcaaGreatDoorProg
import Derived.Test.YtmpccllnpcbgcaaGreatDoorShelf
import Derived.Lib.Split
import Derived.Lib.IndexBytes
import Derived.Lib.ItoaLen
import Derived.WalkKit
import Derived.WalkSpells
import Derived.WalkLawsBesides
import Derived.LoopTactic
import Derived.Outline
import Derived.Lib.Hide
import Derived.Lib.LaidTab
import Derived.Lib.ConvBytes
import Derived.Lib.ItoaNum
import Derived.WalkSmall
import Derived.Sort.Grow
import Derived.Deep.QuietTactic
import Derived.BigQuiet
import Derived.Lib.Replace
import Derived.Lib.SplitLaws
import Derived.Laws.AppendOwn
import Derived.Laws.OwnMore
import Derived.Maps.AppendAt
import Derived.OwnWalk
import Derived.Lib.Join
import Derived.StillTail
import Derived.Lib.AtoiAll
import Derived.Lib.Small
import Derived.Lib.Bytealg
import Derived.Deep.DeepCutAuto
import Derived.Deep.AppendLies
import Derived.Deep.RegionHeld3
import Derived.Deep.RegionLaw
import Derived.MapKept
import Derived.Laws.StructEq
import Derived.Deep.LoopGhost
import Derived.Laws.Cells
import Derived.Maps.OwnSet
import Derived.Maps.StringElems
import Derived.Sort.Walk0
import Derived.Sort.KeysCollected
import Derived.Lib.SlicesCompact
import Derived.Maps.RangeWalk
import Derived.Deep.Upon
import Derived.ArgAppend
import Derived.Laws.MakeOwn
import Derived.DeepKeys3
import Derived.Laws.EntriesVeiled
import Derived.Lib.SliceRun
import Derived.Laws.IdiomCopy
namespace Go.Proofs.YtmpccllnpcbgcaaGreatDoor
open Go.RowKit
def stpM (l:List Cmp) (M:List ByteArray):List Sto:=(visF l l.length M ([],[])).2
noncomputable def stpL (p:Pkg) (ns:List ByteArray):List Sto:=if f2 (pkErr p) (chErr p.comps ns)=0 then stpM p.comps (markL p.comps (clsV p.comps ns)) else []
theorem marked_comp {l:List Cmp} {V:Nat->Bool} {x:ByteArray} (h:x∈markL l V):isComp l x=true:=by
 obtain⟨i,hi,_,rfl⟩:=markK_mem.1 h
 rw[getD_cm hi]
 exact isComp_at hi
theorem frC_all (l:List Cmp):frC l []=l.length:=by
 unfold frC
 rw[List.countP_eq_length]
 intro c _
 rfl
theorem RdX.extS {B V U N:Nat} {w w':World} {A:Option Addr} {v:List ByteArray} {t:TypeId} {a:Option Addr} {m k:Nat} {L:List Str} (h:RdX w A v) (hx:ExtS B V U w w') (hB:w.heap.size<=B) (hV:Blk w V t #[.slice a m k]) (hU:KSet w U N L):RdX w' A v:=fun hn=>by
 obtain⟨b,o,e,hc⟩:=h hn
 refine⟨b,o,e,fun j hj=>?_⟩
 have c:=hc j hj
 have hl:=lt_of_cell c
 have e1:b≠V:=fun e=>by
  subst e
  rw[hV.cell] at c
  rcases Nat.eq_zero_or_pos (o+j) with h0|h0
  ·rw[h0] at c;injection c with c;cases c
  ·obtain⟨z,hz⟩:=Nat.exists_eq_succ_of_ne_zero (Nat.pos_iff_ne_zero.1 h0)
   rw[hz] at c;simp at c
 have e2:b≠U:=fun e=>by
  obtain⟨D,⟨es,clock,hb,_⟩,_⟩:=hU
  rw[e] at c
  unfold World.cell? at c
  rw[hb] at c
  simp at c
 have hb:=hx.block b hl e1 e2 (.inl (by omega))
 unfold World.cell? at c ⊢
 rw[hb]
 exact c
set_option maxHeartbeats 16000000 in
set_option maxRecDepth 100000 in
theorem Steps_any (p:Pkg) (A:Option Addr) (c:Nat) (A2:Option Addr) (c2:Nat) (A3:Option Addr) (c3:Nat) (A4:Option Addr) (c4:Nat) (ns:List ByteArray) (An:Option Addr) (nn cn:Nat) (w:World) (hg:GoodN w) (hp:PkIn w p A c A2 c2 A3 c3 A4 c4) (hs:SmallP p) (hnn:ns.length=nn) (hcn:nn<=cn) (hrn:RdX w An ns) (hln:nn<=2000000) :
 Calls Tryz.prog 60 #[pkV p A c A2 c2 A3 c3 A4 c4,.slice An nn cn] w fun e w'=>∃ A' cc,e=.returned (.tuple #[.slice A' (stpL p ns).length cc,.int .i64 (f2 (pkErr p) (chErr p.comps ns))])∧(stpL p ns).length<=62914560∧RdSt w' A' (stpL p ns)∧Ext w w':=by
 have CF:=Hy (fun W (h:Ext w W)=>chosenFault_any p A c A2 c2 A3 c3 A4 c4 ns An nn cn W (hg.ext h) (hp.ext h) hs hnn hcn (hrn.ext h) (by omega))
 have CCL:=Hy (fun (h30:p.comps.length<=30) hnd W (h:Ext w W)=>closed_any p A c A2 c2 A3 c3 A4 c4 ns An nn cn W (hp.comps.ext h) h30 (fun c hc=>(hs.comps c hc).nlen) hnd hnn (hrn.ext h) hln)
 have CMK:=Hy (fun W (h:Ext w W) g hb=>marked_any p A c A2 c2 A3 c3 A4 c4 (clsV p.comps ns) g p.comps.length W (hp.comps.ext h) hs.clen hb)
 have HOK:=Hy (pk_ok (p:=p))
 have HND:=Hy (pk_needs (p:=p))
 have HRC:=Hy hp.comps
 have HSM:=Hy hs.comps
 have hcap:=hp.cap.2.2.1
 have HL0:=Hy (show ¬ f2 (pkErr p) (chErr p.comps ns)=0->stpL p ns=[] from fun h=>if_neg h)
 have HL1:=Hy (show f2 (pkErr p) (chErr p.comps ns)=0->stpL p ns=(visF p.comps p.comps.length (markL p.comps (clsV p.comps ns)) ([],[])).2 from fun h=>if_pos h)
 have HF2:=Hy (fun h=>(f2_eq0 (a:=pkErr p) (b:=chErr p.comps ns) h).1)
 have HMC:=Hy (fun x (hx:x∈markL p.comps (clsV p.comps ns))=>marked_comp hx)
 have hml:=markK_len p.comps (clsV p.comps ns) p.comps.length
 change (markL p.comps (clsV p.comps ns)).length<=_ at hml
 clear hg hp hs hrn
 generalize f2 (pkErr p) (chErr p.comps ns)=E at *
 generalize pkErr p=PE at *
 generalize stpL p ns=SL at *
 generalize markL p.comps (clsV p.comps ns)=ML at *
 obtain⟨pn,⟨v1,v2,v3,va⟩,pt,pe,pb,l,pm⟩:=p
 dsimp only[pkV] at *
 generalize pe.length=l1 at *
 generalize pb.length=l2 at *
 generalize pm.length=l4 at *
 have HFR:=Hy (frC_all l)
 generalize hn:l.length=n at CF CCL CMK HOK HL1 hcap hml HFR ⊢
 have HN:=Hy hn
 clear hn
 have b0:=Blk.new w 76 #[.string pn,.int .i64 v1,.int .i64 v2,.int .i64 v3,.string va,.string pt,.slice A l1 c,.slice A2 l2 c2,.slice A3 n c3,.slice A4 l4 c4]
 have hx0:Ext w (w.alloc (.cells #[.string pn,.int .i64 v1,.int .i64 v2,.int .i64 v3,.string va,.string pt,.slice A l1 c,.slice A2 l2 c2,.slice A3 n c3,.slice A4 l4 c4] 76)):=(Ext.refl w).alloc _
 have s0:(w.alloc (.cells #[.string pn,.int .i64 v1,.int .i64 v2,.int .i64 v3,.string va,.string pt,.slice A l1 c,.slice A2 l2 c2,.slice A3 n c3,.slice A4 l4 c4] 76)).heap.size=w.heap.size+1:=World.size_alloc _ _
 generalize hW0:w.alloc (.cells #[.string pn,.int .i64 v1,.int .i64 v2,.int .i64 v3,.string va,.string pt,.slice A l1 c,.slice A2 l2 c2,.slice A3 n c3,.slice A4 l4 c4] 76)=W0 at *
 have HW0:=Hy hW0
 have e0:=b0.cell;have l0:=b0.lt
 clear hW0
 go_enter Tryz.func60,Tryz.ntmps60
 go_wp2_with fail
 rw[HW0.out]
 refine (CF.out _ hx0).mono ?_
 rintro e w1 ⟨rfl,hx1⟩
 have hx01:=hx0.trans hx1
 have b1:=b0.ext hx1
 have s1:=hx1.size
 clear e0 l0 b0 CF
 by_cases hH:E=0
 rotate_left
 ·have HEE:=Hy (HL0.out hH)
  have hne:(E != 0)=true:=by rw[bne_iff_ne];exact hH
  clear hH
  go_wp2
  go_ret2
  exact⟨none,0,by rw[HEE.out]<;>rfl,by rw[HEE.out];exact Nat.zero_le _,by rw[HEE.out];exact fun h=>absurd rfl h,hx01⟩
 have HEE:=Hy (HL1.out hH)
 have HK:=Hy (HOK.out (HF2.out hH))
 have HNC:=Hy (HND.out (HF2.out hH))
 have h30:=HK.out.1
 have x2:Ext w1 (w1.alloc (.cells #[.slice none 0 0] 80)):=(Ext.refl _).alloc _
 have t2:(w1.alloc (.cells #[.slice none 0 0] 80)).heap.size=w1.heap.size+1:=World.size_alloc _ _
 have k2:=Blk.new w1 80 #[.slice none 0 0]
 generalize hW2:w1.alloc (.cells #[.slice none 0 0] 80)=W2 at *
 have x3:Ext W2 (W2.alloc (.map #[] 0)):=(Ext.refl _).alloc _
 have t3:(W2.alloc (.map #[] 0)).heap.size=w1.heap.size+2:=by rw[World.size_alloc,t2]
 have k3:=KSet.made W2
 rw[t2] at k3
 generalize hW3:W2.alloc (.map #[] 0)=W3 at *
 have x4:Ext W3 (W3.alloc (.cells #[.map (some (w1.heap.size+1))] 191)):=(Ext.refl _).alloc _
 have t4:(W3.alloc (.cells #[.map (some (w1.heap.size+1))] 191)).heap.size=w1.heap.size+3:=by rw[World.size_alloc,t3]
 have k4:=Blk.new W3 191 #[.map (some (w1.heap.size+1))]
 rw[t3] at k4
 generalize hW4:W3.alloc (.cells #[.map (some (w1.heap.size+1))] 191)=W4 at *
 have x5:Ext W4 (W4.alloc (.cells #[.func (.func 137) #[] (stCaps (w1.heap.size+2) w.heap.size (w1.heap.size+3) w1.heap.size)] 211)):=(Ext.refl _).alloc _
 have t5:(W4.alloc (.cells #[.func (.func 137) #[] (stCaps (w1.heap.size+2) w.heap.size (w1.heap.size+3) w1.heap.size)] 211)).heap.size=w1.heap.size+4:=by rw[World.size_alloc,t4]
 have k5:=Blk.new W4 211 #[.func (.func 137) #[] (stCaps (w1.heap.size+2) w.heap.size (w1.heap.size+3) w1.heap.size)]
 rw[t4] at k5
 have HW:=Hy (show (((w1.alloc (.cells #[.slice none 0 0] 80)).alloc (.map #[] 0)).alloc (.cells #[.map (some (w1.heap.size+1))] 191)).alloc (.cells #[.func (.func 137) #[] (stCaps (w1.heap.size+2) w.heap.size (w1.heap.size+3) w1.heap.size)] 211)=W4.alloc (.cells #[.func (.func 137) #[] (stCaps (w1.heap.size+2) w.heap.size (w1.heap.size+3) w1.heap.size)] 211) from by rw[hW2,hW3,hW4])
 generalize W4.alloc (.cells #[.func (.func 137) #[] (stCaps (w1.heap.size+2) w.heap.size (w1.heap.size+3) w1.heap.size)] 211)=W5 at *
 have x15:Ext w1 W5:=x2.trans (x3.trans (x4.trans x5))
 have hx05:=hx01.trans x15
 have HC2:=Hy (k2.ext (x3.trans (x4.trans x5)))
 have HC3:=Hy (k3.ext (x4.trans x5))
 have HST:=Hy (show ∀ W,Ext W5 W->StSt 137 w w.heap.size #[.string pn,.int .i64 v1,.int .i64 v2,.int .i64 v3,.string va,.string pt,.slice A l1 c,.slice A2 l2 c2,.slice A3 n c3,.slice A4 l4 c4] w1.heap.size (w1.heap.size+1) (w1.heap.size+2) (w1.heap.size+3) W.heap.size 0 [] [] W from fun W h=>by
  have hz:=h.size
  exact⟨b1.ext (x15.trans h),(k4.ext x5).ext h,HC3.out.ext h,k5.ext h,⟨_,HC2.out.ext h,World.ownsRow_nil _ _ _ _⟩,hx05.trans h,by omega,by omega,by omega,by omega,Nat.le_refl _⟩)
 have b5:=b1.ext x15
 clear hW2 hW3 hW4 x2 x3 x4 x5 t2 t3 t4 k2 k3 k4 k5 b1
 have d0:W5.cell? ⟨w.heap.size,0,none⟩=some (.string pn):=b5.cell 0
 have d1:W5.cell? ⟨w.heap.size,1,none⟩=some (.int .i64 v1):=b5.cell 1
 have d2:W5.cell? ⟨w.heap.size,2,none⟩=some (.int .i64 v2):=b5.cell 2
 have d3:W5.cell? ⟨w.heap.size,3,none⟩=some (.int .i64 v3):=b5.cell 3
 have d4:W5.cell? ⟨w.heap.size,4,none⟩=some (.string va):=b5.cell 4
 have d5:W5.cell? ⟨w.heap.size,5,none⟩=some (.string pt):=b5.cell 5
 have d6:W5.cell? ⟨w.heap.size,6,none⟩=some (.slice A l1 c):=b5.cell 6
 have d7:W5.cell? ⟨w.heap.size,7,none⟩=some (.slice A2 l2 c2):=b5.cell 7
 have d8:W5.cell? ⟨w.heap.size,8,none⟩=some (.slice A3 n c3):=b5.cell 8
 have d9:W5.cell? ⟨w.heap.size,9,none⟩=some (.slice A4 l4 c4):=b5.cell 9
 have dl:=b5.lt
 have CC:=Hy (fun W (h:Ext W5 W)=>(CCL.out HK.out.1 HK.out.2 W (hx05.trans h)).mono (fun e w' hh=>(show ∃ g,e=.returned (.slice (some ⟨g,0,none⟩) n n)∧Hid (Blk w' g 4 (boolsA n (clsV l ns)))∧Ext W w'∧Ext W5 w' from by
  obtain⟨g,h1,h2,h3⟩:=hh
  exact⟨g,h1,h2,h3,h.trans h3⟩)))
 have CM:=Hy (fun W (h:Ext W5 W) g (hb:Hid (Blk W g 4 (boolsA n (clsV l ns))))=>(CMK.out W (hx05.trans h) g hb.out).mono (fun e w' hh=>(show ∃ A' cc,e=.returned (.slice A' ML.length cc)∧Hid (ML.length<=cc∧RdX w' A' ML)∧Ext W w'∧Ext W5 w' from by
  obtain⟨A',cc,h1,h2,h3,h4⟩:=hh
  exact⟨A',cc,h1,⟨h2,h3⟩,h4,h.trans h4⟩)))
 have hmm:=@run_makeMap Tryz.prog
 clear HOK HND HL0 HL1 HF2 hx01 hx0 hx1 x15 b5 CCL CMK
 subst hH
 have HX05:=Hy hx05
 clear hx05
 go_upto_region 8 with fail
 rw[HW.out]
 clear hmm t5
 go_region_held3 (fun w'=>w'.cell? ⟨w.heap.size,0,none⟩=some (.string pn)∧w'.cell? ⟨w.heap.size,1,none⟩=some (.int .i64 v1)∧w'.cell? ⟨w.heap.size,2,none⟩=some (.int .i64 v2)∧w'.cell? ⟨w.heap.size,3,none⟩=some (.int .i64 v3)∧w'.cell? ⟨w.heap.size,4,none⟩=some (.string va)∧w'.cell? ⟨w.heap.size,5,none⟩=some (.string pt)∧w'.cell? ⟨w.heap.size,6,none⟩=some (.slice A l1 c)∧w'.cell? ⟨w.heap.size,7,none⟩=some (.slice A2 l2 c2)∧w'.cell? ⟨w.heap.size,8,none⟩=some (.slice A3 n c3)∧w'.cell? ⟨w.heap.size,9,none⟩=some (.slice A4 l4 c4)) (first|(go_keep;done)|((try go_split_ands);(try dsimp only);(repeat' apply And.intro);all_goals (first|(go_keep;done)|(with_reducible exact hxh.cell (by assumption))|(refine hxh.cell ?_;go_simp))))
  (first
  | (go_at_call 127;with_reducible refine (CC.out _ Ext.au).mono ?_;rintro e w' ⟨g,rfl,hbk,hxh,hab⟩)
  | (go_at_call 126;with_reducible refine (CM.out _ hab _ hbk).mono ?_;rintro e w' ⟨A',cc,rfl,hrd,hxh,hac⟩))
 all_goals
  clear d0 d1 d2 d3 d4 d5 d6 d7 d8 d9 dl hbk CC CM
  obtain⟨w6,rfl⟩:∃ W:World,W=w':=⟨_,rfl⟩
  have HS6:=Hy (HST.out w6 hac)
  have HRX:=Hy hrd.out.2
  have hcc:=hrd.out.1
  have HB6:=Hy (HC2.out.ext hac)
  have HK6:=Hy (HC3.out.ext hac)
  clear HST HC2 HC3 hrd hxh hab hac
  go_wp2
  go_loopw [26] (fun i wr=>∃ (j Nj:Nat),i=.int .i64 j∧j<=ML.length∧Nj+frC l (visF l n (ML.take j) ([],[])).1<=30∧Hid (StSt 137 w w.heap.size #[.string pn,.int .i64 v1,.int .i64 v2,.int .i64 v3,.string va,.string pt,.slice A l1 c,.slice A2 l2 c2,.slice A3 n c3,.slice A4 l4 c4] w1.heap.size (w1.heap.size+1) (w1.heap.size+2) (w1.heap.size+3) w6.heap.size Nj (visF l n (ML.take j) ([],[])).1 (visF l n (ML.take j) ([],[])).2 wr)∧ExtS w6.heap.size w1.heap.size (w1.heap.size+1) w6 wr) (fun i _=>ML.length - (intOf i).toNat)
  case atStart=>exact⟨0,0,rfl,Nat.zero_le _,by show 0+frC l []<=30;rw[HFR.out];omega,HS6,ExtS.refl _⟩
  case round =>
   clear HS6
   obtain⟨j,Nj,rfl,hj,hNj,HSj,hxj⟩:=hrel
   obtain⟨wo,rfl⟩:∃ wo:World,wo=wr:=⟨_,rfl⟩
   have hlen:=visF_len (l:=l) (K:=2097152) (fun c hc=>(HSM.out c hc).slen) n (ML.take j) ([],[])
   have hfr:=frC_len l (visF l n (ML.take j) ([],[])).1
   rw[HN.out] at hfr
   rw[HFR.out] at hlen
   dsimp only at hlen
   by_cases hlt:j < ML.length
   ·obtain⟨b6,o6,rfl,hX6⟩:=(HRX.out.extS hxj (Nat.le_refl _) HB6.out HK6.out) (fun e=>by rw[e] at hlt;exact absurd hlt (Nat.not_lt_zero _))
    have hc6:=hX6 j hlt
    have hcl:=lt_of_cell hc6
    have HSX:=Hy (visF_succ l n ML ([],[]) hlt)
    have HR:=Hy (visP_any w l w.heap.size w1.heap.size (w1.heap.size+1) (w1.heap.size+2) (w1.heap.size+3) w6.heap.size pn v1 v2 v3 va pt A l1 c A2 l2 c2 A3 n c3 A4 l4 c4 HN.out h30 hcap HRC.out HNC.out HSM.out n ML[j] _ _ Nj wo (HMC.out _ (List.getElem_mem hlt)) hfr hNj (by simp only[List.length_nil] at hlen;omega) HSj.out)
    have cV:=HSj.out.v.cell;have lV:=HSj.out.v.lt
    clear hX6
    generalize ML[j]=x at *
    go_wp2_with fail
    refine HR.out.mono ?_
    rintro e w5 ⟨rfl,N',hN',hst',hxs⟩
    have HST5:=Hy hst'
    clear hst' cV lV hc6 hcl
    go_wp2
    go_roundw
    case rel=>exact⟨j+1,N',by go_num,by omega,by rw[HSX.out];exact hN',by rw[HSX.out];exact HST5,hxj.trans hxs⟩
    case measure=>simp[intOf];omega
   ·obtain rfl:j=ML.length:=by omega
    have HF:=Hy (show (visF l n (ML.take ML.length) ([],[])).2=SL from by rw[List.take_length];exact HEE.out.symm)
    rw[HF.out] at HSj hlen
    obtain⟨u,hbo,hown⟩:=HSj.out.o
    have cO:=hbo.cell;have lO:=hbo.lt
    obtain⟨A7,c7,rfl,hcc7,hrd7⟩:=rdst_own hown rfl
    have HRD:=Hy hrd7
    have hxf:=HSj.out.x
    clear hown hrd7
    go_wp2
    go_ret2
    exact⟨A7,c7,rfl,by simp only[List.length_nil] at hlen;omega,HRD.out,hxf⟩
end Go.Proofs.YtmpccllnpcbgcaaGreatDoor
