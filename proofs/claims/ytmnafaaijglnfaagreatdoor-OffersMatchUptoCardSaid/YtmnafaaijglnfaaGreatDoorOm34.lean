/- feed.clone. (Printed by gen/mgd.py.) -/
import Derived.Test.YtmnafaaijglnfaaGreatDoorOm27
import Derived.Deep.RegionWith
namespace Go.Proofs.YtmnafaaijglnfaaGreatDoor
open Go.RowKit
set_option maxRecDepth 100000 in
set_option maxHeartbeats 16000000 in
theorem cloneO_any (o:Of) (A:Option Addr) (c:Nat) (k:Int) (n x:ByteArray) (A2:Option Addr) (m c2:Nat) (w:World) (hi:OfIn AnyB w o A k n x A2 m c2) (hs:SmallO o) (hcnt:cnt o.wh<=2097152) :
 Calls Tryz.prog 109 #[ofV o A c k n x A2 m c2] w fun e w'=>∃ A' c' k' n' x' B' m' d',e=.returned (ofV o A' c' k' n' x' B' m' d')∧OfIn (fun b=>w.heap.size<=b) w' o A' k' n' x' B' m' d'∧Ext w w':=by
 have CC:=Hy (fun v W (h:CdIn AnyB W o.wh v)=>cloneCond_any (cnt o.wh) o.wh (Nat.le_refl _) hcnt v W h)
 have hl:=hs.len
 obtain⟨hsp,hcd⟩:=hi
 have CS:=Hy (fun W (hx:Ext w W)=>CloneSp_any o.fr A o.fr.length c W rfl (hsp.keep (fun _ _ h=>h) (fun _ _ _ _ hc=>hx.cell hc)) hl)
 have HC:=Hy hcd
 have HEND:=Hy (fun (wA WF:World) (P:Nat->Prop) A' k' n' x' B' m' d' (h1:RdP P wA A' o.fr) (h2:CdIn P wA o.wh (.agg #[.int .i64 k',.string n',.string x',.slice B' m' d'])) (hk:∀ b o v,P b->wA.cell? ⟨b,o,none⟩=some v->WF.cell? ⟨b,o,none⟩=some v) (hp:∀ b,P b->w.heap.size<=b) =>
  show OfIn (fun b=>w.heap.size<=b) WF o A' k' n' x' B' m' d' from OfIn.keep (fun b _ h=>hp b h) hk (show OfIn P wA o A' k' n' x' B' m' d' from ⟨h1,h2⟩))
 clear hsp hcd hs hcnt hl
 obtain⟨on,⟨o1,o2,o3,oa⟩,os,of_,ow,od,ob,ot,og,oh,ou,ok⟩:=o
 dsimp only[ofV] at *
 generalize of_.length=ol at *
 have x1:Ext w (w.alloc (.cells #[.string on,.int .i64 o1,.int .i64 o2,.int .i64 o3,.string oa,.string os,.slice A ol c,.bool ow,.int .i64 k,.string n,.string x,.slice A2 m c2,.int .i64 ob,.int .i64 ot,.int .i64 og,.bool oh,.bool ou,.bool ok] 66)):=(Ext.refl w).alloc _
 have x2:Ext (w.alloc (.cells #[.string on,.int .i64 o1,.int .i64 o2,.int .i64 o3,.string oa,.string os,.slice A ol c,.bool ow,.int .i64 k,.string n,.string x,.slice A2 m c2,.int .i64 ob,.int .i64 ot,.int .i64 og,.bool oh,.bool ou,.bool ok] 66)) ((w.alloc (.cells #[.string on,.int .i64 o1,.int .i64 o2,.int .i64 o3,.string oa,.string os,.slice A ol c,.bool ow,.int .i64 k,.string n,.string x,.slice A2 m c2,.int .i64 ob,.int .i64 ot,.int .i64 og,.bool oh,.bool ou,.bool ok] 66)).alloc (.cells #[.string ⟨#[]⟩,.int .i64 0,.int .i64 0,.int .i64 0,.string ⟨#[]⟩,.string ⟨#[]⟩,.slice none 0 0,.bool false,.int .i64 0,.string ⟨#[]⟩,.string ⟨#[]⟩,.slice none 0 0,.int .i64 0,.int .i64 0,.int .i64 0,.bool false,.bool false,.bool false] 66)):=(Ext.refl _).alloc _
 have s1:(w.alloc (.cells #[.string on,.int .i64 o1,.int .i64 o2,.int .i64 o3,.string oa,.string os,.slice A ol c,.bool ow,.int .i64 k,.string n,.string x,.slice A2 m c2,.int .i64 ob,.int .i64 ot,.int .i64 og,.bool oh,.bool ou,.bool ok] 66)).heap.size=w.heap.size+1:=World.size_alloc _ _
 have b0:Blk ((w.alloc (.cells #[.string on,.int .i64 o1,.int .i64 o2,.int .i64 o3,.string oa,.string os,.slice A ol c,.bool ow,.int .i64 k,.string n,.string x,.slice A2 m c2,.int .i64 ob,.int .i64 ot,.int .i64 og,.bool oh,.bool ou,.bool ok] 66)).alloc (.cells #[.string ⟨#[]⟩,.int .i64 0,.int .i64 0,.int .i64 0,.string ⟨#[]⟩,.string ⟨#[]⟩,.slice none 0 0,.bool false,.int .i64 0,.string ⟨#[]⟩,.string ⟨#[]⟩,.slice none 0 0,.int .i64 0,.int .i64 0,.int .i64 0,.bool false,.bool false,.bool false] 66)) w.heap.size 66 #[.string on,.int .i64 o1,.int .i64 o2,.int .i64 o3,.string oa,.string os,.slice A ol c,.bool ow,.int .i64 k,.string n,.string x,.slice A2 m c2,.int .i64 ob,.int .i64 ot,.int .i64 og,.bool oh,.bool ou,.bool ok]:=(Blk.new w _ _).ext x2
 have b1:Blk ((w.alloc (.cells #[.string on,.int .i64 o1,.int .i64 o2,.int .i64 o3,.string oa,.string os,.slice A ol c,.bool ow,.int .i64 k,.string n,.string x,.slice A2 m c2,.int .i64 ob,.int .i64 ot,.int .i64 og,.bool oh,.bool ou,.bool ok] 66)).alloc (.cells #[.string ⟨#[]⟩,.int .i64 0,.int .i64 0,.int .i64 0,.string ⟨#[]⟩,.string ⟨#[]⟩,.slice none 0 0,.bool false,.int .i64 0,.string ⟨#[]⟩,.string ⟨#[]⟩,.slice none 0 0,.int .i64 0,.int .i64 0,.int .i64 0,.bool false,.bool false,.bool false] 66)) (w.heap.size+1) 66 #[.string ⟨#[]⟩,.int .i64 0,.int .i64 0,.int .i64 0,.string ⟨#[]⟩,.string ⟨#[]⟩,.slice none 0 0,.bool false,.int .i64 0,.string ⟨#[]⟩,.string ⟨#[]⟩,.slice none 0 0,.int .i64 0,.int .i64 0,.int .i64 0,.bool false,.bool false,.bool false]:=by
  have:=Blk.new (w.alloc (.cells #[.string on,.int .i64 o1,.int .i64 o2,.int .i64 o3,.string oa,.string os,.slice A ol c,.bool ow,.int .i64 k,.string n,.string x,.slice A2 m c2,.int .i64 ob,.int .i64 ot,.int .i64 og,.bool oh,.bool ou,.bool ok] 66)) 66 #[.string ⟨#[]⟩,.int .i64 0,.int .i64 0,.int .i64 0,.string ⟨#[]⟩,.string ⟨#[]⟩,.slice none 0 0,.bool false,.int .i64 0,.string ⟨#[]⟩,.string ⟨#[]⟩,.slice none 0 0,.int .i64 0,.int .i64 0,.int .i64 0,.bool false,.bool false,.bool false]
  rwa [s1] at this
 have hx0:=x1.trans x2
 have s2:((w.alloc (.cells #[.string on,.int .i64 o1,.int .i64 o2,.int .i64 o3,.string oa,.string os,.slice A ol c,.bool ow,.int .i64 k,.string n,.string x,.slice A2 m c2,.int .i64 ob,.int .i64 ot,.int .i64 og,.bool oh,.bool ou,.bool ok] 66)).alloc (.cells #[.string ⟨#[]⟩,.int .i64 0,.int .i64 0,.int .i64 0,.string ⟨#[]⟩,.string ⟨#[]⟩,.slice none 0 0,.bool false,.int .i64 0,.string ⟨#[]⟩,.string ⟨#[]⟩,.slice none 0 0,.int .i64 0,.int .i64 0,.int .i64 0,.bool false,.bool false,.bool false] 66)).heap.size=w.heap.size+2:=by rw[World.size_alloc,s1]
 have BX:=Hy b0;have BRR:=Hy b1
 clear b0 b1 x1 x2 s1
 go_enter Tryz.func109,Tryz.ntmps109
 go_upto_region 0 with fail
 go_cut [1,2] (fun s1 s2 wx=>s1=.pointer (some ⟨w.heap.size,0,none⟩)∧s2=.pointer (some ⟨w.heap.size+1,0,none⟩)∧Hid (Blk wx w.heap.size 66 #[.string on,.int .i64 o1,.int .i64 o2,.int .i64 o3,.string oa,.string os,.slice A ol c,.bool ow,.int .i64 k,.string n,.string x,.slice A2 m c2,.int .i64 ob,.int .i64 ot,.int .i64 og,.bool oh,.bool ou,.bool ok])∧Hid (Blk wx (w.heap.size+1) 66 #[.string ⟨#[]⟩,.int .i64 0,.int .i64 0,.int .i64 0,.string ⟨#[]⟩,.string ⟨#[]⟩,.slice none 0 0,.bool false,.int .i64 0,.string ⟨#[]⟩,.string ⟨#[]⟩,.slice none 0 0,.int .i64 0,.int .i64 0,.int .i64 0,.bool false,.bool false,.bool false])∧Ext w wx∧wx.heap.size=w.heap.size+2)
 case first=>as_aux_lemma =>
  go_wp2
  go_meet
  case rel=>exact⟨rfl,rfl,BX,BRR,hx0,s2⟩
 case rest =>
 clear BX BRR hx0 s2
 obtain⟨rfl,rfl,BX,BRR,hx0,s2⟩:=hcut
 obtain⟨W0,rfl⟩:∃ W0:World,W0=wc:=⟨_,rfl⟩
 have lW:=BX.out.lt
 have xO:Ext W0 W0.drew:=(Ext.refl _).drew
 have d6:W0.drew.cell? ⟨w.heap.size,6,none⟩=some (.slice A ol c):=(BX.out.ext xO).cell 6
 have d8:W0.drew.cell? ⟨w.heap.size,8,none⟩=some (.int .i64 k):=(BX.out.ext xO).cell 8
 have d9:W0.drew.cell? ⟨w.heap.size,9,none⟩=some (.string n):=(BX.out.ext xO).cell 9
 have d10:W0.drew.cell? ⟨w.heap.size,10,none⟩=some (.string x):=(BX.out.ext xO).cell 10
 have d11:W0.drew.cell? ⟨w.heap.size,11,none⟩=some (.slice A2 m c2):=(BX.out.ext xO).cell 11
 go_upto_region 1 with fail
 go_cut [1,2] (fun s1 s2 wx=>∃ (aA:Option Addr) (cA:Nat) (k1:Int) (n1 y1:ByteArray) (B5:Option Addr) (l5 d5:Nat),s1=.pointer (some ⟨w.heap.size,0,none⟩)∧s2=.pointer (some ⟨w.heap.size+1,0,none⟩)∧Hid (Blk wx w.heap.size 66 #[.string on,.int .i64 o1,.int .i64 o2,.int .i64 o3,.string oa,.string os,.slice aA ol cA,.bool ow,.int .i64 k1,.string n1,.string y1,.slice B5 l5 d5,.int .i64 ob,.int .i64 ot,.int .i64 og,.bool oh,.bool ou,.bool ok])∧Hid (Blk wx (w.heap.size+1) 66 #[.string ⟨#[]⟩,.int .i64 0,.int .i64 0,.int .i64 0,.string ⟨#[]⟩,.string ⟨#[]⟩,.slice none 0 0,.bool false,.int .i64 0,.string ⟨#[]⟩,.string ⟨#[]⟩,.slice none 0 0,.int .i64 0,.int .i64 0,.int .i64 0,.bool false,.bool false,.bool false]) ∧
  Hid (RdP (fun b=>w.heap.size+2<=b) wx aA of_)∧Hid (CdIn (fun b=>w.heap.size+2<=b) wx od (.agg #[.int .i64 k1,.string n1,.string y1,.slice B5 l5 d5]))∧Ext w wx)
 case first=>as_aux_lemma =>
  go_region_with (first
   | (go_at_call 184;(with_reducible refine (CS.out _ ?_).mono ?_;(next=>exact hx0.trans xO));rintro e wA ⟨aA,cA,rfl,hpA,hxA⟩;(have xA:=xO.trans hxA);(have dA8:=hxA.cell d8);(have dA9:=hxA.cell d9);(have dA10:=hxA.cell d10);(have dA11:=hxA.cell d11);(have lA:=(BX.out.ext xA).lt))
   | (go_at_call 185;(with_reducible refine (CC.out _ _ (HC.out.ext ?_)).mono ?_;(next=>exact hx0.trans xA));rintro e wB ⟨vB,rfl,hcdB,hxB⟩;(obtain⟨k1,n1,y1,B5,l5,d5,rfl⟩:=hcdB.cells);(have xB:=xA.trans hxB);(have BC:=BX.out.ext xB);(have eC:=BC.cell);(have lC:=BC.lt);(have fC:=BC.free)))
  all_goals
   have hsA:=xA.size
   rw[s2] at hsA
   have BN:=((((BC.set 6 (.slice aA ol cA)).set 8 (.int .i64 k1)).set 9 (.string n1)).set 10 (.string y1)).set 11 (.slice B5 l5 d5)
   have BRC:=BRR.out.ext xB
   have BRN:=((((BRC.far (p:=⟨w.heap.size,6,none⟩) (by show w.heap.size+1≠w.heap.size;omega) (.slice aA ol cA)).far (p:=⟨w.heap.size,8,none⟩) (by show w.heap.size+1≠w.heap.size;omega) (.int .i64 k1)).far (p:=⟨w.heap.size,9,none⟩) (by show w.heap.size+1≠w.heap.size;omega) (.string n1)).far (p:=⟨w.heap.size,10,none⟩) (by show w.heap.size+1≠w.heap.size;omega) (.string y1)).far (p:=⟨w.heap.size,11,none⟩) (by show w.heap.size+1≠w.heap.size;omega) (.slice B5 l5 d5)
   have hE1:=(((((ExtC.refl (fun i=>i=w.heap.size∨i=w.heap.size+1) wB).set (p:=⟨w.heap.size,6,none⟩) (.inl (.inl rfl)) (.slice aA ol cA)).set (p:=⟨w.heap.size,8,none⟩) (.inl (.inl rfl)) (.int .i64 k1)).set (p:=⟨w.heap.size,9,none⟩) (.inl (.inl rfl)) (.string n1)).set (p:=⟨w.heap.size,10,none⟩) (.inl (.inl rfl)) (.string y1)).set (p:=⟨w.heap.size,11,none⟩) (.inl (.inl rfl)) (.slice B5 l5 d5)
   have hk:∀ b o v,w.heap.size+2<=b->wB.cell? ⟨b,o,none⟩=some v->(((((wB.setCell ⟨w.heap.size,6,none⟩ (.slice aA ol cA)).setCell ⟨w.heap.size,8,none⟩ (.int .i64 k1)).setCell ⟨w.heap.size,9,none⟩ (.string n1)).setCell ⟨w.heap.size,10,none⟩ (.string y1)).setCell ⟨w.heap.size,11,none⟩ (.slice B5 l5 d5)).cell? ⟨b,o,none⟩=some v :=
    fun b o v hb hc=>hE1.cell (fun e=>by rcases e with e|e<;>omega) hc
   have hP:=(hpA.keep (P':=fun b=>w.heap.size+2<=b) (fun b _ h=>by have h:W0.heap.size<=b:=h;omega) (fun _ _ _ _ hc=>hxB.cell hc)).keep (fun b _ h=>h) hk
   have hC:=(hcdB.imp (P':=fun b=>w.heap.size+2<=b) (fun b _ (h:wA.heap.size<=b)=>by omega)).keepP (fun b _ h=>h) hk
   have hX:Ext w _:=ExtC.ext (hx0.trans xB) hE1 (fun i hi=>by rcases hi with h|h<;>omega)
   go_wp2
   go_meet
   case rel=>exact⟨aA,cA,k1,n1,y1,B5,l5,d5,rfl,rfl,Hy BN,Hy BRN,Hy hP,Hy hC,hX⟩
 case rest =>
 clear BX BRR hx0 s2 lW xO d6 d8 d9 d10 d11
 obtain⟨aA,cA,k1,n1,y1,B5,l5,d5,rfl,rfl,BX,BRR,HP,HC2,hx0⟩:=hcut
 obtain⟨WN,rfl⟩:∃ WN:World,WN=wc:=⟨_,rfl⟩
 have HFF:=Hy (fun WF (h:ExtC (fun i=>i=w.heap.size∨i=w.heap.size+1) WN WF)=>HEND.out WN WF (fun b=>w.heap.size+2<=b) _ _ _ _ _ _ _ HP.out HC2.out
  (fun b o v hb hc=>h.cell (fun e=>by have hb:w.heap.size+2<=b:=hb;rcases e with e|e<;>omega) hc) (fun b (hb:w.heap.size+2<=b)=>by omega))
 have HXE:=Hy (fun WF (h:ExtC (fun i=>i=w.heap.size∨i=w.heap.size+1) WN WF)=>ExtC.ext hx0 h (fun i hi=>by rcases hi with h|h<;>omega))
 have LN:(loadVar 66 ⟨w.heap.size,0,none⟩).run Tryz.prog WN=.ok (.agg #[.string on,.int .i64 o1,.int .i64 o2,.int .i64 o3,.string oa,.string os,.slice aA ol cA,.bool ow,.int .i64 k1,.string n1,.string y1,.slice B5 l5 d5,.int .i64 ob,.int .i64 ot,.int .i64 og,.bool oh,.bool ou,.bool ok]) WN:=load_blk BX.out rfl
 have LS:(storeVar 66 ⟨w.heap.size+1,0,none⟩ (.agg #[.string on,.int .i64 o1,.int .i64 o2,.int .i64 o3,.string oa,.string os,.slice aA ol cA,.bool ow,.int .i64 k1,.string n1,.string y1,.slice B5 l5 d5,.int .i64 ob,.int .i64 ot,.int .i64 og,.bool oh,.bool ou,.bool ok])).run Tryz.prog WN=.ok () (WN.setRow (w.heap.size+1) #[.string on,.int .i64 o1,.int .i64 o2,.int .i64 o3,.string oa,.string os,.slice aA ol cA,.bool ow,.int .i64 k1,.string n1,.string y1,.slice B5 l5 d5,.int .i64 ob,.int .i64 ot,.int .i64 og,.bool oh,.bool ou,.bool ok]):=run_store_blk 66 BRR.out rfl (by kernel_rfl) (by simp[Value.cells,Value.oneCell'])
 have hE:ExtC (fun i=>i=w.heap.size∨i=w.heap.size+1) WN (WN.setRow (w.heap.size+1) #[.string on,.int .i64 o1,.int .i64 o2,.int .i64 o3,.string oa,.string os,.slice aA ol cA,.bool ow,.int .i64 k1,.string n1,.string y1,.slice B5 l5 d5,.int .i64 ob,.int .i64 ot,.int .i64 og,.bool oh,.bool ou,.bool ok]):=⟨rfl,rfl,rfl,by simp[World.setRow],fun k _ hne=>setRow_other _ _ _ _ (fun e=>hne (.inr e))⟩
 have F1:=Hy (HFF.out _ hE);have F2:=Hy (HXE.out _ hE)
 have HRR:=Hy (show Blk (WN.setRow (w.heap.size+1) #[.string on,.int .i64 o1,.int .i64 o2,.int .i64 o3,.string oa,.string os,.slice aA ol cA,.bool ow,.int .i64 k1,.string n1,.string y1,.slice B5 l5 d5,.int .i64 ob,.int .i64 ot,.int .i64 og,.bool oh,.bool ou,.bool ok]) (w.heap.size+1) 66 #[.string on,.int .i64 o1,.int .i64 o2,.int .i64 o3,.string oa,.string os,.slice aA ol cA,.bool ow,.int .i64 k1,.string n1,.string y1,.slice B5 l5 d5,.int .i64 ob,.int .i64 ot,.int .i64 og,.bool oh,.bool ou,.bool ok] from setRow_heap _ _ _ _ _ _ BRR.out)
 clear HP HC2 HEND CS CC HC HFF HXE hE BX BRR
 go_wp2_with (first|refine wpList_load_at rfl _ _ rfl _ rfl _ LN ?_|refine wpList_store_at rfl _ _ _ rfl _ rfl _ rfl _ LS ?_)
 have eR:=HRR.out.cell
 refine bodyPost_ret (v:=.agg #[.string on,.int .i64 o1,.int .i64 o2,.int .i64 o3,.string oa,.string os,.slice aA ol cA,.bool ow,.int .i64 k1,.string n1,.string y1,.slice B5 l5 d5,.int .i64 ob,.int .i64 ot,.int .i64 og,.bool oh,.bool ou,.bool ok]) (by simp[results,Tryz.results109,go_sem,eR]) rfl ?_
 exact⟨aA,cA,k1,n1,y1,B5,l5,d5,rfl,F1.out,F2.out⟩
end Go.Proofs.YtmnafaaijglnfaaGreatDoor
