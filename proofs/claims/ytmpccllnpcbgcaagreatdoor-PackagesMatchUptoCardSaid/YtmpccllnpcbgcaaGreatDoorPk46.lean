/- Contract of pack.cloneComponent. -/
import Derived.Test.YtmpccllnpcbgcaaGreatDoorPk44
import Derived.Deep.RegionWith
namespace Go.Proofs.YtmpccllnpcbgcaaGreatDoor
open Go.RowKit
set_option maxRecDepth 100000 in
set_option maxHeartbeats 16000000 in
theorem cloneComponent_any (q:Cmp) (k0:Int) (n0 x0:ByteArray) (A5:Option Addr) (m5 c5:Nat) (A6:Option Addr) (c6:Nat) (A7:Option Addr) (c7:Nat) (A8:Option Addr) (c8:Nat) (w:World) (h:CmIn w q k0 n0 x0 A5 m5 c5 A6 c6 A7 c7 A8 c8) (hs:SmallCm q) (hcnt:cnt q.wh<=2097152) :
 Calls Tryz.prog 118 #[cmV q k0 n0 x0 A5 m5 c5 A6 c6 A7 c7 A8 c8] w fun e w'=>∃ k1 n1 x1 B5 l5 d5 B6 d6 B7 d7 B8 d8,e=.returned (cmV q k1 n1 x1 B5 l5 d5 B6 d6 B7 d7 B8 d8)∧(∀ W',ExtC (fun i=>i < w.heap.size) w' W'->CmIn W' q k1 n1 x1 B5 l5 d5 B6 d6 B7 d7 B8 d8)∧Ext w w':=by
 have CC:=Hy (cloneCond_any (cnt q.wh) q.wh (Nat.le_refl _) hcnt)
 have HH:=Hy h
 have hl6:=hs.nlen;have hl7:=hs.ilen;have hl8:=hs.slen
 clear h hs hcnt
 have hhas:=HH.out.wh
 have HX:=Hy HH.out.needs;have HI:=Hy HH.out.items;have HT:=Hy HH.out.steps
 obtain⟨qn,qt,qd,qa,qw,qe,qi,qs⟩:=q
 dsimp only[cmV] at *
 clear HH
 generalize h6:qe.length=l6 at *
 generalize h7:qi.length=l7 at *
 generalize h8:qs.length=l8 at *
 have H6:=Hy h6;have H7:=Hy h7;have H8:=Hy h8
 clear h6 h7 h8
 have x1:Ext w (w.alloc (.cells #[.string qn,.string qt,.bool qd,.bool qa,.int .i64 k0,.string n0,.string x0,.slice A5 m5 c5,.slice A6 l6 c6,.slice A7 l7 c7,.slice A8 l8 c8] 82)):=(Ext.refl w).alloc _
 have x2:Ext (w.alloc (.cells #[.string qn,.string qt,.bool qd,.bool qa,.int .i64 k0,.string n0,.string x0,.slice A5 m5 c5,.slice A6 l6 c6,.slice A7 l7 c7,.slice A8 l8 c8] 82)) ((w.alloc (.cells #[.string qn,.string qt,.bool qd,.bool qa,.int .i64 k0,.string n0,.string x0,.slice A5 m5 c5,.slice A6 l6 c6,.slice A7 l7 c7,.slice A8 l8 c8] 82)).alloc (.cells #[.string ⟨#[]⟩,.string ⟨#[]⟩,.bool false,.bool false,.int .i64 0,.string ⟨#[]⟩,.string ⟨#[]⟩,.slice none 0 0,.slice none 0 0,.slice none 0 0,.slice none 0 0] 82)):=(Ext.refl _).alloc _
 have s1:(w.alloc (.cells #[.string qn,.string qt,.bool qd,.bool qa,.int .i64 k0,.string n0,.string x0,.slice A5 m5 c5,.slice A6 l6 c6,.slice A7 l7 c7,.slice A8 l8 c8] 82)).heap.size=w.heap.size+1:=World.size_alloc _ _
 have b0:Blk ((w.alloc (.cells #[.string qn,.string qt,.bool qd,.bool qa,.int .i64 k0,.string n0,.string x0,.slice A5 m5 c5,.slice A6 l6 c6,.slice A7 l7 c7,.slice A8 l8 c8] 82)).alloc (.cells #[.string ⟨#[]⟩,.string ⟨#[]⟩,.bool false,.bool false,.int .i64 0,.string ⟨#[]⟩,.string ⟨#[]⟩,.slice none 0 0,.slice none 0 0,.slice none 0 0,.slice none 0 0] 82)) w.heap.size 82 #[.string qn,.string qt,.bool qd,.bool qa,.int .i64 k0,.string n0,.string x0,.slice A5 m5 c5,.slice A6 l6 c6,.slice A7 l7 c7,.slice A8 l8 c8]:=(Blk.new w _ _).ext x2
 have b1:Blk ((w.alloc (.cells #[.string qn,.string qt,.bool qd,.bool qa,.int .i64 k0,.string n0,.string x0,.slice A5 m5 c5,.slice A6 l6 c6,.slice A7 l7 c7,.slice A8 l8 c8] 82)).alloc (.cells #[.string ⟨#[]⟩,.string ⟨#[]⟩,.bool false,.bool false,.int .i64 0,.string ⟨#[]⟩,.string ⟨#[]⟩,.slice none 0 0,.slice none 0 0,.slice none 0 0,.slice none 0 0] 82)) (w.heap.size+1) 82 #[.string ⟨#[]⟩,.string ⟨#[]⟩,.bool false,.bool false,.int .i64 0,.string ⟨#[]⟩,.string ⟨#[]⟩,.slice none 0 0,.slice none 0 0,.slice none 0 0,.slice none 0 0]:=by
  have:=Blk.new (w.alloc (.cells #[.string qn,.string qt,.bool qd,.bool qa,.int .i64 k0,.string n0,.string x0,.slice A5 m5 c5,.slice A6 l6 c6,.slice A7 l7 c7,.slice A8 l8 c8] 82)) 82 #[.string ⟨#[]⟩,.string ⟨#[]⟩,.bool false,.bool false,.int .i64 0,.string ⟨#[]⟩,.string ⟨#[]⟩,.slice none 0 0,.slice none 0 0,.slice none 0 0,.slice none 0 0]
  rwa [s1] at this
 have hx0:=x1.trans x2
 have s2:((w.alloc (.cells #[.string qn,.string qt,.bool qd,.bool qa,.int .i64 k0,.string n0,.string x0,.slice A5 m5 c5,.slice A6 l6 c6,.slice A7 l7 c7,.slice A8 l8 c8] 82)).alloc (.cells #[.string ⟨#[]⟩,.string ⟨#[]⟩,.bool false,.bool false,.int .i64 0,.string ⟨#[]⟩,.string ⟨#[]⟩,.slice none 0 0,.slice none 0 0,.slice none 0 0,.slice none 0 0] 82)).heap.size=w.heap.size+2:=by rw[World.size_alloc,s1]
 generalize hW0:((w.alloc (.cells #[.string qn,.string qt,.bool qd,.bool qa,.int .i64 k0,.string n0,.string x0,.slice A5 m5 c5,.slice A6 l6 c6,.slice A7 l7 c7,.slice A8 l8 c8] 82)).alloc (.cells #[.string ⟨#[]⟩,.string ⟨#[]⟩,.bool false,.bool false,.int .i64 0,.string ⟨#[]⟩,.string ⟨#[]⟩,.slice none 0 0,.slice none 0 0,.slice none 0 0,.slice none 0 0] 82))=W0 at *
 have HW0:=Hy hW0
 have e0:=b0.cell;have l0:=b0.lt
 clear hW0 x1 x2 s1
 go_enter Tryz.func118,Tryz.ntmps118
 go_wp2_with fail
 rw[HW0.out]
 refine (CC.out _ _ (hhas.ext hx0)).mono ?_
 rintro e w1 ⟨v1,rfl,hcd1,hx1⟩
 obtain⟨k1,n1,y1,B5,l5,d5,rfl⟩:=hcd1.cells
 have B0:=b0.ext hx1;have B1:=b1.ext hx1
 have e1:=B0.cell;have l1:=B0.lt;have f1:=B0.free
 have hs1:=hx1.size
 clear e0 l0 b0 b1 CC hhas
 go_wp2_with fail
 have BW:=(((B0.set 4 (.int .i64 k1)).set 5 (.string n1)).set 6 (.string y1)).set 7 (.slice B5 l5 d5)
 have BR:=(((B1.far (p:=⟨w.heap.size,4,none⟩) (by show w.heap.size+1≠w.heap.size;omega) (.int .i64 k1)).far (p:=⟨w.heap.size,5,none⟩) (by show w.heap.size+1≠w.heap.size;omega) (.string n1)).far (p:=⟨w.heap.size,6,none⟩) (by show w.heap.size+1≠w.heap.size;omega) (.string y1)).far (p:=⟨w.heap.size,7,none⟩) (by show w.heap.size+1≠w.heap.size;omega) (.slice B5 l5 d5)
 have hcw:=(((hcd1.set (p:=⟨w.heap.size,4,none⟩) (by show w.heap.size < W0.heap.size;omega) (.int .i64 k1)).set (p:=⟨w.heap.size,5,none⟩) (by show w.heap.size < W0.heap.size;omega) (.string n1)).set (p:=⟨w.heap.size,6,none⟩) (by show w.heap.size < W0.heap.size;omega) (.string y1)).set (p:=⟨w.heap.size,7,none⟩) (by show w.heap.size < W0.heap.size;omega) (.slice B5 l5 d5)
 have hxW:=((((hx0.trans hx1).setCell (p:=⟨w.heap.size,4,none⟩) (Nat.le_refl _) (.int .i64 k1)).setCell (p:=⟨w.heap.size,5,none⟩) (Nat.le_refl _) (.string n1)).setCell (p:=⟨w.heap.size,6,none⟩) (Nat.le_refl _) (.string y1)).setCell (p:=⟨w.heap.size,7,none⟩) (Nat.le_refl _) (.slice B5 l5 d5)
 have hsW:((((w1.setCell ⟨w.heap.size,4,none⟩ (.int .i64 k1)).setCell ⟨w.heap.size,5,none⟩ (.string n1)).setCell ⟨w.heap.size,6,none⟩ (.string y1)).setCell ⟨w.heap.size,7,none⟩ (.slice B5 l5 d5)).heap.size=w1.heap.size:=by simp[World.setCell]
 generalize hW1:((((w1.setCell ⟨w.heap.size,4,none⟩ (.int .i64 k1)).setCell ⟨w.heap.size,5,none⟩ (.string n1)).setCell ⟨w.heap.size,6,none⟩ (.string y1)).setCell ⟨w.heap.size,7,none⟩ (.slice B5 l5 d5))=W1 at *
 have BX:=Hy (show Blk W1 w.heap.size 82 #[.string qn,.string qt,.bool qd,.bool qa,.int .i64 k1,.string n1,.string y1,.slice B5 l5 d5,.slice A6 l6 c6,.slice A7 l7 c7,.slice A8 l8 c8] from BW)
 have BRR:=Hy BR
 have HCW:=Hy hcw
 clear hW1 BW BR hcw hcd1 e1 l1 f1 B0 B1 hx1
 have xO:Ext W1 W1.drew:=(Ext.refl W1).drew
 have d8:=BX.out.cell 8;have d9:=BX.out.cell 9;have d10:=BX.out.cell 10
 simp at d8 d9 d10
 have lW:=BX.out.lt
 go_region_with (first
  | (go_at_call 201;with_reducible refine (CloneX_any qe A6 l6 c6 _ H6.out (HX.out.ext ?_) hl6).mono ?_;(next=>exact hxW.trans xO);rintro e wA ⟨vA,rfl,hoA,hxA⟩;(obtain⟨aA,cA,rfl⟩:=slice_of hoA);(have xA:=xO.trans hxA);(have dA9:=xA.cell d9);(have dA10:=xA.cell d10);(have lA:=(BX.out.ext xA).lt))
  | (go_at_call 202;with_reducible refine (CloneI_any qi A7 l7 c7 _ H7.out (HI.out.ext ?_) hl7).mono ?_;(next=>exact hxW.trans xA);rintro e wB ⟨vB,rfl,hoB,hxB⟩;(obtain⟨aB,cB,rfl⟩:=slice_of hoB);(have xB:=xA.trans hxB);(have dB10:=xB.cell d10);(have lB:=(BX.out.ext xB).lt))
  | (go_at_call 203;with_reducible refine (CloneS_any qs A8 l8 c8 _ H8.out (HT.out.ext ?_) hl8).mono ?_;(next=>exact hxW.trans xB);rintro e wC ⟨vC,rfl,hoC,hxC⟩;(obtain⟨aC,cC,rfl⟩:=slice_of hoC);(have xC:=xB.trans hxC);(have BC:=BX.out.ext xC);(have eC:=BC.cell);(have lC:=BC.lt);(have fC:=BC.free)))
 all_goals
  have hRA:W1.heap.size<=W1.drew.heap.size:=Nat.le_refl _
  have hRB:=xA.size
  have hRC:=xB.size
  have BN:=((BC.set 8 (.slice aA l6 cA)).set 9 (.slice aB l7 cB)).set 10 (.slice aC l8 cC)
  have BRC:=BRR.out.ext xC
  have BRN:=((BRC.far (p:=⟨w.heap.size,8,none⟩) (by show w.heap.size+1≠w.heap.size;omega) (.slice aA l6 cA)).far (p:=⟨w.heap.size,9,none⟩) (by show w.heap.size+1≠w.heap.size;omega) (.slice aB l7 cB)).far (p:=⟨w.heap.size,10,none⟩) (by show w.heap.size+1≠w.heap.size;omega) (.slice aC l8 cC)
  have hE1:=(((ExtC.refl (fun i=>i=w.heap.size∨i=w.heap.size+1) wC).set (p:=⟨w.heap.size,8,none⟩) (.inl (.inl rfl)) (.slice aA l6 cA)).set (p:=⟨w.heap.size,9,none⟩) (.inl (.inl rfl)) (.slice aB l7 cB)).set (p:=⟨w.heap.size,10,none⟩) (.inl (.inl rfl)) (.slice aC l8 cC)
  generalize hWN:(((wC.setCell ⟨w.heap.size,8,none⟩ (.slice aA l6 cA)).setCell ⟨w.heap.size,9,none⟩ (.slice aB l7 cB)).setCell ⟨w.heap.size,10,none⟩ (.slice aC l8 cC))=WN at *
  have hCB:∀ i,i=w.heap.size∨i=w.heap.size+1->i < W0.heap.size:=fun i hi=>by rcases hi with h|h<;>omega
  have HCB:=Hy hCB
  have HCL:=Hy (show ∀ i,i < w.heap.size->i < W0.heap.size from fun i hi=>by omega)
  have HEND:=Hy (fun WF (h:ExtC (fun i=>i < W0.heap.size) WN WF)=>cm_end (C:=fun i=>i < W0.heap.size) (qn:=qn) (qt:=qt) (qd:=qd) (qa:=qa) (B:=W0.heap.size) (fun g h=>Nat.not_lt.2 h) hoA (by omega) (hxB.trans hxC) hoB (by omega) hxC hoC (by omega) (HCW.out.ext xC) ((hE1.imp hCB).trans h) H6.out H7.out H8.out)
  have HXE:=Hy (fun WF (h:ExtC (fun i=>i=w.heap.size∨i=w.heap.size+1) WN WF)=>ExtC.ext (hxW.trans xC) (hE1.trans h) (fun i hi=>by rcases hi with h|h<;>omega))
  have HZ:=Hy (ExtC.refl (fun i=>i=w.heap.size∨i=w.heap.size+1) WN)
  have BN':Blk WN w.heap.size 82 #[.string qn,.string qt,.bool qd,.bool qa,.int .i64 k1,.string n1,.string y1,.slice B5 l5 d5,.slice aA l6 cA,.slice aB l7 cB,.slice aC l8 cC]:=BN
  have eN:=BN'.cell;have lN:=BN'.lt;have eR:=BRN.cell;have lR:=BRN.lt;have fR:=BRN.free
  clear hCB dA9 dA10 lA dB10 lB d8 d9 d10 lW eC lC fC hoA hoB hoC hE1 hWN BC BRC BN BX BRR HCW hRA hRB hRC BN' BRN xA xB xC hxA hxB hxC HX HI HT
  go_wp2
  refine bodyPost_ret (v:=.agg #[.string qn,.string qt,.bool qd,.bool qa,.int .i64 k1,.string n1,.string y1,.slice B5 l5 d5,.slice aA l6 cA,.slice aB l7 cB,.slice aC l8 cC]) (by simp[results,Tryz.results118,go_sem,eR]) rfl ?_
  have hF:=HZ.out.set (p:=⟨w.heap.size+1,0,none⟩) (.inl (.inr rfl)) (.string qn)
  have hF:=hF.set (p:=⟨w.heap.size+1,1,none⟩) (.inl (.inr rfl)) (.string qt)
  have hF:=hF.set (p:=⟨w.heap.size+1,2,none⟩) (.inl (.inr rfl)) (.bool qd)
  have hF:=hF.set (p:=⟨w.heap.size+1,3,none⟩) (.inl (.inr rfl)) (.bool qa)
  have hF:=hF.set (p:=⟨w.heap.size+1,4,none⟩) (.inl (.inr rfl)) (.int .i64 k1)
  have hF:=hF.set (p:=⟨w.heap.size+1,5,none⟩) (.inl (.inr rfl)) (.string n1)
  have hF:=hF.set (p:=⟨w.heap.size+1,6,none⟩) (.inl (.inr rfl)) (.string y1)
  have hF:=hF.set (p:=⟨w.heap.size+1,7,none⟩) (.inl (.inr rfl)) (.slice B5 l5 d5)
  have hF:=hF.set (p:=⟨w.heap.size+1,8,none⟩) (.inl (.inr rfl)) (.slice aA l6 cA)
  have hF:=hF.set (p:=⟨w.heap.size+1,9,none⟩) (.inl (.inr rfl)) (.slice aB l7 cB)
  have hF:=hF.set (p:=⟨w.heap.size+1,10,none⟩) (.inl (.inr rfl)) (.slice aC l8 cC)
  exact⟨k1,n1,y1,B5,l5,d5,aA,cA,aB,cB,aC,cC,rfl,fun W' hW'=>HEND.out _ ((hF.imp HCB.out).trans (hW'.imp HCL.out)),HXE.out _ hF⟩
end Go.Proofs.YtmpccllnpcbgcaaGreatDoor
