/- Contract of the program's reading of one condition, given what it calls. (Printed by gen/cndh.py.) -/
import Derived.Test.YtmnafaaijglnfaaGreatDoorFr12
namespace Go.Proofs.YtmnafaaijglnfaaGreatDoor
open Go.RowKit
theorem lit_is {x:ByteArray} {l:Str} (h:bs x=l):(x.toList==l)=true:=by rw[lit_beq,h];simp
theorem lit_not {x:ByteArray} {l:Str} (h:¬ bs x=l):(x.toList==l)=false:=by rw[lit_beq,beq_eq_false_iff_ne];exact h
theorem cd_fin {g:Nat} {s:ByteArray} {w w1:World} {r:Cd × St} {k:Int} {n x:ByteArray} {A:Option Addr} {m cp B:Nat} (hcd:CdAt B w1 r.1 (.agg #[.int .i64 k,.string n,.string x,.slice A m cp])) (hB:w.heap.size < B) (hrd:Rd w1 g s r.2) (hx:ExtX g w w1) (hne:g≠w.heap.size) :
 CdAt w.heap.size ((((w1.setCell ⟨w.heap.size,0,none⟩ (.int .i64 k)).setCell ⟨w.heap.size,1,none⟩ (.string n)).setCell ⟨w.heap.size,2,none⟩ (.string x)).setCell ⟨w.heap.size,3,none⟩ (.slice A m cp)) r.1 (.agg #[.int .i64 k,.string n,.string x,.slice A m cp])
 ∧ Rd ((((w1.setCell ⟨w.heap.size,0,none⟩ (.int .i64 k)).setCell ⟨w.heap.size,1,none⟩ (.string n)).setCell ⟨w.heap.size,2,none⟩ (.string x)).setCell ⟨w.heap.size,3,none⟩ (.slice A m cp)) g s r.2
 ∧ ExtX g w ((((w1.setCell ⟨w.heap.size,0,none⟩ (.int .i64 k)).setCell ⟨w.heap.size,1,none⟩ (.string n)).setCell ⟨w.heap.size,2,none⟩ (.string x)).setCell ⟨w.heap.size,3,none⟩ (.slice A m cp)) :=
 ⟨((((hcd.set hB _).set hB _).set hB _).set hB _).low (Nat.le_of_lt hB),(((hrd.far hne _).far hne _).far hne _).far hne _,
   (((hx.set2 (p:=⟨w.heap.size,0,none⟩) (Nat.le_refl _) _).set2 (p:=⟨w.heap.size,1,none⟩) (Nat.le_refl _) _).set2 (p:=⟨w.heap.size,2,none⟩) (Nat.le_refl _) _).set2 (p:=⟨w.heap.size,3,none⟩) (Nat.le_refl _) _⟩
theorem cd_one {g:Nat} {s:ByteArray} {w w2:World} {r:Cd × St} {k k2:Int} {n x n2 x2:ByteArray} {A:Option Addr} {m cp cp2:Nat} (hcd:CdAt (w.heap.size+1) w2 r.1 (.agg #[.int .i64 k2,.string n2,.string x2,.slice A m cp2])) (hB:w.heap.size+1<=w2.heap.size) (hrd:Rd w2 g s r.2) (hx:ExtX g w w2) (hne:g≠w.heap.size) :
 CdAt w.heap.size (((((w2.setCell ⟨w.heap.size,0,none⟩ (.int .i64 k)).setCell ⟨w.heap.size,1,none⟩ (.string n)).setCell ⟨w.heap.size,2,none⟩ (.string x)).setCell ⟨w.heap.size,3,none⟩ (.slice (some ⟨w2.heap.size,0,none⟩) 1 cp)).alloc (.cells #[.int .i64 k2,.string n2,.string x2,.slice A m cp2] 52)) (.mk k n x [r.1]) (.agg #[.int .i64 k,.string n,.string x,.slice (some ⟨w2.heap.size,0,none⟩) 1 cp])
 ∧ Rd (((((w2.setCell ⟨w.heap.size,0,none⟩ (.int .i64 k)).setCell ⟨w.heap.size,1,none⟩ (.string n)).setCell ⟨w.heap.size,2,none⟩ (.string x)).setCell ⟨w.heap.size,3,none⟩ (.slice (some ⟨w2.heap.size,0,none⟩) 1 cp)).alloc (.cells #[.int .i64 k2,.string n2,.string x2,.slice A m cp2] 52)) g s r.2
 ∧ ExtX g w (((((w2.setCell ⟨w.heap.size,0,none⟩ (.int .i64 k)).setCell ⟨w.heap.size,1,none⟩ (.string n)).setCell ⟨w.heap.size,2,none⟩ (.string x)).setCell ⟨w.heap.size,3,none⟩ (.slice (some ⟨w2.heap.size,0,none⟩) 1 cp)).alloc (.cells #[.int .i64 k2,.string n2,.string x2,.slice A m cp2] 52)):=by
 have hl:w.heap.size < w.heap.size+1:=Nat.lt_succ_self _
 have h4:=(((hcd.set (p:=⟨w.heap.size,0,none⟩) hl (.int .i64 k)).set (p:=⟨w.heap.size,1,none⟩) hl (.string n)).set (p:=⟨w.heap.size,2,none⟩) hl (.string x)).set (p:=⟨w.heap.size,3,none⟩) hl (.slice (some ⟨w2.heap.size,0,none⟩) 1 cp)
 have hr4:=(((hrd.far (p:=⟨w.heap.size,0,none⟩) hne (.int .i64 k)).far (p:=⟨w.heap.size,1,none⟩) hne (.string n)).far (p:=⟨w.heap.size,2,none⟩) hne (.string x)).far (p:=⟨w.heap.size,3,none⟩) hne (.slice (some ⟨w2.heap.size,0,none⟩) 1 cp)
 have hx4:=(((hx.set2 (p:=⟨w.heap.size,0,none⟩) (Nat.le_refl _) (.int .i64 k)).set2 (p:=⟨w.heap.size,1,none⟩) (Nat.le_refl _) (.string n)).set2 (p:=⟨w.heap.size,2,none⟩) (Nat.le_refl _) (.string x)).set2 (p:=⟨w.heap.size,3,none⟩) (Nat.le_refl _) (.slice (some ⟨w2.heap.size,0,none⟩) 1 cp)
 have hz:((((w2.setCell ⟨w.heap.size,0,none⟩ (.int .i64 k)).setCell ⟨w.heap.size,1,none⟩ (.string n)).setCell ⟨w.heap.size,2,none⟩ (.string x)).setCell ⟨w.heap.size,3,none⟩ (.slice (some ⟨w2.heap.size,0,none⟩) 1 cp)).heap.size=w2.heap.size:=by simp[World.setCell]
 generalize ((((w2.setCell ⟨w.heap.size,0,none⟩ (.int .i64 k)).setCell ⟨w.heap.size,1,none⟩ (.string n)).setCell ⟨w.heap.size,2,none⟩ (.string x)).setCell ⟨w.heap.size,3,none⟩ (.slice (some ⟨w2.heap.size,0,none⟩) 1 cp))=W at *
 have bN:=Blk.new W 52 #[.int .i64 k2,.string n2,.string x2,.slice A m cp2]
 rw[hz] at bN
 exact⟨.one (by omega) (bN.cell 0) (bN.cell 1) (bN.cell 2) (bN.cell 3) ((h4.low (by omega)).ext ((Ext.refl W).alloc _)),hr4.alloc _,hx4.alloc _⟩
set_option maxRecDepth 100000 in
set_option maxHeartbeats 16000000 in
theorem cond_step (g:Nat) (s:ByteArray) (hs:s.size<=2097152) (lev:Nat) (fr:Option (St->Cd × St)) (hlev:lev<=100) (hl0:fr=none->lev=100) (hl1:∀ f,fr=some f->lev < 100)
 (hlist:∀ σ w,Rd w g s σ->OkS s σ->Calls Tryz.prog 169 #[.pointer (some ⟨g,0,none⟩),.int .i64 lev] w (CdPost g s w (listB s fr σ)))
 (hcond:∀ f,fr=some f->∀ σ w,Rd w g s σ->OkS s σ->Calls Tryz.prog 99 #[.pointer (some ⟨g,0,none⟩),.int .i64 ((lev+1:Nat):Int)] w (CdPost g s w (f σ)))
 (σ:St) (w:World) (h:Rd w g s σ) (ho:OkS s σ) :
 Calls Tryz.prog 99 #[.pointer (some ⟨g,0,none⟩),.int .i64 lev] w (CdPost g s w (condB s fr σ)):=by
 have hgw:=h.lt
 have hne:g≠w.heap.size:=by omega
 have hne2:¬ w.heap.size=g:=by omega
 have hr0:=h.alloc (.cells #[.int .i64 0,.string ⟨#[]⟩,.string ⟨#[]⟩,.slice none 0 0] 52)
 have b0:=Blk.new w 52 #[.int .i64 0,.string ⟨#[]⟩,.string ⟨#[]⟩,.slice none 0 0]
 have hx0:ExtX g w (w.alloc (.cells #[.int .i64 0,.string ⟨#[]⟩,.string ⟨#[]⟩,.slice none 0 0] 52)):=(ExtX.refl g w).alloc _
 unfold condB
 have his:=fun k t=>is_any g s σ k t _ hr0
 cases hi:isF σ 3 [40]
 rotate_left
 ·have hi3:=his 3 ⟨#[40]⟩
  rw[show bs (⟨#[40]⟩:ByteArray)=[40] from rfl,hi] at hi3
  have HI:=Hy hi3
  have HL:=Hy (hlist σ _ hr0 ho)
  rw[if_pos rfl]
  have c0:=hr0.cell;have f0:=hr0.free
  clear hi3 his hlist hcond hl0 hl1 hi h
  go_enter Tryz.func99,Tryz.ntmps99
  go_wp2_with fail
  refine HI.out.mono ?_
  rintro e w' ⟨rfl,rfl⟩
  go_wp2_with fail
  refine HL.out.mono ?_
  rintro e w1 ⟨v,rfl,hcd,hrd,hx⟩
  obtain⟨k,n,x,A,m,cp,rfl⟩:=hcd.cells
  have b1:=b0.extX hx (Ne.symm hne)
  have bc:=b1.cell;have bf:=b1.free;have bz:=b1.lt
  clear c0 f0 b0
  go_wp2
  exact bodyPost_ret (v:=.agg #[.int .i64 k,.string n,.string x,.slice A m cp]) (by simp[results,Tryz.results99,go_sem,bc]) rfl ⟨_,rfl,cd_fin hcd (by rw[World.size_alloc];omega) hrd (hx0.trans hx) hne⟩
 have hi3:=his 3 ⟨#[40]⟩
 rw[show bs (⟨#[40]⟩:ByteArray)=[40] from rfl,hi] at hi3
 have HI:=Hy hi3
 have ht:=take_V g s σ 1 ⟨#[]⟩ _ hr0 hs ho
 rw[show bs (⟨#[]⟩:ByteArray)=[] from rfl] at ht
 have ho1:=(takeF_ok ho 1 []).1
 generalize takeF s σ 1 []=X at *
 obtain⟨x,σ1⟩:=X
 dsimp only at ht ho1
 have HT:=Hy ht
 have hc0:=hr0.cell
 have hf0:=hr0.free
 rw[if_neg (by decide)]
 dsimp only
 clear hi3 his hlist hi ht
 unfold wordF
 by_cases q1:bs x=wAlways
 ·have e1:=lit_is q1
  rw[if_pos q1]
  clear q1 hcond hl0 hl1 h
  go_enter Tryz.func99,Tryz.ntmps99
  go_wp2_with fail
  refine HI.out.mono ?_
  rintro e w' ⟨rfl,rfl⟩
  go_wp2_with fail
  refine HT.out.mono ?_
  rintro e w1 ⟨rfl,hrd,hx⟩
  have b1:=b0.extX hx (Ne.symm hne)
  have bc:=b1.cell;have bf:=b1.free;have bz:=b1.lt
  clear hc0 hf0 b0
  go_wp2
  exact bodyPost_ret (v:=.agg #[.int .i64 1,.string ⟨#[]⟩,.string ⟨#[]⟩,.slice none 0 0]) (by simp[results,Tryz.results99,go_sem,bc]) rfl ⟨_,rfl,cd_fin (B:=w.heap.size+1) (CdAt.leaf _ _ _ _ _) (by omega) hrd (hx0.trans hx) hne⟩
 rw[if_neg q1]
 have n1:=lit_not q1
 by_cases qwFact:bs x=wFact
 ·have ewFact:=lit_is qwFact
  have ns:(x.toList==wSetting)=false:=lit_not (by rw[qwFact];decide)
  rw[if_pos qwFact]
  unfold pairF
  clear hcond hl0 hl1 h
  go_enter Tryz.func99,Tryz.ntmps99
  go_wp2_with fail
  refine HI.out.mono ?_
  rintro e w' ⟨rfl,rfl⟩
  go_wp2_with fail
  refine HT.out.mono ?_
  rintro e w1 ⟨rfl,hrd,hx⟩
  have b1:=b0.extX hx (Ne.symm hne)
  have hxa:=hx0.trans hx
  have hB1:w.heap.size+1<=w1.heap.size:=by have:=hx.size;rw[World.size_alloc] at this;exact this
  have bc:=b1.cell;have bf:=b1.free;have bz:=b1.lt
  clear hc0 hf0 b0 hx
  clear qwFact
  have ht:=take_V g s σ1 1 ⟨#[]⟩ _ hrd hs ho1
  rw[show bs (⟨#[]⟩:ByteArray)=[] from rfl] at ht
  have ho2:=(takeF_ok ho1 1 []).1
  generalize takeF s σ1 1 []=X at *
  obtain⟨y2,σ2⟩:=X
  dsimp only at ht ho2
  have HT:=Hy ht
  clear ht
  have rc:=hrd.cell;have rf:=hrd.free
  go_wp2_with fail
  refine HT.out.mono ?_
  clear hrd rc rf HT
  rintro e w2 ⟨rfl,hrd,hx⟩
  clear bc bf bz
  replace hxa:=hxa.trans hx
  replace b1:=b1.extX hx (Ne.symm hne)
  have bc:=b1.cell;have bf:=b1.free;have bz:=b1.lt
  have bl:=Blk.new w2 52 #[.int .i64 2,.string y2,.string ⟨#[]⟩,.slice none 0 0]
  have hrd1:=hrd
  have hgl:g < w2.heap.size:=hrd.lt
  have hnl:g≠w2.heap.size:=by omega
  have hB2:w.heap.size < w2.heap.size:=b1.lt
  have hnG:w.heap.size≠w2.heap.size:=by omega
  replace hrd:=hrd.alloc (.cells #[.int .i64 2,.string y2,.string ⟨#[]⟩,.slice none 0 0] 52)
  replace hxa:=hxa.alloc (.cells #[.int .i64 2,.string y2,.string ⟨#[]⟩,.slice none 0 0] 52)
  replace b1:=b1.alloc (.cells #[.int .i64 2,.string y2,.string ⟨#[]⟩,.slice none 0 0] 52)
  have lc:=bl.cell;have lf:=bl.free;have lz:=bl.lt
  have ht:=take_V g s σ2 3 ⟨#[61]⟩ _ hrd hs ho2
  rw[show bs (⟨#[61]⟩:ByteArray)=[61] from rfl] at ht
  have ho3:=(takeF_ok ho2 3 [61]).1
  generalize takeF s σ2 3 [61]=X at *
  obtain⟨y3,σ3⟩:=X
  dsimp only at ht ho3
  have HT:=Hy ht
  clear ht
  have rc:=hrd.cell;have rf:=hrd.free
  go_wp2_with fail
  refine HT.out.mono ?_
  clear hrd rc rf HT
  rintro e w3 ⟨rfl,hrd,hx⟩
  clear bc bf bz
  replace hxa:=hxa.trans hx
  replace b1:=b1.extX hx (Ne.symm hne)
  replace bl:=bl.extX hx (Ne.symm hnl)
  have bc:=b1.cell;have bf:=b1.free;have bz:=b1.lt
  clear lc lf lz
  have lc:=bl.cell;have lf:=bl.free;have lz:=bl.lt
  have ht:=take_V g s σ3 2 ⟨#[]⟩ _ hrd hs ho3
  rw[show bs (⟨#[]⟩:ByteArray)=[] from rfl] at ht
  have ho4:=(takeF_ok ho3 2 []).1
  generalize takeF s σ3 2 []=X at *
  obtain⟨y4,σ4⟩:=X
  dsimp only at ht ho4
  have HT:=Hy ht
  clear ht
  have rc:=hrd.cell;have rf:=hrd.free
  go_wp2_with fail
  refine HT.out.mono ?_
  clear hrd rc rf HT
  rintro e w4 ⟨rfl,hrd,hx⟩
  clear bc bf bz
  replace hxa:=hxa.trans hx
  replace b1:=b1.extX hx (Ne.symm hne)
  replace bl:=bl.extX hx (Ne.symm hnl)
  have bc:=b1.cell;have bf:=b1.free;have bz:=b1.lt
  clear lc lf lz
  have lc0:=bl.cell;have lf0:=bl.free;have lz0:=bl.lt
  have bc0:=b1.cell;have bf0:=b1.free;have bz0:=b1.lt
  clear bc bf bz
  replace hrd:=hrd.far (p:=⟨w2.heap.size,2,none⟩) hnl (.string y4)
  replace hxa:=hxa.set2 (p:=⟨w2.heap.size,2,none⟩) (by show w.heap.size<=w2.heap.size;omega) (.string y4)
  replace b1:=b1.far (p:=⟨w2.heap.size,2,none⟩) hnG (.string y4)
  replace bl:Blk _ _ _ #[.int .i64 2,.string y2,.string y4,.slice none 0 0]:=bl.set 2 (.string y4)
  have bc:=b1.cell;have bf:=b1.free;have bz:=b1.lt
  have lc:=bl.cell;have lf:=bl.free;have lz:=bl.lt
  go_wp2
  exact bodyPost_ret (v:=.agg #[.int .i64 2,.string y2,.string y4,.slice none 0 0]) (by simp[results,Tryz.results99,go_sem,bc]) rfl ⟨_,rfl,cd_fin (B:=w.heap.size+1) (CdAt.leaf _ _ _ _ _) (by omega) hrd hxa hne⟩
 rw[if_neg qwFact]
 have nwFact:=lit_not qwFact
 by_cases qwSetting:bs x=wSetting
 ·have ewSetting:=lit_is qwSetting
  skip
  rw[if_pos qwSetting]
  unfold pairF
  clear hcond hl0 hl1 h
  go_enter Tryz.func99,Tryz.ntmps99
  go_wp2_with fail
  refine HI.out.mono ?_
  rintro e w' ⟨rfl,rfl⟩
  go_wp2_with fail
  refine HT.out.mono ?_
  rintro e w1 ⟨rfl,hrd,hx⟩
  have b1:=b0.extX hx (Ne.symm hne)
  have hxa:=hx0.trans hx
  have hB1:w.heap.size+1<=w1.heap.size:=by have:=hx.size;rw[World.size_alloc] at this;exact this
  have bc:=b1.cell;have bf:=b1.free;have bz:=b1.lt
  clear hc0 hf0 b0 hx
  clear qwSetting
  have ht:=take_V g s σ1 1 ⟨#[]⟩ _ hrd hs ho1
  rw[show bs (⟨#[]⟩:ByteArray)=[] from rfl] at ht
  have ho2:=(takeF_ok ho1 1 []).1
  generalize takeF s σ1 1 []=X at *
  obtain⟨y2,σ2⟩:=X
  dsimp only at ht ho2
  have HT:=Hy ht
  clear ht
  have rc:=hrd.cell;have rf:=hrd.free
  go_wp2_with fail
  refine HT.out.mono ?_
  clear hrd rc rf HT
  rintro e w2 ⟨rfl,hrd,hx⟩
  clear bc bf bz
  replace hxa:=hxa.trans hx
  replace b1:=b1.extX hx (Ne.symm hne)
  have bc:=b1.cell;have bf:=b1.free;have bz:=b1.lt
  have bl:=Blk.new w2 52 #[.int .i64 3,.string y2,.string ⟨#[]⟩,.slice none 0 0]
  have hrd1:=hrd
  have hgl:g < w2.heap.size:=hrd.lt
  have hnl:g≠w2.heap.size:=by omega
  have hB2:w.heap.size < w2.heap.size:=b1.lt
  have hnG:w.heap.size≠w2.heap.size:=by omega
  replace hrd:=hrd.alloc (.cells #[.int .i64 3,.string y2,.string ⟨#[]⟩,.slice none 0 0] 52)
  replace hxa:=hxa.alloc (.cells #[.int .i64 3,.string y2,.string ⟨#[]⟩,.slice none 0 0] 52)
  replace b1:=b1.alloc (.cells #[.int .i64 3,.string y2,.string ⟨#[]⟩,.slice none 0 0] 52)
  have lc:=bl.cell;have lf:=bl.free;have lz:=bl.lt
  have ht:=take_V g s σ2 3 ⟨#[61]⟩ _ hrd hs ho2
  rw[show bs (⟨#[61]⟩:ByteArray)=[61] from rfl] at ht
  have ho3:=(takeF_ok ho2 3 [61]).1
  generalize takeF s σ2 3 [61]=X at *
  obtain⟨y3,σ3⟩:=X
  dsimp only at ht ho3
  have HT:=Hy ht
  clear ht
  have rc:=hrd.cell;have rf:=hrd.free
  go_wp2_with fail
  refine HT.out.mono ?_
  clear hrd rc rf HT
  rintro e w3 ⟨rfl,hrd,hx⟩
  clear bc bf bz
  replace hxa:=hxa.trans hx
  replace b1:=b1.extX hx (Ne.symm hne)
  replace bl:=bl.extX hx (Ne.symm hnl)
  have bc:=b1.cell;have bf:=b1.free;have bz:=b1.lt
  clear lc lf lz
  have lc:=bl.cell;have lf:=bl.free;have lz:=bl.lt
  have ht:=take_V g s σ3 2 ⟨#[]⟩ _ hrd hs ho3
  rw[show bs (⟨#[]⟩:ByteArray)=[] from rfl] at ht
  have ho4:=(takeF_ok ho3 2 []).1
  generalize takeF s σ3 2 []=X at *
  obtain⟨y4,σ4⟩:=X
  dsimp only at ht ho4
  have HT:=Hy ht
  clear ht
  have rc:=hrd.cell;have rf:=hrd.free
  go_wp2_with fail
  refine HT.out.mono ?_
  clear hrd rc rf HT
  rintro e w4 ⟨rfl,hrd,hx⟩
  clear bc bf bz
  replace hxa:=hxa.trans hx
  replace b1:=b1.extX hx (Ne.symm hne)
  replace bl:=bl.extX hx (Ne.symm hnl)
  have bc:=b1.cell;have bf:=b1.free;have bz:=b1.lt
  clear lc lf lz
  have lc0:=bl.cell;have lf0:=bl.free;have lz0:=bl.lt
  have bc0:=b1.cell;have bf0:=b1.free;have bz0:=b1.lt
  clear bc bf bz
  replace hrd:=hrd.far (p:=⟨w2.heap.size,2,none⟩) hnl (.string y4)
  replace hxa:=hxa.set2 (p:=⟨w2.heap.size,2,none⟩) (by show w.heap.size<=w2.heap.size;omega) (.string y4)
  replace b1:=b1.far (p:=⟨w2.heap.size,2,none⟩) hnG (.string y4)
  replace bl:Blk _ _ _ #[.int .i64 3,.string y2,.string y4,.slice none 0 0]:=bl.set 2 (.string y4)
  have bc:=b1.cell;have bf:=b1.free;have bz:=b1.lt
  have lc:=bl.cell;have lf:=bl.free;have lz:=bl.lt
  go_wp2
  exact bodyPost_ret (v:=.agg #[.int .i64 3,.string y2,.string y4,.slice none 0 0]) (by simp[results,Tryz.results99,go_sem,bc]) rfl ⟨_,rfl,cd_fin (B:=w.heap.size+1) (CdAt.leaf _ _ _ _ _) (by omega) hrd hxa hne⟩
 rw[if_neg qwSetting]
 have nwSetting:=lit_not qwSetting
 by_cases qh:bs x=wHas
 ·have eh:=lit_is qh
  rw[if_pos qh]
  clear hcond hl0 hl1 h qh
  go_enter Tryz.func99,Tryz.ntmps99
  go_wp2_with fail
  refine HI.out.mono ?_
  rintro e w' ⟨rfl,rfl⟩
  go_wp2_with fail
  refine HT.out.mono ?_
  rintro e w1 ⟨rfl,hrd,hx⟩
  have b1:=b0.extX hx (Ne.symm hne)
  have hxa:=hx0.trans hx
  have hB1:w.heap.size+1<=w1.heap.size:=by have:=hx.size;rw[World.size_alloc] at this;exact this
  have bc:=b1.cell;have bf:=b1.free;have bz:=b1.lt
  clear hc0 hf0 b0 hx
  have ht:=take_V g s σ1 1 ⟨#[]⟩ _ hrd hs ho1
  rw[show bs (⟨#[]⟩:ByteArray)=[] from rfl] at ht
  have ho2:=(takeF_ok ho1 1 []).1
  generalize takeF s σ1 1 []=X at *
  obtain⟨y2,σ2⟩:=X
  dsimp only at ht ho2
  have HT:=Hy ht
  clear ht
  have rc:=hrd.cell;have rf:=hrd.free
  go_wp2_with fail
  refine HT.out.mono ?_
  clear hrd rc rf HT
  rintro e w2 ⟨rfl,hrd,hx⟩
  clear bc bf bz
  replace hxa:=hxa.trans hx
  replace b1:=b1.extX hx (Ne.symm hne)
  have bc:=b1.cell;have bf:=b1.free;have bz:=b1.lt
  go_wp2
  exact bodyPost_ret (v:=.agg #[.int .i64 4,.string y2,.string ⟨#[]⟩,.slice none 0 0]) (by simp[results,Tryz.results99,go_sem,bc]) rfl ⟨_,rfl,cd_fin (B:=w.heap.size+1) (CdAt.leaf _ _ _ _ _) (by omega) hrd hxa hne⟩
 rw[if_neg qh]
 have nh:=lit_not qh
 by_cases qwVersion:bs x=wVersion
 ·have ewVersion:=lit_is qwVersion
  skip
  rw[if_pos qwVersion]
  unfold pairF
  clear hcond hl0 hl1 h
  go_enter Tryz.func99,Tryz.ntmps99
  go_wp2_with fail
  refine HI.out.mono ?_
  rintro e w' ⟨rfl,rfl⟩
  go_wp2_with fail
  refine HT.out.mono ?_
  rintro e w1 ⟨rfl,hrd,hx⟩
  have b1:=b0.extX hx (Ne.symm hne)
  have hxa:=hx0.trans hx
  have hB1:w.heap.size+1<=w1.heap.size:=by have:=hx.size;rw[World.size_alloc] at this;exact this
  have bc:=b1.cell;have bf:=b1.free;have bz:=b1.lt
  clear hc0 hf0 b0 hx
  clear qwVersion
  have ht:=take_V g s σ1 1 ⟨#[]⟩ _ hrd hs ho1
  rw[show bs (⟨#[]⟩:ByteArray)=[] from rfl] at ht
  have ho2:=(takeF_ok ho1 1 []).1
  generalize takeF s σ1 1 []=X at *
  obtain⟨y2,σ2⟩:=X
  dsimp only at ht ho2
  have HT:=Hy ht
  clear ht
  have rc:=hrd.cell;have rf:=hrd.free
  go_wp2_with fail
  refine HT.out.mono ?_
  clear hrd rc rf HT
  rintro e w2 ⟨rfl,hrd,hx⟩
  clear bc bf bz
  replace hxa:=hxa.trans hx
  replace b1:=b1.extX hx (Ne.symm hne)
  have bc:=b1.cell;have bf:=b1.free;have bz:=b1.lt
  have bl:=Blk.new w2 52 #[.int .i64 5,.string y2,.string ⟨#[]⟩,.slice none 0 0]
  have hrd1:=hrd
  have hgl:g < w2.heap.size:=hrd.lt
  have hnl:g≠w2.heap.size:=by omega
  have hB2:w.heap.size < w2.heap.size:=b1.lt
  have hnG:w.heap.size≠w2.heap.size:=by omega
  replace hrd:=hrd.alloc (.cells #[.int .i64 5,.string y2,.string ⟨#[]⟩,.slice none 0 0] 52)
  replace hxa:=hxa.alloc (.cells #[.int .i64 5,.string y2,.string ⟨#[]⟩,.slice none 0 0] 52)
  replace b1:=b1.alloc (.cells #[.int .i64 5,.string y2,.string ⟨#[]⟩,.slice none 0 0] 52)
  have lc:=bl.cell;have lf:=bl.free;have lz:=bl.lt
  have ht:=take_V g s σ2 1 ⟨#[105,110]⟩ _ hrd hs ho2
  rw[show bs (⟨#[105,110]⟩:ByteArray)=[105,110] from rfl] at ht
  have ho3:=(takeF_ok ho2 1 [105,110]).1
  generalize takeF s σ2 1 [105,110]=X at *
  obtain⟨y3,σ3⟩:=X
  dsimp only at ht ho3
  have HT:=Hy ht
  clear ht
  have rc:=hrd.cell;have rf:=hrd.free
  go_wp2_with fail
  refine HT.out.mono ?_
  clear hrd rc rf HT
  rintro e w3 ⟨rfl,hrd,hx⟩
  clear bc bf bz
  replace hxa:=hxa.trans hx
  replace b1:=b1.extX hx (Ne.symm hne)
  replace bl:=bl.extX hx (Ne.symm hnl)
  have bc:=b1.cell;have bf:=b1.free;have bz:=b1.lt
  clear lc lf lz
  have lc:=bl.cell;have lf:=bl.free;have lz:=bl.lt
  have ht:=take_V g s σ3 2 ⟨#[]⟩ _ hrd hs ho3
  rw[show bs (⟨#[]⟩:ByteArray)=[] from rfl] at ht
  have ho4:=(takeF_ok ho3 2 []).1
  generalize takeF s σ3 2 []=X at *
  obtain⟨y4,σ4⟩:=X
  dsimp only at ht ho4
  have HT:=Hy ht
  clear ht
  have rc:=hrd.cell;have rf:=hrd.free
  go_wp2_with fail
  refine HT.out.mono ?_
  clear hrd rc rf HT
  rintro e w4 ⟨rfl,hrd,hx⟩
  clear bc bf bz
  replace hxa:=hxa.trans hx
  replace b1:=b1.extX hx (Ne.symm hne)
  replace bl:=bl.extX hx (Ne.symm hnl)
  have bc:=b1.cell;have bf:=b1.free;have bz:=b1.lt
  clear lc lf lz
  have lc0:=bl.cell;have lf0:=bl.free;have lz0:=bl.lt
  have bc0:=b1.cell;have bf0:=b1.free;have bz0:=b1.lt
  clear bc bf bz
  replace hrd:=hrd.far (p:=⟨w2.heap.size,2,none⟩) hnl (.string y4)
  replace hxa:=hxa.set2 (p:=⟨w2.heap.size,2,none⟩) (by show w.heap.size<=w2.heap.size;omega) (.string y4)
  replace b1:=b1.far (p:=⟨w2.heap.size,2,none⟩) hnG (.string y4)
  replace bl:Blk _ _ _ #[.int .i64 5,.string y2,.string y4,.slice none 0 0]:=bl.set 2 (.string y4)
  have bc:=b1.cell;have bf:=b1.free;have bz:=b1.lt
  have lc:=bl.cell;have lf:=bl.free;have lz:=bl.lt
  go_wp2
  exact bodyPost_ret (v:=.agg #[.int .i64 5,.string y2,.string y4,.slice none 0 0]) (by simp[results,Tryz.results99,go_sem,bc]) rfl ⟨_,rfl,cd_fin (B:=w.heap.size+1) (CdAt.leaf _ _ _ _ _) (by omega) hrd hxa hne⟩
 rw[if_neg qwVersion]
 have nwVersion:=lit_not qwVersion
 by_cases qn:bs x=wNot
 ·have en:=lit_is qn
  rw[if_pos qn]
  cases fr with
  | none =>
    have hl100:=hl0 rfl
    have hli:(lev:Int) ≥ 100:=by omega
    dsimp only
    clear hcond hl0 hl1 h qn
    go_enter Tryz.func99,Tryz.ntmps99
    go_wp2_with fail
    refine HI.out.mono ?_
    rintro e w' ⟨rfl,rfl⟩
    go_wp2_with fail
    refine HT.out.mono ?_
    rintro e w1 ⟨rfl,hrd,hx⟩
    have b1:=b0.extX hx (Ne.symm hne)
    have hxa:=hx0.trans hx
    have hB1:w.heap.size+1<=w1.heap.size:=by have:=hx.size;rw[World.size_alloc] at this;exact this
    have bc:=b1.cell;have bf:=b1.free;have bz:=b1.lt
    clear hc0 hf0 b0 hx
    have HF:=Hy (fail_any g s σ1 σ.a _ hrd)
    have rc:=hrd.cell;have rf:=hrd.free
    go_wp2_with fail
    refine HF.out.mono ?_
    clear hrd rc rf HF
    rintro e w2 ⟨rfl,hrd,hx⟩
    clear bc bf bz
    replace hxa:=hxa.trans hx
    replace b1:=b1.extX hx (Ne.symm hne)
    have bc:=b1.cell;have bf:=b1.free;have bz:=b1.lt
    go_wp2
    exact bodyPost_ret (v:=.agg #[.int .i64 0,.string ⟨#[]⟩,.string ⟨#[]⟩,.slice none 0 0]) (by simp[results,Tryz.results99,go_sem,bc]) rfl ⟨_,rfl,cd_fin (B:=w.heap.size+1) (CdAt.leaf _ _ _ _ _) (by omega) hrd hxa hne⟩
  | some f =>
    have hl99:=hl1 f rfl
    have hli:¬ (lev:Int) ≥ 100:=by omega
    have hlw:IntKind.i64.wrap ((lev:Int)+1)=(lev:Int)+1:=by rw[IntKind.wrap_i64];omega
    have hc:=hcond f rfl
    have HC:=Hy hc
    dsimp only
    clear hcond hc hl0 hl1 h qn
    go_enter Tryz.func99,Tryz.ntmps99
    go_wp2_with fail
    refine HI.out.mono ?_
    rintro e w' ⟨rfl,rfl⟩
    go_wp2_with fail
    refine HT.out.mono ?_
    rintro e w1 ⟨rfl,hrd,hx⟩
    have b1:=b0.extX hx (Ne.symm hne)
    have hxa:=hx0.trans hx
    have hB1:w.heap.size+1<=w1.heap.size:=by have:=hx.size;rw[World.size_alloc] at this;exact this
    have bc:=b1.cell;have bf:=b1.free;have bz:=b1.lt
    clear hc0 hf0 b0 hx
    have hcc:=HC.out σ1 _ hrd ho1
    rw[show ((lev+1:Nat):Int)=(lev:Int)+1 by omega] at hcc
    have HCC:=Hy hcc
    clear hcc HC
    go_wp2_with fail
    refine HCC.out.mono ?_
    clear hrd HCC
    rintro e w2 ⟨v,rfl,hcd,hrd,hx⟩
    clear bc bf bz
    replace hxa:=hxa.trans hx
    replace b1:=b1.extX hx (Ne.symm hne)
    obtain⟨k,n,y,A,m,cp,rfl⟩:=hcd.cells
    have bc:=b1.cell;have bf:=b1.free;have bz:=b1.lt
    have hB2:w.heap.size+1<=w2.heap.size:=Nat.le_trans hB1 hx.size
    replace hcd:=hcd.low hB1
    have hgw2:=hrd.lt
    have hone:=cd_one (w:=w) (r:=f σ1) (k:=6) (n:=⟨#[]⟩) (x:=⟨#[]⟩) (cp:=1) hcd hB2 hrd hxa hne
    have HONE:=Hy hone
    clear hone
    go_wp2
    exact bodyPost_ret (v:=.agg #[.int .i64 6,.string ⟨#[]⟩,.string ⟨#[]⟩,.slice (some ⟨w2.heap.size,0,none⟩) 1 1]) (by simp[results,Tryz.results99,go_sem,bc,bz]) rfl ⟨_,rfl,HONE.out⟩
 rw[if_neg qn]
 have nn:=lit_not qn
 clear hcond hl0 hl1 h qn
 go_enter Tryz.func99,Tryz.ntmps99
 go_wp2_with fail
 refine HI.out.mono ?_
 rintro e w' ⟨rfl,rfl⟩
 go_wp2_with fail
 refine HT.out.mono ?_
 rintro e w1 ⟨rfl,hrd,hx⟩
 have b1:=b0.extX hx (Ne.symm hne)
 have hxa:=hx0.trans hx
 have hB1:w.heap.size+1<=w1.heap.size:=by have:=hx.size;rw[World.size_alloc] at this;exact this
 have bc:=b1.cell;have bf:=b1.free;have bz:=b1.lt
 clear hc0 hf0 b0 hx
 have HF:=Hy (fail_any g s σ1 σ.a _ hrd)
 have rc:=hrd.cell;have rf:=hrd.free
 go_wp2_with fail
 refine HF.out.mono ?_
 clear hrd rc rf HF
 rintro e w2 ⟨rfl,hrd,hx⟩
 clear bc bf bz
 replace hxa:=hxa.trans hx
 replace b1:=b1.extX hx (Ne.symm hne)
 have bc:=b1.cell;have bf:=b1.free;have bz:=b1.lt
 go_wp2
 exact bodyPost_ret (v:=.agg #[.int .i64 0,.string ⟨#[]⟩,.string ⟨#[]⟩,.slice none 0 0]) (by simp[results,Tryz.results99,go_sem,bc]) rfl ⟨_,rfl,cd_fin (B:=w.heap.size+1) (CdAt.leaf _ _ _ _ _) (by omega) hrd hxa hne⟩
end Go.Proofs.YtmnafaaijglnfaaGreatDoor
