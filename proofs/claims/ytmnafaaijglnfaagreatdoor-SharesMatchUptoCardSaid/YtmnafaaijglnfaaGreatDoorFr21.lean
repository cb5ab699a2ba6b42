/- Contract of the reference's reading of conditions in brackets, given what it calls. (Printed by gen/cnds.py.) -/
import Derived.Test.YtmnafaaijglnfaaGreatDoorFr16
import Derived.Test.YtmnafaaijglnfaaGreatDoorFr18
import Derived.Test.YtmnafaaijglnfaaGreatDoorFr15
namespace Go.Proofs.YtmnafaaijglnfaaGreatDoor
open Go.RowKit
def leftOfR (g:Nat) (w:World):Nat:=match w.cell? ⟨g,0,none⟩,w.cell? ⟨g,1,none⟩ with|some (.slice _ m _),some (.int _ e)=>if e < 0 then m+1 else 0|_,_=>0
theorem leftOfR_rd {g b:Nat} {w:World} {W:List Wd} {τ:Rs} (h:RdR w g b W τ):leftOfR g w=leftR τ:=by
 obtain⟨j,cp,hj,hl,hc,hb⟩:=h.rd
 unfold leftOfR leftR
 rw[hb.cell 0,hb.cell 1,hl]
 simp
theorem suf_len {W:List Wd} {τ:Rs} (h:SufR W τ):leftR τ<=W.length+1:=by
 obtain⟨j,hj,hl⟩:=h
 unfold leftR
 rw[hl,List.length_drop]
 split<;>omega
theorem RdR.grownR {g b r:Nat} {w w':World} {W:List Wd} {τ:Rs} (h:RdR w g b W τ) (hg:w.grownBy w' (some r)) (h1:g≠r) (h2:b≠r):RdR w' g b W τ:=by
 obtain⟨j,cp,hj,hl,hc,hb⟩:=h.rd
 have far:∀ o v,w.cell? ⟨b,o,none⟩=some v->w'.cell? ⟨b,o,none⟩=some v:=fun o v e=>by
  rw[hg.cell_far ⟨b,o,none⟩ (lt_of_cell e) (by simpa using h2)]
  exact e
 exact⟨h.ne,⟨Nat.lt_of_lt_of_le h.wds.lt hg.size,fun j hj=>far _ _ (h.wds.c0 j hj),fun j hj=>far _ _ (h.wds.c1 j hj),fun j hj=>far _ _ (h.wds.c2 j hj),fun j hj=>far _ _ (h.wds.c3 j hj)⟩,j,cp,hj,hl,hc,hb.grownR hg (by simpa using h1)⟩
set_option maxRecDepth 100000 in
set_option maxHeartbeats 16000000 in
theorem group_step (g b:Nat) (W:List Wd) (hW:LastE W) (hWl:W.length<=3000000) (lev:Nat) (n:Nat)
 (hcond:∀ τ w,RdR w g b W τ->Calls Tryz.prog 103 #[.pointer (some ⟨g,0,none⟩),.int .i64 (lev:Int)] w (CrPost g b W w (condRF n τ)))
 (τ:Rs) (w:World) (h:RdR w g b W τ) :
 Calls Tryz.prog 178 #[.pointer (some ⟨g,0,none⟩),.int .i64 lev] w (CrPost g b W w (groupR (condRF n) τ)):=by
 have hgw:=h.lt
 have hbw:=h.wds.lt
 have hne:g≠w.heap.size:=by omega
 have hbe:b≠w.heap.size:=by omega
 have hbg:b≠g:=h.ne
 have hr0:=h.alloc (.cells #[.int .i64 0,.string ⟨#[]⟩,.string ⟨#[]⟩,.slice none 0 0] 52)
 have b0:=Blk.new w 52 #[.int .i64 0,.string ⟨#[]⟩,.string ⟨#[]⟩,.slice none 0 0]
 have hx0:ExtX g w (w.alloc (.cells #[.int .i64 0,.string ⟨#[]⟩,.string ⟨#[]⟩,.slice none 0 0] 52)):=(ExtX.refl g w).alloc _
 have ht:=nextR_any g b W hW τ 40 ⟨#[]⟩ _ hr0
 rw[show bs (⟨#[]⟩:ByteArray)=[] from rfl] at ht
 unfold groupR
 generalize nextR τ 40 []=X at *
 obtain⟨d1,τ1⟩:=X
 dsimp only at ht ⊢
 obtain⟨R,hR⟩:∃ R,R=(if isR τ1 119 wAnd=true then headR (condRF n) 7 (nextR τ1 119 wAnd).2 else if isR τ1 119 wOr=true then headR (condRF n) 8 (nextR τ1 119 wOr).2 else tailR (condRF n) (condRF n τ1).1 (condRF n τ1).2):=⟨_,rfl⟩
 rw[<-hR]
 have HR:=Hy hR
 have HT:=Hy ht
 have HC:=Hy hcond
 have HWL:=Hy hWl
 clear hR ht hcond h hr0 hWl
 have hmm:=@run_makeMap Tryz.prog
 go_enter Tryz.func178,Tryz.ntmps178
 go_wp2_with fail
 refine HT.out.mono ?_
 rintro e w1 ⟨rfl,hrd,hx⟩
 have hi1:=kinds_ins1 w1
 have hi2:=kinds_ins2 w1
 have b1:=b0.extX hx (Ne.symm hne)
 have hxa:=hx0.trans hx
 have hB1:w.heap.size+1<=w1.heap.size:=by have:=hx.size;rw[World.size_alloc] at this;exact this
 clear b0 hx HT hx0
 go_wp2
 clear hmm hi1 hi2
 obtain⟨W0,hW0⟩:∃ W0,(w1.alloc (.map #[eAnd,eOr] 2)).alloc (.cells #[.string ⟨#[97,110,100]⟩,.string ⟨#[111,114]⟩] 9)=W0:=⟨_,rfl⟩
 have hW1:Ext w1 W0:=by rw[<-hW0];exact ((Ext.refl _).alloc _).alloc _
 have km:KindMap W0 w1.heap.size:=by
  rw[<-hW0]
  refine KindMap.alloc ?_ _
  show (w1.heap.push _)[w1.heap.size]?=_
  simp
 have bw:Blk W0 (w1.heap.size+1) 9 #[.string ⟨#[97,110,100]⟩,.string ⟨#[111,114]⟩]:=by
  rw[<-hW0]
  have:=Blk.new (w1.alloc (.map #[eAnd,eOr] 2)) 9 #[.string ⟨#[97,110,100]⟩,.string ⟨#[111,114]⟩]
  rwa [World.size_alloc] at this
 have hz0:W0.heap.size=w1.heap.size+2:=by rw[<-hW0,World.size_alloc,World.size_alloc]
 rw[hW0]
 have hgM0:=hrd.lt
 have hr1:=hrd.ext hW1
 replace hxa:=hxa.trans (ExtX.ofExt hW1)
 replace b1:=b1.ext hW1
 have HIS:=Hy (fun k t=>isR_any g b W τ1 k t _ hr1)
 have HNX:=Hy (fun t=>nextR_any g b W hW τ1 119 t _ hr1)
 have hBW:w.heap.size+1<=W0.heap.size:=by omega
 clear hW0 hrd hW1
 generalize w1.heap.size=M at *
 have hgM:g≠M:=by omega
 have hMW:M+1 < W0.heap.size:=by omega
 clear hz0
 have wc:=bw.cell
 have bwz:=bw.lt
 go_loop [19] (fun t=>t=.int .i64 0∨(t=.int .i64 1∧isR τ1 119 wAnd=false)∨(t=.int .i64 2∧isR τ1 119 wAnd=false∧isR τ1 119 wOr=false)) (fun t=>2 - (intOf t).toNat)
 case atStart=>exact .inl rfl
 case round =>
  rcases hrel with rfl|⟨rfl,hka⟩|⟨rfl,hka,hko⟩
  ·skip
   have hi:=HIS.out 119 ⟨#[97,110,100]⟩
   rw[show bs (⟨#[97,110,100]⟩:ByteArray)=wAnd from rfl] at hi
   cases hw:isR τ1 119 wAnd
   ·rw[hw] at hi
    have HI:=Hy hi
    have HW:=Hy hw
    clear hi hw
    go_wp2_with fail
    refine HI.out.mono ?_
    rintro e w' ⟨rfl,rfl⟩
    go_wp2
    go_round
    case rel=>refine .inr (.inl ⟨by go_num,?_⟩);first|exact HW.out|trivial
    case measure=>simp[intOf]
   rw[hw] at hi
   have HI:=Hy hi
   have hR:=HR.out
   rw[if_pos hw] at hR
   have hnx:=HNX.out ⟨#[97,110,100]⟩
   rw[show bs (⟨#[97,110,100]⟩:ByteArray)=wAnd from rfl] at hnx
   generalize nextR τ1 119 wAnd=X at *
   obtain⟨d2,τ2⟩:=X
   dsimp only at hnx hR
   unfold headR at hR
   have HT:=Hy hnx
   have HRa:=Hy hR
   clear hnx hR hi hw HR
   go_wp2_with fail
   refine HI.out.mono ?_
   rintro e w' ⟨rfl,rfl⟩
   go_wp2_with fail
   refine HT.out.mono ?_
   clear HT HI
   rintro e v2 ⟨rfl,hrd,hx⟩
   have hR:=HRa.out
   clear HRa
   replace hxa:=hxa.trans hx
   replace b1:=b1.extX hx (Ne.symm hne)
   have km2:=km.extX hx (Ne.symm hgM)
   have hlk:=kinds_and km2
   have bc:=b1.cell;have bf:=b1.free;have bz:=b1.lt
   clear bw wc bwz hr1 km km2
   have bl:=Blk.new v2 52 #[.int .i64 7,.string ⟨#[]⟩,.string ⟨#[]⟩,.slice none 0 0]
   have hgl:g < v2.heap.size:=hrd.lt
   have hbl:b < v2.heap.size:=hrd.wds.lt
   have hnl:g≠v2.heap.size:=by omega
   have hnb2:b≠v2.heap.size:=by omega
   have hB2:w.heap.size < v2.heap.size:=b1.lt
   have hnG:w.heap.size≠v2.heap.size:=by omega
   have hB3:w.heap.size<=v2.heap.size:=by omega
   replace hrd:=hrd.alloc (.cells #[.int .i64 7,.string ⟨#[]⟩,.string ⟨#[]⟩,.slice none 0 0] 52)
   replace hxa:=hxa.alloc (.cells #[.int .i64 7,.string ⟨#[]⟩,.string ⟨#[]⟩,.slice none 0 0] 52)
   replace b1:=b1.alloc (.cells #[.int .i64 7,.string ⟨#[]⟩,.string ⟨#[]⟩,.slice none 0 0] 52)
   have lc:=bl.cell;have lf:=bl.free;have lz:=bl.lt
   have hp:=isR_any g b W τ2 41 ⟨#[]⟩ _ hrd
   rw[show bs (⟨#[]⟩:ByteArray)=[] from rfl] at hp
   cases hpv:isR τ2 41 []
   rotate_left
   ·rw[hpv,if_pos rfl] at hR
    rw[hpv] at hp
    have HP:=Hy hp
    have HRc:=Hy hR
    clear hp hpv hR
    go_wp2_with fail
    refine HP.out.mono ?_
    rintro e w' ⟨rfl,rfl⟩
    clear hlk HP
    have hR:=HRc.out
    clear HRc
    have ht:=nextR_any g b W hW τ2 41 ⟨#[]⟩ _ hrd
    rw[show bs (⟨#[]⟩:ByteArray)=[] from rfl] at ht
    generalize nextR τ2 41 []=X at *
    obtain⟨d3,τ3⟩:=X
    dsimp only at ht hR
    have HT:=Hy ht
    have HRb:=Hy hR
    clear ht hR
    go_wp2_with fail
    refine HT.out.mono ?_
    clear hrd HT
    rintro e v3 ⟨rfl,hrd,hx⟩
    have hR:=HRb.out
    clear bc bf bz HRb
    replace hxa:=hxa.trans hx
    replace b1:=b1.extX hx (Ne.symm hne)
    replace bl:=bl.extX hx (Ne.symm hnl)
    have bc:=b1.cell;have bf:=b1.free;have bz:=b1.lt
    clear lc lf lz
    have lc:=bl.cell;have lf:=bl.free;have lz:=bl.lt
    have HRz:=Hy hR
    clear hR
    go_wp2
    obtain rfl:=HRz.out
    exact bodyPost_ret (v:=.agg #[.int .i64 7,.string ⟨#[]⟩,.string ⟨#[]⟩,.slice none 0 0]) (by simp[results,Tryz.results178,go_sem,bc]) rfl ⟨_,rfl,cdr_fin (B:=w.heap.size+1) (CdAt.leaf _ _ _ _ _) (by omega) hrd hxa hne hbe⟩
   rw[hpv,if_neg (by decide)] at hR
   rw[hpv] at hp
   have HP:=Hy hp
   have hc2:=HC.out τ2 _ hrd
   generalize condRF n τ2=Y at *
   obtain⟨d,τ3⟩:=Y
   dsimp only at hR
   have HC2:=Hy hc2
   have HRc:=Hy hR
   clear hc2 hp hpv hR
   go_wp2_with fail
   refine HP.out.mono ?_
   rintro e w' ⟨rfl,rfl⟩
   clear hlk HP
   go_wp2_with fail
   refine HC2.out.mono ?_
   clear hrd HC2 HC
   rintro e w3 ⟨v,rfl,hcd,hrd,hx⟩
   have hR:=HRc.out
   clear bc bf bz lc lf lz HRc
   dsimp only at hcd hrd
   replace hxa:=hxa.trans hx
   replace b1:=b1.extX hx (Ne.symm hne)
   replace bl:=bl.extX hx (Ne.symm hnl)
   obtain⟨vk,vn,vx,A,m,cp,rfl⟩:=hcd.cells
   have hgw3:=hrd.lt
   have hbw3:=hrd.wds.lt
   have lw3:v2.heap.size < w3.heap.size:=bl.lt
   have bc:=b1.cell;have bf:=b1.free;have bz:=b1.lt
   have lc:=bl.cell;have lf:=bl.free;have lz:=bl.lt
   have hz5:(w3.setCell ⟨v2.heap.size,3,none⟩ (.slice (some ⟨w3.heap.size,0,none⟩) 1 1)).heap.size=w3.heap.size:=by simp[World.setCell]
   have bN:=Blk.new (w3.setCell ⟨v2.heap.size,3,none⟩ (.slice (some ⟨w3.heap.size,0,none⟩) 1 1)) 52 #[.int .i64 vk,.string vn,.string vx,.slice A m cp]
   rw[hz5] at bN
   rw[World.size_alloc] at hcd
   have hcd5:=(hcd.set (p:=⟨v2.heap.size,3,none⟩) (Nat.lt_succ_self _) (.slice (some ⟨w3.heap.size,0,none⟩) 1 1)).ext ((Ext.refl _).alloc (.cells #[.int .i64 vk,.string vn,.string vx,.slice A m cp] 52))
   replace hrd:=(hrd.far (p:=⟨v2.heap.size,3,none⟩) hnl hnb2 (.slice (some ⟨w3.heap.size,0,none⟩) 1 1)).alloc (.cells #[.int .i64 vk,.string vn,.string vx,.slice A m cp] 52)
   replace hxa:=(hxa.set2 (p:=⟨v2.heap.size,3,none⟩) hB3 (.slice (some ⟨w3.heap.size,0,none⟩) 1 1)).alloc (.cells #[.int .i64 vk,.string vn,.string vx,.slice A m cp] 52)
   replace b1:=(b1.far (p:=⟨v2.heap.size,3,none⟩) hnG (.slice (some ⟨w3.heap.size,0,none⟩) 1 1)).alloc (.cells #[.int .i64 vk,.string vn,.string vx,.slice A m cp] 52)
   replace bl:Blk _ _ _ #[.int .i64 7,.string ⟨#[]⟩,.string ⟨#[]⟩,(.slice (some ⟨w3.heap.size,0,none⟩) 1 1)]:=(bl.set 3 (.slice (some ⟨w3.heap.size,0,none⟩) 1 1)).alloc (.cells #[.int .i64 vk,.string vn,.string vx,.slice A m cp] 52)
   have ht:=nextR_any g b W hW τ3 41 ⟨#[]⟩ _ hrd
   rw[show bs (⟨#[]⟩:ByteArray)=[] from rfl] at ht
   generalize nextR τ3 41 []=X at *
   obtain⟨d4,τ4⟩:=X
   dsimp only at ht hR
   have HT:=Hy ht
   have HRb:=Hy hR
   clear ht hR
   go_wp2_with fail
   refine HT.out.mono ?_
   clear hrd HT
   rintro e v4 ⟨rfl,hrd,hx⟩
   have hR:=HRb.out
   clear bc bf bz HRb
   replace hxa:=hxa.trans hx
   replace b1:=b1.extX hx (Ne.symm hne)
   replace bl:=bl.extX hx (Ne.symm hnl)
   have bc:=b1.cell;have bf:=b1.free;have bz:=b1.lt
   clear lc lf lz
   have lc:=bl.cell;have lf:=bl.free;have lz:=bl.lt
   replace bN:=bN.extX hx (show w3.heap.size≠g by omega)
   replace hcd:=(hcd5.extX hx (show g < v2.heap.size+1 by omega)).low (show w.heap.size+1<=v2.heap.size+1 by omega)
   have hone:=CdAt.one (k:=7) (n:=⟨#[]⟩) (x:=⟨#[]⟩) (cp:=1) (show w.heap.size+1<=w3.heap.size by omega) (bN.cell 0) (bN.cell 1) (bN.cell 2) (bN.cell 3) hcd
   have HONE:=Hy hone
   have HRz:=Hy hR
   clear hone hcd5 hR
   go_wp2
   obtain rfl:=HRz.out
   exact bodyPost_ret (v:=.agg #[.int .i64 7,.string ⟨#[]⟩,.string ⟨#[]⟩,.slice (some ⟨w3.heap.size,0,none⟩) 1 1]) (by simp[results,Tryz.results178,go_sem,bc]) rfl ⟨_,rfl,cdr_fin (B:=w.heap.size+1) (HONE.out) (by omega) hrd hxa hne hbe⟩
  ·have HKA:=Hy hka;clear hka
   have hi:=HIS.out 119 ⟨#[111,114]⟩
   rw[show bs (⟨#[111,114]⟩:ByteArray)=wOr from rfl] at hi
   cases hw:isR τ1 119 wOr
   ·rw[hw] at hi
    have HI:=Hy hi
    have HW:=Hy hw
    clear hi hw
    go_wp2_with fail
    refine HI.out.mono ?_
    rintro e w' ⟨rfl,rfl⟩
    go_wp2
    go_round
    case rel=>refine .inr (.inr ⟨by go_num,?_⟩);first|exact⟨HKA.out,HW.out⟩|exact HW.out|exact HKA.out|trivial
    case measure=>simp[intOf]
   rw[hw] at hi
   have HI:=Hy hi
   have hR:=HR.out
   rw[if_neg (by rw[HKA.out];decide),if_pos hw] at hR
   have hnx:=HNX.out ⟨#[111,114]⟩
   rw[show bs (⟨#[111,114]⟩:ByteArray)=wOr from rfl] at hnx
   generalize nextR τ1 119 wOr=X at *
   obtain⟨d2,τ2⟩:=X
   dsimp only at hnx hR
   unfold headR at hR
   have HT:=Hy hnx
   have HRa:=Hy hR
   clear hnx hR hi hw HR HKA
   go_wp2_with fail
   refine HI.out.mono ?_
   rintro e w' ⟨rfl,rfl⟩
   go_wp2_with fail
   refine HT.out.mono ?_
   clear HT HI
   rintro e v2 ⟨rfl,hrd,hx⟩
   have hR:=HRa.out
   clear HRa
   replace hxa:=hxa.trans hx
   replace b1:=b1.extX hx (Ne.symm hne)
   have km2:=km.extX hx (Ne.symm hgM)
   have hlk:=kinds_or km2
   have bc:=b1.cell;have bf:=b1.free;have bz:=b1.lt
   clear bw wc bwz hr1 km km2
   have bl:=Blk.new v2 52 #[.int .i64 8,.string ⟨#[]⟩,.string ⟨#[]⟩,.slice none 0 0]
   have hgl:g < v2.heap.size:=hrd.lt
   have hbl:b < v2.heap.size:=hrd.wds.lt
   have hnl:g≠v2.heap.size:=by omega
   have hnb2:b≠v2.heap.size:=by omega
   have hB2:w.heap.size < v2.heap.size:=b1.lt
   have hnG:w.heap.size≠v2.heap.size:=by omega
   have hB3:w.heap.size<=v2.heap.size:=by omega
   replace hrd:=hrd.alloc (.cells #[.int .i64 8,.string ⟨#[]⟩,.string ⟨#[]⟩,.slice none 0 0] 52)
   replace hxa:=hxa.alloc (.cells #[.int .i64 8,.string ⟨#[]⟩,.string ⟨#[]⟩,.slice none 0 0] 52)
   replace b1:=b1.alloc (.cells #[.int .i64 8,.string ⟨#[]⟩,.string ⟨#[]⟩,.slice none 0 0] 52)
   have lc:=bl.cell;have lf:=bl.free;have lz:=bl.lt
   have hp:=isR_any g b W τ2 41 ⟨#[]⟩ _ hrd
   rw[show bs (⟨#[]⟩:ByteArray)=[] from rfl] at hp
   cases hpv:isR τ2 41 []
   rotate_left
   ·rw[hpv,if_pos rfl] at hR
    rw[hpv] at hp
    have HP:=Hy hp
    have HRc:=Hy hR
    clear hp hpv hR
    go_wp2_with fail
    refine HP.out.mono ?_
    rintro e w' ⟨rfl,rfl⟩
    clear hlk HP
    have hR:=HRc.out
    clear HRc
    have ht:=nextR_any g b W hW τ2 41 ⟨#[]⟩ _ hrd
    rw[show bs (⟨#[]⟩:ByteArray)=[] from rfl] at ht
    generalize nextR τ2 41 []=X at *
    obtain⟨d3,τ3⟩:=X
    dsimp only at ht hR
    have HT:=Hy ht
    have HRb:=Hy hR
    clear ht hR
    go_wp2_with fail
    refine HT.out.mono ?_
    clear hrd HT
    rintro e v3 ⟨rfl,hrd,hx⟩
    have hR:=HRb.out
    clear bc bf bz HRb
    replace hxa:=hxa.trans hx
    replace b1:=b1.extX hx (Ne.symm hne)
    replace bl:=bl.extX hx (Ne.symm hnl)
    have bc:=b1.cell;have bf:=b1.free;have bz:=b1.lt
    clear lc lf lz
    have lc:=bl.cell;have lf:=bl.free;have lz:=bl.lt
    have HRz:=Hy hR
    clear hR
    go_wp2
    obtain rfl:=HRz.out
    exact bodyPost_ret (v:=.agg #[.int .i64 8,.string ⟨#[]⟩,.string ⟨#[]⟩,.slice none 0 0]) (by simp[results,Tryz.results178,go_sem,bc]) rfl ⟨_,rfl,cdr_fin (B:=w.heap.size+1) (CdAt.leaf _ _ _ _ _) (by omega) hrd hxa hne hbe⟩
   rw[hpv,if_neg (by decide)] at hR
   rw[hpv] at hp
   have HP:=Hy hp
   have hc2:=HC.out τ2 _ hrd
   generalize condRF n τ2=Y at *
   obtain⟨d,τ3⟩:=Y
   dsimp only at hR
   have HC2:=Hy hc2
   have HRc:=Hy hR
   clear hc2 hp hpv hR
   go_wp2_with fail
   refine HP.out.mono ?_
   rintro e w' ⟨rfl,rfl⟩
   clear hlk HP
   go_wp2_with fail
   refine HC2.out.mono ?_
   clear hrd HC2 HC
   rintro e w3 ⟨v,rfl,hcd,hrd,hx⟩
   have hR:=HRc.out
   clear bc bf bz lc lf lz HRc
   dsimp only at hcd hrd
   replace hxa:=hxa.trans hx
   replace b1:=b1.extX hx (Ne.symm hne)
   replace bl:=bl.extX hx (Ne.symm hnl)
   obtain⟨vk,vn,vx,A,m,cp,rfl⟩:=hcd.cells
   have hgw3:=hrd.lt
   have hbw3:=hrd.wds.lt
   have lw3:v2.heap.size < w3.heap.size:=bl.lt
   have bc:=b1.cell;have bf:=b1.free;have bz:=b1.lt
   have lc:=bl.cell;have lf:=bl.free;have lz:=bl.lt
   have hz5:(w3.setCell ⟨v2.heap.size,3,none⟩ (.slice (some ⟨w3.heap.size,0,none⟩) 1 1)).heap.size=w3.heap.size:=by simp[World.setCell]
   have bN:=Blk.new (w3.setCell ⟨v2.heap.size,3,none⟩ (.slice (some ⟨w3.heap.size,0,none⟩) 1 1)) 52 #[.int .i64 vk,.string vn,.string vx,.slice A m cp]
   rw[hz5] at bN
   rw[World.size_alloc] at hcd
   have hcd5:=(hcd.set (p:=⟨v2.heap.size,3,none⟩) (Nat.lt_succ_self _) (.slice (some ⟨w3.heap.size,0,none⟩) 1 1)).ext ((Ext.refl _).alloc (.cells #[.int .i64 vk,.string vn,.string vx,.slice A m cp] 52))
   replace hrd:=(hrd.far (p:=⟨v2.heap.size,3,none⟩) hnl hnb2 (.slice (some ⟨w3.heap.size,0,none⟩) 1 1)).alloc (.cells #[.int .i64 vk,.string vn,.string vx,.slice A m cp] 52)
   replace hxa:=(hxa.set2 (p:=⟨v2.heap.size,3,none⟩) hB3 (.slice (some ⟨w3.heap.size,0,none⟩) 1 1)).alloc (.cells #[.int .i64 vk,.string vn,.string vx,.slice A m cp] 52)
   replace b1:=(b1.far (p:=⟨v2.heap.size,3,none⟩) hnG (.slice (some ⟨w3.heap.size,0,none⟩) 1 1)).alloc (.cells #[.int .i64 vk,.string vn,.string vx,.slice A m cp] 52)
   replace bl:Blk _ _ _ #[.int .i64 8,.string ⟨#[]⟩,.string ⟨#[]⟩,(.slice (some ⟨w3.heap.size,0,none⟩) 1 1)]:=(bl.set 3 (.slice (some ⟨w3.heap.size,0,none⟩) 1 1)).alloc (.cells #[.int .i64 vk,.string vn,.string vx,.slice A m cp] 52)
   have ht:=nextR_any g b W hW τ3 41 ⟨#[]⟩ _ hrd
   rw[show bs (⟨#[]⟩:ByteArray)=[] from rfl] at ht
   generalize nextR τ3 41 []=X at *
   obtain⟨d4,τ4⟩:=X
   dsimp only at ht hR
   have HT:=Hy ht
   have HRb:=Hy hR
   clear ht hR
   go_wp2_with fail
   refine HT.out.mono ?_
   clear hrd HT
   rintro e v4 ⟨rfl,hrd,hx⟩
   have hR:=HRb.out
   clear bc bf bz HRb
   replace hxa:=hxa.trans hx
   replace b1:=b1.extX hx (Ne.symm hne)
   replace bl:=bl.extX hx (Ne.symm hnl)
   have bc:=b1.cell;have bf:=b1.free;have bz:=b1.lt
   clear lc lf lz
   have lc:=bl.cell;have lf:=bl.free;have lz:=bl.lt
   replace bN:=bN.extX hx (show w3.heap.size≠g by omega)
   replace hcd:=(hcd5.extX hx (show g < v2.heap.size+1 by omega)).low (show w.heap.size+1<=v2.heap.size+1 by omega)
   have hone:=CdAt.one (k:=8) (n:=⟨#[]⟩) (x:=⟨#[]⟩) (cp:=1) (show w.heap.size+1<=w3.heap.size by omega) (bN.cell 0) (bN.cell 1) (bN.cell 2) (bN.cell 3) hcd
   have HONE:=Hy hone
   have HRz:=Hy hR
   clear hone hcd5 hR
   go_wp2
   obtain rfl:=HRz.out
   exact bodyPost_ret (v:=.agg #[.int .i64 8,.string ⟨#[]⟩,.string ⟨#[]⟩,.slice (some ⟨w3.heap.size,0,none⟩) 1 1]) (by simp[results,Tryz.results178,go_sem,bc]) rfl ⟨_,rfl,cdr_fin (B:=w.heap.size+1) (HONE.out) (by omega) hrd hxa hne hbe⟩
  ·have hR:R=tailR (condRF n) (condRF n τ1).1 (condRF n τ1).2:=by rw[HR.out,if_neg (by rw[hka];decide),if_neg (by rw[hko];decide)]
   have hc2:=HC.out τ1 _ hr1
   generalize condRF n τ1=Y at *
   obtain⟨c0,τ2⟩:=Y
   dsimp only at hR
   have HC2:=Hy hc2
   have HRt:=Hy hR
   clear hR HR hka hko HIS HNX hc2 hr1
   go_wp2_with fail
   refine HC2.out.mono ?_
   clear HC2
   rintro e w2 ⟨v,rfl,hcd,hrd,hx⟩
   dsimp only at hcd hrd
   replace hxa:=hxa.trans hx
   replace b1:=b1.extX hx (Ne.symm hne)
   have km2:=km.extX hx (Ne.symm hgM)
   obtain⟨vk,vn,vx,A,m,cp,rfl⟩:=hcd.cells
   have hgw2:=hrd.lt
   have hbw2:=hrd.wds.lt
   have hB2:w.heap.size < w2.heap.size:=b1.lt
   have hz2:=hx.size
   have hcdB:CdIn (fun b=>W0.heap.size<=b∧b < w2.heap.size) w2 c0 _:=hcd.imp fun b hb h=>⟨h,hb⟩
   clear bw wc bwz km hcd hx
   replace hrd:=hrd.alloc (.cells #[.int .i64 vk,.string vn,.string vx,.slice A m cp] 52)
   have his2:=isR_any g b W τ2 119 ⟨#[111,114]⟩ _ hrd
   rw[show bs (⟨#[111,114]⟩:ByteArray)=wOr from rfl] at his2
   obtain⟨vo,hvo⟩:∃ vo,isR τ2 119 wOr=vo:=⟨_,rfl⟩
   rw[hvo] at his2
   have HIO:=Hy his2
   obtain⟨tw,K,htw,hlk,hRT⟩:∃ (tw:ByteArray) (K:Int),((vo=true∧tw=⟨#[111,114]⟩)∨(vo=false∧tw=⟨#[97,110,100]⟩))∧(∀ V,KindMap V M->(Instr.lookup 257 (.map (some M)) (.string tw) false).run Tryz.prog V=.ok (.int .i64 K) V) ∧
    R=(.mk K ⟨#[]⟩ ⟨#[]⟩ (loopR (condRF n) (bs tw) (leftR τ2) false τ2 [c0]).1,(loopR (condRF n) (bs tw) (leftR τ2) false τ2 [c0]).2):=by
    have hR:=HRt.out
    unfold tailR at hR
    cases vo
    ·rw[if_neg (by rw[hvo];decide)] at hR
     exact⟨⟨#[97,110,100]⟩,7,.inr ⟨rfl,rfl⟩,fun V h=>kinds_and h,hR⟩
    ·rw[if_pos hvo] at hR
     exact⟨⟨#[111,114]⟩,8,.inl ⟨rfl,rfl⟩,fun V h=>kinds_or h,hR⟩
   have HTW:=Hy htw
   have HLK:=Hy hlk
   have HRT:=Hy hRT
   clear htw hlk hRT HRt hvo his2
   go_upto_if 49 with (go_at_call 177;refine HIO.out.mono ?_;rintro e w' ⟨rfl,rfl⟩)
   go_cut [10] (fun v wx=>v=.string tw∧wx=w2.alloc (.cells #[.int .i64 vk,.string vn,.string vx,.slice A m cp] 52))
   case first =>
    have htw:=HTW.out
    rcases htw with ⟨rfl,htw⟩|⟨rfl,htw⟩
    ·have HT2:=Hy htw
     clear htw
     go_wp2_with fail
     go_meet
     case rel=>exact⟨by rw[HT2.out],rfl⟩
    ·have HT2:=Hy htw
     clear htw
     go_wp2_with fail
     go_meet
     case rel=>exact⟨by rw[HT2.out],rfl⟩
   case rest =>
    obtain⟨rfl,hwc⟩:=hcut
    subst hwc
    have hkl:=HLK.out _ (km2.alloc (.cells #[.int .i64 vk,.string vn,.string vx,.slice A m cp] 52))
    replace b1:=((b1.alloc (.cells #[.int .i64 vk,.string vn,.string vx,.slice A m cp] 52)).alloc (.cells #[.int .i64 vk,.string vn,.string vx,.slice A m cp] 52)).alloc (.cells #[.int .i64 K,.string ⟨#[]⟩,.string ⟨#[]⟩,.slice (some ⟨w2.heap.size+1,0,none⟩) 1 1] 52)
    replace hrd:=(hrd.alloc (.cells #[.int .i64 vk,.string vn,.string vx,.slice A m cp] 52)).alloc (.cells #[.int .i64 K,.string ⟨#[]⟩,.string ⟨#[]⟩,.slice (some ⟨w2.heap.size+1,0,none⟩) 1 1] 52)
    replace hxa:=((hxa.alloc (.cells #[.int .i64 vk,.string vn,.string vx,.slice A m cp] 52)).alloc (.cells #[.int .i64 vk,.string vn,.string vx,.slice A m cp] 52)).alloc (.cells #[.int .i64 K,.string ⟨#[]⟩,.string ⟨#[]⟩,.slice (some ⟨w2.heap.size+1,0,none⟩) 1 1] 52)
    have bA:=(Blk.new (w2.alloc (.cells #[.int .i64 vk,.string vn,.string vx,.slice A m cp] 52)) 52 #[.int .i64 vk,.string vn,.string vx,.slice A m cp]).alloc (.cells #[.int .i64 K,.string ⟨#[]⟩,.string ⟨#[]⟩,.slice (some ⟨w2.heap.size+1,0,none⟩) 1 1] 52)
    have bl:=Blk.new ((w2.alloc (.cells #[.int .i64 vk,.string vn,.string vx,.slice A m cp] 52)).alloc (.cells #[.int .i64 vk,.string vn,.string vx,.slice A m cp] 52)) 52 #[.int .i64 K,.string ⟨#[]⟩,.string ⟨#[]⟩,.slice (some ⟨w2.heap.size+1,0,none⟩) 1 1]
    rw[World.size_alloc] at bA
    rw[World.size_alloc,World.size_alloc] at bl
    have hcd4:=(hcdB.ext ((((Ext.refl w2).alloc (.cells #[.int .i64 vk,.string vn,.string vx,.slice A m cp] 52)).alloc (.cells #[.int .i64 vk,.string vn,.string vx,.slice A m cp] 52)).alloc (.cells #[.int .i64 K,.string ⟨#[]⟩,.string ⟨#[]⟩,.slice (some ⟨w2.heap.size+1,0,none⟩) 1 1] 52))).imp (P':=fun b=>W0.heap.size<=b∧w2.heap.size+1≠b∧w2.heap.size+1+1≠b) fun b _ h=>⟨h.1,by omega,by omega⟩
    have kc:=Blk.new w2 52 #[.int .i64 vk,.string vn,.string vx,.slice A m cp]
    have kcc:=kc.cell
    go_wp2
    obtain⟨LR,hLR⟩:∃ LR,loopR (condRF n) (bs tw) (leftR τ2) false τ2 [c0]=LR:=⟨_,rfl⟩
    have hrt:=HRT.out
    rw[hLR] at hrt
    have HRR:=Hy hrt
    have hsuf:=suf_len hrd.suf
    clear hrt HRT HLK hcdB km2 hkl kc kcc
    have hG1:W0.heap.size<=w2.heap.size+1:=by omega
    have hL1:w2.heap.size+1 < w2.heap.size+1+1:=by omega
    generalize (((w2.alloc (.cells #[.int .i64 vk,.string vn,.string vx,.slice A m cp] 52)).alloc (.cells #[.int .i64 vk,.string vn,.string vx,.slice A m cp] 52)).alloc (.cells #[.int .i64 K,.string ⟨#[]⟩,.string ⟨#[]⟩,.slice (some ⟨w2.heap.size+1,0,none⟩) 1 1] 52))=W4 at *
    have hgG:g < w2.heap.size+1:=by omega
    have hbG:b < w2.heap.size+1:=by omega
    generalize w2.heap.size+1+1=L at *
    generalize w2.heap.size+1=G0 at *
    have hgL:g≠L:=by omega
    have hbL:b≠L:=by omega
    have hwL:w.heap.size≠L:=by omega
    have hL2:W0.heap.size<=L:=by omega
    have hgW:g < W0.heap.size:=by omega
    have hbW:b < W0.heap.size:=by omega
    have hown0:W4.ownsRow W0.heap.size 52 4 (.slice (some ⟨G0,0,none⟩) 1 1) 1 [.int .i64 vk,.string vn,.string vx,.slice A m cp] :=
     ⟨rfl,.inr ⟨G0,1,_,rfl,hG1,bA,by omega,by decide,rfl,rfl⟩⟩
    have hrow0:CdRow (fun b=>W0.heap.size<=b∧G0≠b∧L≠b) W4 [c0] [.int .i64 vk,.string vn,.string vx,.slice A m cp]:=CdRow.snoc (CdRow.nil _ _) hcd4
    obtain⟨i0,hi0,hz0,hz1,hz2⟩:=info_parts info_cond
    have hwlen:=HWL.out
    have HOWN0:=Hy hown0
    have HROW0:=Hy hrow0
    have HLR:=Hy hLR
    clear hown0 hrow0 hLR hcd4 bA
    go_loopw [12] (fun t wr=>∃ (τ:Rs) (l:List Cd) (k N gR cR:Nat) (xs:List Value),t=.int .i64 k∧N=k+1∧l.length=N∧RdR wr g b W τ∧ExtX g w wr∧Blk wr L 52 #[.int .i64 K,.string ⟨#[]⟩,.string ⟨#[]⟩,.slice (some ⟨gR,0,none⟩) N cR]∧Blk wr w.heap.size 52 #[.int .i64 0,.string ⟨#[]⟩,.string ⟨#[]⟩,.slice none 0 0] ∧
     wr.ownsRow W0.heap.size 52 4 (.slice (some ⟨gR,0,none⟩) N cR) N xs∧gR≠L∧CdRow (fun b=>W0.heap.size<=b∧gR≠b∧L≠b) wr l xs∧N+leftR τ<=W.length+2∧loopR (condRF n) (bs tw) (leftR τ) (decide (0 < k)) τ l=LR) (fun _ wr=>leftOfR g wr)
    case atStart=>exact⟨τ2,[c0],0,1,G0,1,_,by go_num,rfl,rfl,hrd,hxa,bl,b1,HOWN0.out,by omega,HROW0.out,by omega,HLR.out⟩
    case round =>
     obtain⟨τ,l,k,N,gR,cR,xs,rfl,hNk,hN,hrd,hxr,hbl,hb1,hown,hgRL,hrow,hbd,hlf⟩:=hrel
     have hNk1:N<=k+1:=by omega
     have hNk2:k+1<=N:=by omega
     clear hNk
     have hgR:=hown.lt gR rfl
     have HROW:=Hy hrow
     have HOWN:=Hy hown
     have HXR:=Hy hxr
     have HMZ:=Hy (leftOfR_rd hrd)
     clear HLR HOWN0 HROW0 b1 bl hxa
     clear hrow hown hxr
     obtain⟨j,cpR,mR,_,_,_,hm,hmc,hb,c0',c1',c2',c3'⟩:=hrd.opened
     have rc:=hb.cell
     clear c0' c1' c2' c3'
     have hfin:∀ V,ExtX g wr V->CdAt (w.heap.size+1) V (.mk K ⟨#[]⟩ ⟨#[]⟩ l) (.agg #[.int .i64 K,.string ⟨#[]⟩,.string ⟨#[]⟩,.slice (some ⟨gR,0,none⟩) N cR]):=by
      intro V hV
      subst hN
      have hr7:CdRow (fun b=>w.heap.size+1<=b) V l xs:=HROW.out.keep (fun b _ h=>by omega) fun b o v _ h e=>hV.cell (by omega) e
      refine CdIn.ofRow hr7 K _ _ (b:=gR) (fun _=>rfl) (fun _=>by omega) fun j u hu=>?_
      have hj:j < xs.length:=by
       apply Classical.byContradiction
       intro hn
       rw[List.getElem?_eq_none (by omega)] at hu
       cases hu
      rw[HROW.out.len] at hj
      exact hV.cell (by omega) ((HOWN.out.cellAt j hj).trans hu)
     have HFIN:=Hy hfin
     have HRD:=Hy hrd
     clear hfin
     by_cases hbad:τ.bad < 0
     rotate_left
     ·have hst:=loopR_bad (n:=n) (word:=bs tw) (b:=decide (0 < k)) (l:=l) hbad
      rw[hlf] at hst
      have hrr:=HRR.out
      rw[hst] at hrr
      have HRE:=Hy hrr
      have bc:=hb1.cell;have bf:=hb1.free;have bz:=hb1.lt
      have lc:=hbl.cell;have lf:=hbl.free;have lz:=hbl.lt
      clear hst hlf hrr HRR hb hrd
      go_wp2
      obtain rfl:=HRE.out
      exact bodyPost_ret (v:=.agg #[.int .i64 K,.string ⟨#[]⟩,.string ⟨#[]⟩,.slice (some ⟨gR,0,none⟩) N cR]) (by simp[results,Tryz.results178,go_sem,bc]) rfl ⟨_,rfl,cdr_fin (B:=w.heap.size+1) (HFIN.out _ (ExtX.refl g _)) (by omega) HRD.out HXR.out hne hbe⟩
     have his:=isR_any g b W τ 41 ⟨#[]⟩ wr hrd
     rw[show bs (⟨#[]⟩:ByteArray)=[] from rfl] at his
     by_cases hend:0 < k∧isR τ 41 []=true
     ·obtain⟨hk0,h41⟩:=hend
      have hk1:(0:Int) < (k:Int):=by omega
      rw[decide_eq_true hk0,loopR_stop hbad h41] at hlf
      rw[h41] at his
      have hR:=HRR.out
      rw[<-hlf] at hR
      dsimp only at hR
      have HIS:=Hy his
      have bc:=hb1.cell;have bf:=hb1.free;have bz:=hb1.lt
      clear his hlf HRR h41 hb
      have ht:=nextR_any g b W hW τ 41 ⟨#[]⟩ _ hrd
      rw[show bs (⟨#[]⟩:ByteArray)=[] from rfl] at ht
      generalize nextR τ 41 []=X at *
      obtain⟨d5,τ5⟩:=X
      dsimp only at ht hR
      have HT:=Hy ht
      have HRE:=Hy hR
      clear ht hR
      go_wp2_with fail
      refine HIS.out.mono ?_
      rintro e w' ⟨rfl,rfl⟩
      go_wp2_with fail
      refine HT.out.mono ?_
      clear hrd HT rc bc bf bz
      rintro e w7 ⟨rfl,hrd,hx7⟩
      have b17:=hb1.extX hx7 (Ne.symm hne)
      have bl7:=hbl.extX hx7 (Ne.symm hgL)
      have hf7:=HFIN.out _ hx7
      have HF7:=Hy hf7
      clear hf7
      have hxa:=HXR.out.trans hx7
      have bc:=b17.cell;have bf:=b17.free;have bz:=b17.lt
      have lc:=bl7.cell;have lf:=bl7.free;have lz:=bl7.lt
      go_wp2
      obtain rfl:=HRE.out
      exact bodyPost_ret (v:=.agg #[.int .i64 K,.string ⟨#[]⟩,.string ⟨#[]⟩,.slice (some ⟨gR,0,none⟩) N cR]) (by simp[results,Tryz.results178,go_sem,bc]) rfl ⟨_,rfl,cdr_fin (B:=w.heap.size+1) HF7.out (by omega) hrd hxa hne hbe⟩
     ·have hb2:decide (0 < k)=false∨isR τ 41 []=false:=by
       by_cases hk0:0 < k
       ·right
        cases hq:isR τ 41 []
        ·rfl
        ·exact absurd ⟨hk0,hq⟩ hend
       ·exact .inl (decide_eq_false hk0)
      have hstep:=loopR_step (n:=n) (word:=bs tw) (l:=l) hbad hb2
      rw[hlf] at hstep
      have hlt:=leftR_lt (n:=n) (word:=bs tw) hbad
      have HST0:=Hy hstep
      have HIS0:=Hy his
      have HB2:=Hy hb2
      clear hstep hlf his hb2 hend HRR
      go_upto_region 22 with fail
      go_cut [68] (fun v wx=>v=.bool false∧wx=wr)
      case first =>
       by_cases hk0:0 < k
       ·have hk1:(0:Int) < (k:Int):=by omega
        have hq:isR τ 41 []=false:=HB2.out.elim (fun x=>absurd hk0 (of_decide_eq_false x)) id
        have his:=HIS0.out
        rw[hq] at his
        have HIS:=Hy his
        clear his hq
        go_wp2_with fail
        refine HIS.out.mono ?_
        rintro e w' ⟨rfl,rfl⟩
        go_wp2_with fail
        go_meet
        case rel=>exact⟨rfl,rfl⟩
       ·have hk1:¬ (0:Int) < (k:Int):=by omega
        go_wp2_with fail
        go_meet
        case rel=>exact⟨rfl,rfl⟩
      case rest =>
       obtain⟨rfl,hwc⟩:=hcut
       subst hwc
       have ht:=nextR_any g b W hW τ 119 tw _ HRD.out
       have hc2:=HC.out (nextR τ 119 (bs tw)).2
       generalize nextR τ 119 (bs tw)=X at *
       obtain⟨d5,τ5⟩:=X
       dsimp only at ht hc2 hlt
       generalize condRF n τ5=Y at *
       obtain⟨d,τ6⟩:=Y
       dsimp only at hlt
       have hst:=HST0.out
       dsimp only at hst
       have HST:=Hy hst
       have HT:=Hy ht
       have HC2:=Hy hc2
       have hNs:N<=3000002:=by omega
       clear ht hc2 hst HST0 HIS0 HB2 rc hb hrd hbad
       go_wp2_with fail
       refine HT.out.mono ?_
       clear HT
       rintro e w5 ⟨rfl,hrd5,hx5⟩
       have b15:=hb1.extX hx5 (Ne.symm hne)
       have bl5:=hbl.extX hx5 (Ne.symm hgL)
       have HRD5:=Hy hrd5
       have hL5:=bl5.lt
       have hLw:=hbl.lt
       have lc:=bl5.cell;have lf:=bl5.free
       clear hrd5
       go_wp2_with fail
       have cL:w5.cell? ⟨L,3,none⟩=some (.slice (some ⟨gR,0,none⟩) N cR):=lc 3
       have fL:w5.frozen? ⟨L,3,none⟩=false:=lf 3
       have nLg:L≠g:=Ne.symm hgL
       have hneL:some L≠(Value.slice (some ⟨gR,0,none⟩) N cR).ownBlock:=by simp only[Value.ownBlock,ne_eq,Option.some.injEq];omega
       have hneW:some w.heap.size≠(Value.slice (some ⟨gR,0,none⟩) N cR).ownBlock:=by simp only[Value.ownBlock,ne_eq,Option.some.injEq];omega
       have HNL:=Hy hneL;have HNW:=Hy hneW
       clear hneL hneW
       clear lc lf
       go_region_law ((first
        | (refine step_append_lies _ (by rfl) _ _ _ (by rfl) W0.heap.size 52 i0 _ 4 64 Tryz.underlying50 hi0 hz0 hz1 hz2 rfl (by omega) (.slice (some ⟨gR,0,none⟩) N cR) N xs (by rfl) (hown6.alloc _) ⟨w6.heap.size,0,none⟩ 1 1 [.int .i64 ck,.string cn,.string cx,.slice cA cm ccp] (by rfl) (by rfl) (World.news_of_block (cs:=#[.int .i64 ck,.string cn,.string cx,.slice cA cm ccp]) (t:=52) (fr:=(0,0)) (heap_alloc_new w6 _)) (by simp[Value.oneCell']) (by omega) (by simp only[maxLen];omega) (by omega) (by rw[World.size_alloc];omega) (w6.heap.size+1) (by simp) ?_;intro gN cN w7 hown7 hgrow hat hlt7;have bl7:=(bl6.alloc (.cells #[.int .i64 ck,.string cn,.string cx,.slice cA cm ccp] 52)).grownR hgrow HNL.out;have cL7:=bl7.cell 3;have fL7:=bl7.free 3)
        | (go_simp;go_at_call 103;refine (HC2.out _ ?_).mono ?_;(next=>exact HRD5.out.ext Ext.au);rintro e w6 ⟨vv,rfl,hcd6,hrd6,hx6⟩;(obtain⟨ck,cn,cx,cA,cm,ccp,rfl⟩:=hcd6.cells);have bl6:=(bl5.ext Ext.au).extX hx6 nLg;have cL6:=bl6.cell 3;have fL6:=bl6.free 3;have zL6:=bl6.lt;have hown6:=own_extX (own_ext (own_extX HOWN.out hx5 hgW) Ext.au) hx6 hgW)))
       all_goals
        have hrd7:=(hrd6.alloc (.cells #[.int .i64 ck,.string cn,.string cx,.slice cA cm ccp] 52)).grownR hgrow (show g≠gR by omega) (show b≠gR by omega)
        have b17:=(((b15.ext Ext.au).extX hx6 (Ne.symm hne)).alloc (.cells #[.int .i64 ck,.string cn,.string cx,.slice cA cm ccp] 52)).grownR hgrow HNW.out
        have hx5d:=hx5.trans (ExtX.ofExt ((Ext.refl w5).drew))
        have hrow7:=row_grow hgW HOWN.out HROW.out hLw hx5d hx6 hcd6 hgrow hat
        have hx7:=((HXR.out.trans (hx5d.trans hx6)).alloc (.cells #[.int .i64 ck,.string cn,.string cx,.slice cA cm ccp] 52)).grown hgrow (show w.heap.size<=gR by omega)
        have hgNL:gN≠L:=by
         rcases hat with h|h
         ·have h:some gR=some gN:=h
          injection h with h
          omega
         ·omega
        have hrd8:=hrd7.far (p:=⟨L,3,none⟩) hgL hbL (.slice (some ⟨gN,0,none⟩) (N+1) cN)
        have HRD8:=Hy hrd8
        have HB1:=Hy b17
        have HROW7:=Hy hrow7
        have HX7:=Hy hx7
        have HOWN7:=Hy hown7
        have HBL7:=Hy bl7
        clear hrd8 hrd7 hrow7 hx7 hown7 b17 hx5d hat
        go_wp2
        go_roundw
        case rel =>
         refine⟨τ6,l++[d],k+1,N+1,gN,cN,_,by go_num,by omega,by rw[List.length_append,hN];rfl,HRD8.out,HX7.out.set2 (p:=⟨L,3,none⟩) (show w.heap.size<=L by omega) _,HBL7.out.set 3 _,HB1.out.far (p:=⟨L,3,none⟩) hwL _,HOWN7.out.kept (row:=some L) (grown_set _ _ _) (.inr ?_),hgNL,HROW7.out.keep (fun _ _ h=>h) ?_,by omega,by rw[decide_eq_true (Nat.succ_pos k)];exact HST.out.symm⟩
         ·simp only[Value.ownBlock,ne_eq,Option.some.injEq];omega
         ·rintro b o v hb ⟨_,_,h3⟩ e
          exact cell_set_far (Ne.symm h3) e
        case measure =>
         rw[leftOfR_rd HRD8.out,HMZ.out]
         exact hlt
end Go.Proofs.YtmnafaaijglnfaaGreatDoor
