/- Contract of the program's reading of conditions in brackets, given what it calls. (Printed by gen/cndi.py.) -/
import Derived.Test.YtmnafaaijglnfaaGreatDoorFr13
import Derived.Deep.DeepCutAuto
import Derived.Deep.AppendLies
import Derived.Deep.RegionLaw
namespace Go.Proofs.YtmnafaaijglnfaaGreatDoor
open Go.RowKit
theorem idx_and (w:World):(Instr.index 256 (.agg #[.string ⟨#[97,110,100]⟩,.string ⟨#[111,114]⟩]) (.int .i64 0)).run Tryz.prog w=.ok (.string ⟨#[97,110,100]⟩) w:=by kernel_rfl
theorem idx_or (w:World):(Instr.index 256 (.agg #[.string ⟨#[97,110,100]⟩,.string ⟨#[111,114]⟩]) (.int .i64 1)).run Tryz.prog w=.ok (.string ⟨#[111,114]⟩) w:=by kernel_rfl
theorem info_cond:(Tryz.prog.info? 52).map (fun i=>(i.zero,i.size,i.bytes))=some (some (.agg #[.int .i64 0,.string ⟨#[]⟩,.string ⟨#[]⟩,.slice none 0 0]),4,64):=by kernel_rfl
def leftOf (g m:Nat) (w:World):Nat:=match w.cell? ⟨g,1,none⟩,w.cell? ⟨g,5,none⟩ with|some (.int _ p),some (.int _ e)=>if e < 0 then m+1 - p.toNat else 0|_,_=>0
theorem leftOf_rd {g:Nat} {w:World} {s:ByteArray} {σ:St} (h:Rd w g s σ):leftOf g s.size w=left s σ:=by
 unfold leftOf left
 rw[h.cell 1,h.cell 5]
 simp
theorem grown_set (w:World) (p:Addr) (u:Value):w.grownBy (w.setCell p u) (some p.block) :=
 ⟨rfl,rfl,rfl,by simp[World.setCell],fun k _ hk=>by simp only[World.setCell,Array.getElem?_modify];rw[if_neg (fun e=>hk (by rw[e]))]⟩
theorem ExtX.grown {g r:Nat} {a w w':World} (h:ExtX g a w) (hg:w.grownBy w' (some r)) (hr:a.heap.size<=r):ExtX g a w' :=
 ⟨hg.os.trans h.os,hg.tape.trans h.tape,hg.output.trans h.output,Nat.le_trans h.size hg.size,fun k hk hkg=>(hg.block k (Nat.lt_of_lt_of_le hk h.size) (fun e=>by injection e with e;omega)).trans (h.block k hk hkg)⟩
theorem Blk.grownR {g:Nat} {row:Option Nat} {w w':World} {t:TypeId} {cs:Array Value} (h:Blk w g t cs) (hg:w.grownBy w' row) (hne:some g≠row):Blk w' g t cs:=(hg.block g h.lt hne).trans h
theorem own_extX {g B n:Nat} {w w':World} {e:TypeId} {size:Nat} {v:Value} {xs:List Value} (h:w.ownsRow B e size v n xs) (hx:ExtX g w w') (hg:g < B):w'.ownsRow B e size v n xs :=
 h.kept (row:=some g) ⟨hx.os,hx.tape,hx.output,hx.size,fun k hk hne=>hx.block k hk (fun e=>hne (by rw[e]))⟩ (.inr (fun e=>by have:=(h.lt g e).1;omega))
theorem row_grow {g B L:Nat} {wr w5 w6 w7:World} {o:Obj} {gR cp gN n:Nat} {l:List Cd} {c:Cd} {xs:List Value} {u0 u1 u2 u3:Value} (hgB:g < B)
 (hown:wr.ownsRow B 52 4 (.slice (some ⟨gR,0,none⟩) n cp) n xs) (hrow:CdRow (fun b=>B<=b∧gR≠b∧L≠b) wr l xs) (hL:L < wr.heap.size) (hx5:ExtX g wr w5) (hx6:ExtX g w5 w6) (hcd:CdAt w5.heap.size w6 c (.agg #[u0,u1,u2,u3]))
 (hgrow:(w6.alloc o).grownBy w7 (some gR)) (hat:some gR=some gN∨gN=w6.heap.size+1):CdRow (fun b=>B<=b∧gN≠b∧L≠b) w7 (l++[c]) (xs++[u0,u1,u2,u3]):=by
 have hl:=hown.lt gR rfl
 have z5:=hx5.size;have z6:=hx6.size
 have hxx:=hx5.trans hx6
 have kal:∀ b oo v,w6.cell? ⟨b,oo,none⟩=some v->(w6.alloc o).cell? ⟨b,oo,none⟩=some v:=fun b oo v e=>((Ext.refl w6).alloc o).cell e
 have far:∀ b oo v,b≠gR->w6.cell? ⟨b,oo,none⟩=some v->w7.cell? ⟨b,oo,none⟩=some v:=fun b oo v hb e=>by
  have e2:=kal b oo v e
  rw[hgrow.cell_far ⟨b,oo,none⟩ (lt_of_cell e2) (by simpa using hb)]
  exact e2
 refine CdRow.snoc (hrow.keep ?_ ?_) ?_
 ·rintro b hb ⟨h1,h2,h3⟩
  refine⟨h1,?_,h3⟩
  rcases hat with h|h
  ·injection h with h;omega
  ·omega
 ·rintro b oo v hb ⟨h1,h2,_⟩ e
  exact far b oo v (Ne.symm h2) (hxx.cell (by omega) e)
 ·have h1:CdIn (fun b=>w5.heap.size<=b∧b < w6.heap.size) w6 c _:=hcd.imp fun b hb hP=>⟨hP,hb⟩
  have h2:=h1.keep (w':=w7) fun b oo v hP e=>far b oo v (by omega) e
  refine h2.imp fun b _ hP=>⟨by omega,?_,by omega⟩
  rcases hat with h|h
  ·injection h with h;omega
  ·omega
theorem list_none (g:Nat) (s:ByteArray) (σ:St) (w:World) (h:Rd w g s σ) :
 Calls Tryz.prog 169 #[.pointer (some ⟨g,0,none⟩),.int .i64 100] w (CdPost g s w (listB s none σ)):=by
 have hgw:=h.lt
 have hne:g≠w.heap.size:=by omega
 have hrd:=h.alloc (.cells #[.int .i64 0,.string ⟨#[]⟩,.string ⟨#[]⟩,.slice none 0 0] 52)
 have b0:=Blk.new w 52 #[.int .i64 0,.string ⟨#[]⟩,.string ⟨#[]⟩,.slice none 0 0]
 have hxa:ExtX g w (w.alloc (.cells #[.int .i64 0,.string ⟨#[]⟩,.string ⟨#[]⟩,.slice none 0 0] 52)):=(ExtX.refl g w).alloc _
 have HF:=Hy (fail_any g s σ σ.a _ hrd)
 have rc:=hrd.cell;have rf:=hrd.free
 unfold listB
 dsimp only
 clear h
 go_enter Tryz.func169,Tryz.ntmps169
 go_wp2_with fail
 refine HF.out.mono ?_
 clear hrd rc rf HF
 rintro e w2 ⟨rfl,hrd,hx⟩
 replace hxa:=hxa.trans hx
 have b1:=b0.extX hx (Ne.symm hne)
 have bc:=b1.cell;have bf:=b1.free;have bz:=b1.lt
 go_wp2
 exact bodyPost_ret (v:=.agg #[.int .i64 0,.string ⟨#[]⟩,.string ⟨#[]⟩,.slice none 0 0]) (by simp[results,Tryz.results169,go_sem,bc]) rfl ⟨_,rfl,cd_fin (B:=w.heap.size+1) (CdAt.leaf _ _ _ _ _) (by omega) hrd hxa hne⟩
set_option maxRecDepth 100000 in
set_option maxHeartbeats 16000000 in
theorem list_some (g:Nat) (s:ByteArray) (hs:s.size<=2097152) (lev:Nat) (hlev:lev < 100) (n:Nat)
 (hcond:∀ σ w,Rd w g s σ->OkS s σ->Calls Tryz.prog 99 #[.pointer (some ⟨g,0,none⟩),.int .i64 ((lev+1:Nat):Int)] w (CdPost g s w (condF s n σ)))
 (σ:St) (w:World) (h:Rd w g s σ) (ho:OkS s σ) :
 Calls Tryz.prog 169 #[.pointer (some ⟨g,0,none⟩),.int .i64 lev] w (CdPost g s w (listB s (some (condF s n)) σ)):=by
 have hgw:=h.lt
 have hne:g≠w.heap.size:=by omega
 have hli:¬ (lev:Int) ≥ 100:=by omega
 have hlw:IntKind.i64.wrap ((lev:Int)+1)=(lev:Int)+1:=by rw[IntKind.wrap_i64];omega
 rw[show ((lev+1:Nat):Int)=(lev:Int)+1 by omega] at hcond
 have hr0:=h.alloc (.cells #[.int .i64 0,.string ⟨#[]⟩,.string ⟨#[]⟩,.slice none 0 0] 52)
 have b0:=Blk.new w 52 #[.int .i64 0,.string ⟨#[]⟩,.string ⟨#[]⟩,.slice none 0 0]
 have hx0:ExtX g w (w.alloc (.cells #[.int .i64 0,.string ⟨#[]⟩,.string ⟨#[]⟩,.slice none 0 0] 52)):=(ExtX.refl g w).alloc _
 have ht:=take_V g s σ 3 ⟨#[40]⟩ _ hr0 hs ho
 rw[show bs (⟨#[40]⟩:ByteArray)=[40] from rfl] at ht
 have ho1:=(takeF_ok ho 3 [40]).1
 unfold listB
 dsimp only
 generalize takeF s σ 3 [40]=X at *
 obtain⟨x1,σ1⟩:=X
 dsimp only at ht ho1 ⊢
 obtain⟨R,hR⟩:∃ R,R=(if isF σ1 1 wAnd=true then headF s (condF s n) ⟨#[97,110,100]⟩ (advF s σ1) else if isF σ1 1 wOr=true then headF s (condF s n) ⟨#[111,114]⟩ (advF s σ1) else tailF s (condF s n) (condF s n σ1).1 (condF s n σ1).2):=⟨_,rfl⟩
 rw[<-hR]
 have HR:=Hy hR
 clear hR
 have HT:=Hy ht
 have HC:=Hy hcond
 have hc0:=hr0.cell;have hf0:=hr0.free
 clear ht hcond h ho
 go_enter Tryz.func169,Tryz.ntmps169
 go_wp2_with fail
 refine HT.out.mono ?_
 rintro e w1 ⟨rfl,hrd,hx⟩
 have b1:=b0.extX hx (Ne.symm hne)
 have hxa:=hx0.trans hx
 have hB1:w.heap.size+1<=w1.heap.size:=by have:=hx.size;rw[World.size_alloc] at this;exact this
 clear hc0 hf0 b0 hx HT hx0
 have rc:=hrd.cell;have rf:=hrd.free
 have bc:=b1.cell;have bf:=b1.free;have bz:=b1.lt
 have his:=fun t=>is_any g s σ1 1 t w1 hrd
 have HIS:=Hy his
 have hav:=advance_any g s σ1 w1 hrd hs ho1.p
 have HAV:=Hy hav
 have hoa:=advF_ok ho1
 clear his hav
 have ix0:=idx_and
 have ix1:=idx_or
 go_wp2
 go_loop [23] (fun t=>t=.int .i64 0∨(t=.int .i64 1∧isF σ1 1 wAnd=false)∨(t=.int .i64 2∧isF σ1 1 wAnd=false∧isF σ1 1 wOr=false)) (fun t=>2 - (intOf t).toNat)
 case atStart=>exact .inl rfl
 case round =>
  rcases hrel with rfl|⟨rfl,hka⟩|⟨rfl,hka,hko⟩
  ·skip
   have hi1:=HIS.out ⟨#[97,110,100]⟩
   rw[show bs (⟨#[97,110,100]⟩:ByteArray)=[97,110,100] from rfl] at hi1
   cases hw:isF σ1 1 [97,110,100]
   ·rw[hw] at hi1
    have HI1:=Hy hi1
    have HW:=Hy hw
    clear hi1 hw
    go_wp2_with fail
    refine HI1.out.mono ?_
    rintro e w' ⟨rfl,rfl⟩
    go_wp2
    go_round
    case rel=>refine .inr (.inl ⟨by go_num,?_⟩);first|exact HW.out|trivial
    case measure=>simp[intOf]
   rw[hw] at hi1
   have HI1:=Hy hi1
   clear hi1
   have hR:R=headF s (condF s n) ⟨#[97,110,100]⟩ (advF s σ1):=by rw[HR.out];rw[if_pos hw]
   unfold headF at hR
   rw[show bs (⟨#[97,110,100]⟩:ByteArray)=[97,110,100] from rfl,show kindOfL [97,110,100]=7 from rfl] at hR
   have HRh:=Hy hR
   clear hR HR
   go_wp2_with fail
   refine HI1.out.mono ?_
   rintro e w' ⟨rfl,rfl⟩
   go_wp2_with fail
   refine HAV.out.mono ?_
   clear hrd rc rf HAV
   rintro e w2 ⟨rfl,hrd,hx⟩
   clear bc bf bz
   replace hxa:=hxa.trans hx
   replace b1:=b1.extX hx (Ne.symm hne)
   have bc:=b1.cell;have bf:=b1.free;have bz:=b1.lt
   have rc:=hrd.cell;have rf:=hrd.free
   go_wp2_with fail
   refine (kindOf_any ⟨#[97,110,100]⟩ _).mono ?_
   rw[show bs (⟨#[97,110,100]⟩:ByteArray)=[97,110,100] from rfl,show kindOfL [97,110,100]=7 from rfl]
   rintro e w' ⟨rfl,rfl⟩
   generalize advF s σ1=σ2 at *
   have bl:=Blk.new w2 52 #[.int .i64 7,.string ⟨#[]⟩,.string ⟨#[]⟩,.slice none 0 0]
   have hgl:g < w2.heap.size:=hrd.lt
   have hnl:g≠w2.heap.size:=by omega
   have hB2:w.heap.size < w2.heap.size:=b1.lt
   have hnG:w.heap.size≠w2.heap.size:=by omega
   have hBw:w.heap.size<=w2.heap.size:=by omega
   replace hrd:=hrd.alloc (.cells #[.int .i64 7,.string ⟨#[]⟩,.string ⟨#[]⟩,.slice none 0 0] 52)
   replace hxa:=hxa.alloc (.cells #[.int .i64 7,.string ⟨#[]⟩,.string ⟨#[]⟩,.slice none 0 0] 52)
   replace b1:=b1.alloc (.cells #[.int .i64 7,.string ⟨#[]⟩,.string ⟨#[]⟩,.slice none 0 0] 52)
   have lc:=bl.cell;have lf:=bl.free;have lz:=bl.lt
   have qc:=hrd.cell;have qf:=hrd.free
   have bc2:=b1.cell;have bf2:=b1.free;have bz2:=b1.lt
   have hp:=is_any g s σ2 3 ⟨#[41]⟩ _ hrd
   rw[show bs (⟨#[41]⟩:ByteArray)=[41] from rfl] at hp
   cases hpv:isF σ2 3 [41]
   rotate_left
   ·have hR2:=HRh.out
    rw[hpv,if_pos rfl] at hR2
    rw[hpv] at hp
    have HP:=Hy hp
    clear hp hpv
    have ht:=take_V g s σ2 3 ⟨#[41]⟩ _ hrd hs hoa
    rw[show bs (⟨#[41]⟩:ByteArray)=[41] from rfl] at ht
    generalize takeF s σ2 3 [41]=X at *
    obtain⟨y3,σ3⟩:=X
    dsimp only at ht hR2
    have HT:=Hy ht
    have HR2:=Hy hR2
    clear ht hR2 HRh
    go_wp2_with fail
    refine HP.out.mono ?_
    rintro e w' ⟨rfl,rfl⟩
    go_wp2_with fail
    refine HT.out.mono ?_
    clear hrd rc rf qc qf HT HP
    rintro e w3 ⟨rfl,hrd,hx⟩
    clear bc bf bz bc2 bf2 bz2 lc lf lz
    replace hxa:=hxa.trans hx
    replace b1:=b1.extX hx (Ne.symm hne)
    replace bl:=bl.extX hx (Ne.symm hnl)
    have bc:=b1.cell;have bf:=b1.free;have bz:=b1.lt
    have lc:=bl.cell;have lf:=bl.free;have lz:=bl.lt
    go_wp2
    obtain rfl:=HR2.out
    exact bodyPost_ret (v:=.agg #[.int .i64 7,.string ⟨#[]⟩,.string ⟨#[]⟩,.slice none 0 0]) (by simp[results,Tryz.results169,go_sem,bc]) rfl ⟨_,rfl,cd_fin (B:=w.heap.size+1) (CdAt.leaf _ _ _ _ _) (by omega) hrd hxa hne⟩
   have hR2:=HRh.out
   rw[hpv,if_neg (by decide)] at hR2
   rw[hpv] at hp
   have HP:=Hy hp
   clear hp hpv
   have hc2:=HC.out σ2 _ hrd hoa
   have hok2:=(condF_on n σ2).ok hoa
   generalize condF s n σ2=Y at *
   obtain⟨d,σ3⟩:=Y
   dsimp only at hok2 hR2
   have HC2:=Hy hc2
   have HR2:=Hy hR2
   clear hc2 hR2 HRh
   go_wp2_with fail
   refine HP.out.mono ?_
   rintro e w' ⟨rfl,rfl⟩
   go_wp2_with fail
   refine HC2.out.mono ?_
   clear hrd rc rf qc qf HC2 HP HC
   rintro e w3 ⟨v,rfl,hcd,hrd,hx⟩
   clear bc bf bz bc2 bf2 bz2 lc lf lz
   dsimp only at hcd hrd
   replace hxa:=hxa.trans hx
   replace b1:=b1.extX hx (Ne.symm hne)
   replace bl:=bl.extX hx (Ne.symm hnl)
   obtain⟨vk,vn,vx,A,m,cp,rfl⟩:=hcd.cells
   have hgw3:=hrd.lt
   have lw3:w2.heap.size < w3.heap.size:=bl.lt
   have bc:=b1.cell;have bf:=b1.free;have bz:=b1.lt
   have lc:=bl.cell;have lf:=bl.free;have lz:=bl.lt
   have rc:=hrd.cell;have rf:=hrd.free
   have hz5:(w3.setCell ⟨w2.heap.size,3,none⟩ (.slice (some ⟨w3.heap.size,0,none⟩) 1 1)).heap.size=w3.heap.size:=by simp[World.setCell]
   have bN:=Blk.new (w3.setCell ⟨w2.heap.size,3,none⟩ (.slice (some ⟨w3.heap.size,0,none⟩) 1 1)) 52 #[.int .i64 vk,.string vn,.string vx,.slice A m cp]
   rw[hz5] at bN
   rw[World.size_alloc] at hcd
   have hcd5:=(hcd.set (p:=⟨w2.heap.size,3,none⟩) (Nat.lt_succ_self _) (.slice (some ⟨w3.heap.size,0,none⟩) 1 1)).ext ((Ext.refl _).alloc (.cells #[.int .i64 vk,.string vn,.string vx,.slice A m cp] 52))
   have hrd5:=(hrd.far (p:=⟨w2.heap.size,3,none⟩) hnl (.slice (some ⟨w3.heap.size,0,none⟩) 1 1)).alloc (.cells #[.int .i64 vk,.string vn,.string vx,.slice A m cp] 52)
   have hxa5:=(hxa.set2 (p:=⟨w2.heap.size,3,none⟩) hBw (.slice (some ⟨w3.heap.size,0,none⟩) 1 1)).alloc (.cells #[.int .i64 vk,.string vn,.string vx,.slice A m cp] 52)
   have b15:=(b1.far (p:=⟨w2.heap.size,3,none⟩) hnG (.slice (some ⟨w3.heap.size,0,none⟩) 1 1)).alloc (.cells #[.int .i64 vk,.string vn,.string vx,.slice A m cp] 52)
   have bl5:Blk _ _ _ #[.int .i64 7,.string ⟨#[]⟩,.string ⟨#[]⟩,(.slice (some ⟨w3.heap.size,0,none⟩) 1 1)]:=(bl.set 3 (.slice (some ⟨w3.heap.size,0,none⟩) 1 1)).alloc (.cells #[.int .i64 vk,.string vn,.string vx,.slice A m cp] 52)
   have ht:=take_V g s σ3 3 ⟨#[41]⟩ _ hrd5 hs hok2
   rw[show bs (⟨#[41]⟩:ByteArray)=[41] from rfl] at ht
   have hR3:=HR2.out
   generalize takeF s σ3 3 [41]=X at *
   obtain⟨y4,σ4⟩:=X
   dsimp only at ht hR3
   have HT:=Hy ht
   have HR3:=Hy hR3
   clear ht hR3 HR2
   go_wp2_with fail
   refine HT.out.mono ?_
   clear rc rf HT bc bf bz lc lf lz hrd
   rintro e w4 ⟨rfl,hrd,hx⟩
   replace hxa:=hxa5.trans hx
   replace b1:=b15.extX hx (Ne.symm hne)
   replace bl:=bl5.extX hx (Ne.symm hnl)
   replace bN:=bN.extX hx (show w3.heap.size≠g by omega)
   replace hcd:=(hcd5.extX hx (show g < w2.heap.size+1 by omega)).low (show w.heap.size+1<=w2.heap.size+1 by omega)
   have hone:=CdAt.one (k:=7) (n:=⟨#[]⟩) (x:=⟨#[]⟩) (cp:=1) (show w.heap.size+1<=w3.heap.size by omega) (bN.cell 0) (bN.cell 1) (bN.cell 2) (bN.cell 3) hcd
   have HONE:=Hy hone
   clear hone hxa5 b15 bl5 hrd5 hcd5
   have bc:=b1.cell;have bf:=b1.free;have bz:=b1.lt
   have lc:=bl.cell;have lf:=bl.free;have lz:=bl.lt
   go_wp2
   obtain rfl:=HR3.out
   exact bodyPost_ret (v:=.agg #[.int .i64 7,.string ⟨#[]⟩,.string ⟨#[]⟩,.slice (some ⟨w3.heap.size,0,none⟩) 1 1]) (by simp[results,Tryz.results169,go_sem,bc]) rfl ⟨_,rfl,cd_fin (B:=w.heap.size+1) (HONE.out) (by omega) hrd hxa hne⟩
  ·have HKA:=Hy hka;clear hka
   have hi1:=HIS.out ⟨#[111,114]⟩
   rw[show bs (⟨#[111,114]⟩:ByteArray)=[111,114] from rfl] at hi1
   cases hw:isF σ1 1 [111,114]
   ·rw[hw] at hi1
    have HI1:=Hy hi1
    have HW:=Hy hw
    clear hi1 hw
    go_wp2_with fail
    refine HI1.out.mono ?_
    rintro e w' ⟨rfl,rfl⟩
    go_wp2
    go_round
    case rel=>refine .inr (.inr ⟨by go_num,?_⟩);first|exact⟨HKA.out,HW.out⟩|exact HKA.out|exact HW.out|trivial
    case measure=>simp[intOf]
   rw[hw] at hi1
   have HI1:=Hy hi1
   clear hi1
   have hR:R=headF s (condF s n) ⟨#[111,114]⟩ (advF s σ1):=by rw[HR.out];rw[if_neg (by rw[HKA.out];decide),if_pos hw]
   unfold headF at hR
   rw[show bs (⟨#[111,114]⟩:ByteArray)=[111,114] from rfl,show kindOfL [111,114]=8 from rfl] at hR
   have HRh:=Hy hR
   clear hR HR HKA
   go_wp2_with fail
   refine HI1.out.mono ?_
   rintro e w' ⟨rfl,rfl⟩
   go_wp2_with fail
   refine HAV.out.mono ?_
   clear hrd rc rf HAV
   rintro e w2 ⟨rfl,hrd,hx⟩
   clear bc bf bz
   replace hxa:=hxa.trans hx
   replace b1:=b1.extX hx (Ne.symm hne)
   have bc:=b1.cell;have bf:=b1.free;have bz:=b1.lt
   have rc:=hrd.cell;have rf:=hrd.free
   go_wp2_with fail
   refine (kindOf_any ⟨#[111,114]⟩ _).mono ?_
   rw[show bs (⟨#[111,114]⟩:ByteArray)=[111,114] from rfl,show kindOfL [111,114]=8 from rfl]
   rintro e w' ⟨rfl,rfl⟩
   generalize advF s σ1=σ2 at *
   have bl:=Blk.new w2 52 #[.int .i64 8,.string ⟨#[]⟩,.string ⟨#[]⟩,.slice none 0 0]
   have hgl:g < w2.heap.size:=hrd.lt
   have hnl:g≠w2.heap.size:=by omega
   have hB2:w.heap.size < w2.heap.size:=b1.lt
   have hnG:w.heap.size≠w2.heap.size:=by omega
   have hBw:w.heap.size<=w2.heap.size:=by omega
   replace hrd:=hrd.alloc (.cells #[.int .i64 8,.string ⟨#[]⟩,.string ⟨#[]⟩,.slice none 0 0] 52)
   replace hxa:=hxa.alloc (.cells #[.int .i64 8,.string ⟨#[]⟩,.string ⟨#[]⟩,.slice none 0 0] 52)
   replace b1:=b1.alloc (.cells #[.int .i64 8,.string ⟨#[]⟩,.string ⟨#[]⟩,.slice none 0 0] 52)
   have lc:=bl.cell;have lf:=bl.free;have lz:=bl.lt
   have qc:=hrd.cell;have qf:=hrd.free
   have bc2:=b1.cell;have bf2:=b1.free;have bz2:=b1.lt
   have hp:=is_any g s σ2 3 ⟨#[41]⟩ _ hrd
   rw[show bs (⟨#[41]⟩:ByteArray)=[41] from rfl] at hp
   cases hpv:isF σ2 3 [41]
   rotate_left
   ·have hR2:=HRh.out
    rw[hpv,if_pos rfl] at hR2
    rw[hpv] at hp
    have HP:=Hy hp
    clear hp hpv
    have ht:=take_V g s σ2 3 ⟨#[41]⟩ _ hrd hs hoa
    rw[show bs (⟨#[41]⟩:ByteArray)=[41] from rfl] at ht
    generalize takeF s σ2 3 [41]=X at *
    obtain⟨y3,σ3⟩:=X
    dsimp only at ht hR2
    have HT:=Hy ht
    have HR2:=Hy hR2
    clear ht hR2 HRh
    go_wp2_with fail
    refine HP.out.mono ?_
    rintro e w' ⟨rfl,rfl⟩
    go_wp2_with fail
    refine HT.out.mono ?_
    clear hrd rc rf qc qf HT HP
    rintro e w3 ⟨rfl,hrd,hx⟩
    clear bc bf bz bc2 bf2 bz2 lc lf lz
    replace hxa:=hxa.trans hx
    replace b1:=b1.extX hx (Ne.symm hne)
    replace bl:=bl.extX hx (Ne.symm hnl)
    have bc:=b1.cell;have bf:=b1.free;have bz:=b1.lt
    have lc:=bl.cell;have lf:=bl.free;have lz:=bl.lt
    go_wp2
    obtain rfl:=HR2.out
    exact bodyPost_ret (v:=.agg #[.int .i64 8,.string ⟨#[]⟩,.string ⟨#[]⟩,.slice none 0 0]) (by simp[results,Tryz.results169,go_sem,bc]) rfl ⟨_,rfl,cd_fin (B:=w.heap.size+1) (CdAt.leaf _ _ _ _ _) (by omega) hrd hxa hne⟩
   have hR2:=HRh.out
   rw[hpv,if_neg (by decide)] at hR2
   rw[hpv] at hp
   have HP:=Hy hp
   clear hp hpv
   have hc2:=HC.out σ2 _ hrd hoa
   have hok2:=(condF_on n σ2).ok hoa
   generalize condF s n σ2=Y at *
   obtain⟨d,σ3⟩:=Y
   dsimp only at hok2 hR2
   have HC2:=Hy hc2
   have HR2:=Hy hR2
   clear hc2 hR2 HRh
   go_wp2_with fail
   refine HP.out.mono ?_
   rintro e w' ⟨rfl,rfl⟩
   go_wp2_with fail
   refine HC2.out.mono ?_
   clear hrd rc rf qc qf HC2 HP HC
   rintro e w3 ⟨v,rfl,hcd,hrd,hx⟩
   clear bc bf bz bc2 bf2 bz2 lc lf lz
   dsimp only at hcd hrd
   replace hxa:=hxa.trans hx
   replace b1:=b1.extX hx (Ne.symm hne)
   replace bl:=bl.extX hx (Ne.symm hnl)
   obtain⟨vk,vn,vx,A,m,cp,rfl⟩:=hcd.cells
   have hgw3:=hrd.lt
   have lw3:w2.heap.size < w3.heap.size:=bl.lt
   have bc:=b1.cell;have bf:=b1.free;have bz:=b1.lt
   have lc:=bl.cell;have lf:=bl.free;have lz:=bl.lt
   have rc:=hrd.cell;have rf:=hrd.free
   have hz5:(w3.setCell ⟨w2.heap.size,3,none⟩ (.slice (some ⟨w3.heap.size,0,none⟩) 1 1)).heap.size=w3.heap.size:=by simp[World.setCell]
   have bN:=Blk.new (w3.setCell ⟨w2.heap.size,3,none⟩ (.slice (some ⟨w3.heap.size,0,none⟩) 1 1)) 52 #[.int .i64 vk,.string vn,.string vx,.slice A m cp]
   rw[hz5] at bN
   rw[World.size_alloc] at hcd
   have hcd5:=(hcd.set (p:=⟨w2.heap.size,3,none⟩) (Nat.lt_succ_self _) (.slice (some ⟨w3.heap.size,0,none⟩) 1 1)).ext ((Ext.refl _).alloc (.cells #[.int .i64 vk,.string vn,.string vx,.slice A m cp] 52))
   have hrd5:=(hrd.far (p:=⟨w2.heap.size,3,none⟩) hnl (.slice (some ⟨w3.heap.size,0,none⟩) 1 1)).alloc (.cells #[.int .i64 vk,.string vn,.string vx,.slice A m cp] 52)
   have hxa5:=(hxa.set2 (p:=⟨w2.heap.size,3,none⟩) hBw (.slice (some ⟨w3.heap.size,0,none⟩) 1 1)).alloc (.cells #[.int .i64 vk,.string vn,.string vx,.slice A m cp] 52)
   have b15:=(b1.far (p:=⟨w2.heap.size,3,none⟩) hnG (.slice (some ⟨w3.heap.size,0,none⟩) 1 1)).alloc (.cells #[.int .i64 vk,.string vn,.string vx,.slice A m cp] 52)
   have bl5:Blk _ _ _ #[.int .i64 8,.string ⟨#[]⟩,.string ⟨#[]⟩,(.slice (some ⟨w3.heap.size,0,none⟩) 1 1)]:=(bl.set 3 (.slice (some ⟨w3.heap.size,0,none⟩) 1 1)).alloc (.cells #[.int .i64 vk,.string vn,.string vx,.slice A m cp] 52)
   have ht:=take_V g s σ3 3 ⟨#[41]⟩ _ hrd5 hs hok2
   rw[show bs (⟨#[41]⟩:ByteArray)=[41] from rfl] at ht
   have hR3:=HR2.out
   generalize takeF s σ3 3 [41]=X at *
   obtain⟨y4,σ4⟩:=X
   dsimp only at ht hR3
   have HT:=Hy ht
   have HR3:=Hy hR3
   clear ht hR3 HR2
   go_wp2_with fail
   refine HT.out.mono ?_
   clear rc rf HT bc bf bz lc lf lz hrd
   rintro e w4 ⟨rfl,hrd,hx⟩
   replace hxa:=hxa5.trans hx
   replace b1:=b15.extX hx (Ne.symm hne)
   replace bl:=bl5.extX hx (Ne.symm hnl)
   replace bN:=bN.extX hx (show w3.heap.size≠g by omega)
   replace hcd:=(hcd5.extX hx (show g < w2.heap.size+1 by omega)).low (show w.heap.size+1<=w2.heap.size+1 by omega)
   have hone:=CdAt.one (k:=8) (n:=⟨#[]⟩) (x:=⟨#[]⟩) (cp:=1) (show w.heap.size+1<=w3.heap.size by omega) (bN.cell 0) (bN.cell 1) (bN.cell 2) (bN.cell 3) hcd
   have HONE:=Hy hone
   clear hone hxa5 b15 bl5 hrd5 hcd5
   have bc:=b1.cell;have bf:=b1.free;have bz:=b1.lt
   have lc:=bl.cell;have lf:=bl.free;have lz:=bl.lt
   go_wp2
   obtain rfl:=HR3.out
   exact bodyPost_ret (v:=.agg #[.int .i64 8,.string ⟨#[]⟩,.string ⟨#[]⟩,.slice (some ⟨w3.heap.size,0,none⟩) 1 1]) (by simp[results,Tryz.results169,go_sem,bc]) rfl ⟨_,rfl,cd_fin (B:=w.heap.size+1) (HONE.out) (by omega) hrd hxa hne⟩
  ·have hR:R=tailF s (condF s n) (condF s n σ1).1 (condF s n σ1).2:=by rw[HR.out,if_neg (by rw[hka];decide),if_neg (by rw[hko];decide)]
   have HRt:=Hy hR
   have hc2:=HC.out σ1 _ hrd ho1
   have hok2:=(condF_on n σ1).ok ho1
   clear hR HR hka hko HIS HAV
   generalize condF s n σ1=Y at *
   obtain⟨c0,σ2⟩:=Y
   dsimp only at hok2 HRt
   have HC2:=Hy hc2
   clear hc2
   go_wp2_with fail
   refine HC2.out.mono ?_
   clear hrd rc rf HC2
   rintro e w2 ⟨v,rfl,hcd,hrd,hx⟩
   dsimp only at hcd hrd
   clear bc bf bz
   replace hxa:=hxa.trans hx
   replace b1:=b1.extX hx (Ne.symm hne)
   obtain⟨vk,vn,vx,A,m,cp,rfl⟩:=hcd.cells
   have hgw2:=hrd.lt
   have hB2:w.heap.size < w2.heap.size:=b1.lt
   replace hrd:=(hrd.alloc (.cells #[.int .i64 vk,.string vn,.string vx,.slice A m cp] 52)).alloc (.cells #[.int .i64 0,.string ⟨#[]⟩,.string ⟨#[]⟩,.slice (some ⟨w2.heap.size,0,none⟩) 1 1] 52)
   replace hxa:=(hxa.alloc (.cells #[.int .i64 vk,.string vn,.string vx,.slice A m cp] 52)).alloc (.cells #[.int .i64 0,.string ⟨#[]⟩,.string ⟨#[]⟩,.slice (some ⟨w2.heap.size,0,none⟩) 1 1] 52)
   replace b1:=(b1.alloc (.cells #[.int .i64 vk,.string vn,.string vx,.slice A m cp] 52)).alloc (.cells #[.int .i64 0,.string ⟨#[]⟩,.string ⟨#[]⟩,.slice (some ⟨w2.heap.size,0,none⟩) 1 1] 52)
   have bA:=(Blk.new w2 52 #[.int .i64 vk,.string vn,.string vx,.slice A m cp]).alloc (.cells #[.int .i64 0,.string ⟨#[]⟩,.string ⟨#[]⟩,.slice (some ⟨w2.heap.size,0,none⟩) 1 1] 52)
   have bl:=Blk.new (w2.alloc (.cells #[.int .i64 vk,.string vn,.string vx,.slice A m cp] 52)) 52 #[.int .i64 0,.string ⟨#[]⟩,.string ⟨#[]⟩,.slice (some ⟨w2.heap.size,0,none⟩) 1 1]
   rw[World.size_alloc] at bl
   have rc:=hrd.cell;have rf:=hrd.free
   have HF:=Hy (fail_any g s σ2 σ2.a _ hrd)
   go_upto_region 18 with fail
   have hcdB:CdIn (fun b=>w1.heap.size<=b∧b < w2.heap.size) w2 c0 _:=hcd.imp fun b hb h=>⟨h,hb⟩
   have hWx:=hcdB.ext (((Ext.refl w2).alloc (.cells #[.int .i64 vk,.string vn,.string vx,.slice A m cp] 52)).alloc (.cells #[.int .i64 0,.string ⟨#[]⟩,.string ⟨#[]⟩,.slice (some ⟨w2.heap.size,0,none⟩) 1 1] 52))
   generalize ((w2.alloc (.cells #[.int .i64 vk,.string vn,.string vx,.slice A m cp] 52)).alloc (.cells #[.int .i64 0,.string ⟨#[]⟩,.string ⟨#[]⟩,.slice (some ⟨w2.heap.size,0,none⟩) 1 1] 52))=W3 at *
   obtain⟨fb,hfb⟩:∃ fb:Bool,fb=decide (σ2.wr < 0∧(σ2.k≠1∨(bs σ2.t≠wAnd∧bs σ2.t≠wOr))):=⟨_,rfl⟩
   have HFB:=Hy hfb
   clear hfb
   go_cut [79] (fun v wx=>v=.bool fb∧wx=W3)
   case first =>
    by_cases f1:σ2.wr < 0
    rotate_left
    ·obtain rfl:fb=false:=by rw[HFB.out];exact decide_eq_false fun h=>f1 h.1
     go_wp2_with fail
     go_meet
     case rel=>exact⟨rfl,rfl⟩
    by_cases f2:σ2.k=1
    rotate_left
    ·obtain rfl:fb=true:=by rw[HFB.out];exact decide_eq_true ⟨f1,.inl f2⟩
     have e2:(σ2.k != 1)=true:=by rw[bne_iff_ne];exact f2
     go_wp2_with fail
     go_meet
     case rel=>exact⟨rfl,rfl⟩
    have e2:(σ2.k != 1)=false:=by rw[f2];rfl
    by_cases f3:bs σ2.t=wAnd
    ·obtain rfl:fb=false:=by rw[HFB.out];exact decide_eq_false fun h=>h.2.elim (fun x=>x f2) (fun x=>x.1 f3)
     have e3:=lit_is f3
     clear f3
     go_wp2_with fail
     go_meet
     case rel=>exact⟨rfl,rfl⟩
    have e3:=lit_not f3
    by_cases f4:bs σ2.t=wOr
    ·obtain rfl:fb=false:=by rw[HFB.out];exact decide_eq_false fun h=>h.2.elim (fun x=>x f2) (fun x=>x.2 f4)
     have e4:=lit_is f4
     clear f3 f4
     go_wp2_with fail
     go_meet
     case rel=>exact⟨rfl,rfl⟩
    ·obtain rfl:fb=true:=by rw[HFB.out];exact decide_eq_true ⟨f1,.inr ⟨f3,f4⟩⟩
     have e4:=lit_not f4
     clear f3 f4
     go_wp2_with fail
     go_meet
     case rel=>exact⟨rfl,rfl⟩
   case rest =>
    obtain⟨rfl,hwc⟩:=hcut
    subst hwc
    obtain⟨W4,rfl⟩:∃ W4,W4=wc:=⟨_,rfl⟩
    go_upto_if 79 with fail
    go_cut [] (fun wx=>Rd wx g s (fixF σ2)∧ExtX g W4 wx)
    case first =>
     cases fb
     ·have hfix:fixF σ2=σ2:=by unfold fixF;rw[if_neg (of_decide_eq_false HFB.out.symm)]
      have HFX:=Hy hfix
      clear hfix
      go_wp2_with fail
      go_meet
      case rel=>rw[HFX.out];exact⟨hrd,ExtX.refl _ _⟩
     ·have hfix:fixF σ2=failF σ2 σ2.a:=by unfold fixF;rw[if_pos (of_decide_eq_true HFB.out.symm)]
      have HFX:=Hy hfix
      clear hfix
      go_wp2_with fail
      refine HF.out.mono ?_
      rintro e w4 ⟨rfl,hr4,hx4⟩
      go_wp2_with fail
      go_meet
      case rel=>rw[HFX.out];exact⟨hr4,hx4⟩
    case rest =>
     obtain⟨hr4,hx4⟩:=hcut
     have hok4:OkS s (fixF σ2):=(fixF_on σ2).ok hok2
     have z4:=hx4.size
     have hgw1:g < w1.heap.size:=by omega
     have bl4:=bl.extX hx4 (show w2.heap.size+1≠g by omega)
     have b14:=b1.extX hx4 (Ne.symm hne)
     have hw2L:w2.heap.size < w2.heap.size+1:=by omega
     generalize w2.heap.size+1=L at *
     have hr:=HRt.out
     unfold tailF at hr
     clear HFB HF HRt
     generalize fixF σ2=σ3 at *
     generalize σ2.t=tw at *
     have hko:=fun W=>kindOf_any tw W
     generalize kindOfL (bs tw)=K at *
     have HKO:=Hy hko
     obtain⟨LR,hLR⟩:∃ LR,loopF s (condF s n) (bs tw) (left s σ3) σ3 [c0]=LR:=⟨_,rfl⟩
     rw[hLR] at hr
     have HRR:=Hy hr
     have HLR:=Hy hLR
     clear hko hLR hr
     have hxa4:=hxa.trans hx4
     have hcd4:=(hWx.keep fun b o v hb e=>hx4.cell (by omega) e).imp (P':=fun b=>w1.heap.size<=b∧w2.heap.size≠b∧L≠b) fun b _ h=>⟨h.1,by omega,by omega⟩
     have bA4:=bA.extX hx4 (show w2.heap.size≠g by omega)
     have hgL:g≠L:=by omega
     have hwL:w.heap.size≠L:=by omega
     have hL1:w1.heap.size<=L:=by have:=hx.size;omega
     have hw21:w1.heap.size<=w2.heap.size:=hx.size
     have hown0:wc.ownsRow w1.heap.size 52 4 (.slice (some ⟨w2.heap.size,0,none⟩) 1 1) 1 [.int .i64 vk,.string vn,.string vx,.slice A m cp] :=
      ⟨rfl,.inr ⟨w2.heap.size,1,_,rfl,hw21,bA4,by omega,by decide,rfl,rfl⟩⟩
     have hrow0:CdRow (fun b=>w1.heap.size<=b∧w2.heap.size≠b∧L≠b) wc [c0] [.int .i64 vk,.string vn,.string vx,.slice A m cp]:=by
      exact CdRow.snoc (CdRow.nil _ _) hcd4
     have lc:=bl4.cell;have lf:=bl4.free;have lz:=bl4.lt
     go_wp2_with fail
     refine (HKO.out _).mono ?_
     rintro e w' ⟨rfl,rfl⟩
     go_wp2
     obtain⟨i0,hi0,hz0,hz1,hz2⟩:=info_parts info_cond
     go_loopw [] (fun wr=>∃ (τ:St) (l:List Cd) (N gR cR:Nat) (xs:List Value),l.length=N∧Rd wr g s τ∧OkS s τ∧ExtX g w wr∧Blk wr L 52 #[.int .i64 K,.string ⟨#[]⟩,.string ⟨#[]⟩,.slice (some ⟨gR,0,none⟩) N cR]∧Blk wr w.heap.size 52 #[.int .i64 0,.string ⟨#[]⟩,.string ⟨#[]⟩,.slice none 0 0] ∧
      wr.ownsRow w1.heap.size 52 4 (.slice (some ⟨gR,0,none⟩) N cR) N xs∧gR≠L∧CdRow (fun b=>w1.heap.size<=b∧gR≠b∧L≠b) wr l xs∧0 < N∧N+left s τ<=s.size+2∧loopF s (condF s n) (bs tw) (left s τ) τ l=LR) (fun wr=>leftOf g s.size wr)
     case atStart =>
      refine⟨σ3,[c0],1,w2.heap.size,1,_,rfl,hr4.far (p:=⟨L,0,none⟩) hgL _,hok4,hxa4.set2 (p:=⟨L,0,none⟩) (show w.heap.size<=L by omega) _,bl4.set 0 _,b14.far (p:=⟨L,0,none⟩) hwL _,hown0.kept (row:=some L) (grown_set _ _ _) (.inr ?_),by omega,hrow0.keep (fun _ _ h=>h) ?_,Nat.zero_lt_one,?_,HLR.out⟩
      ·simp only[Value.ownBlock,ne_eq,Option.some.injEq];omega
      ·rintro b o v hb ⟨_,_,h3⟩ e
       exact cell_set_far (Ne.symm h3) e
      ·unfold left;split<;>omega
     case round =>
      obtain⟨τ,l,N,gR,cR,xs,hN,hrd,hok,hxr,hbl,hb1,hown,hgRL,hrow,hl0,hbd,hlf⟩:=hrel
      have his:=is_any g s τ 1 tw wr hrd
      have hgR:=hown.lt gR rfl
      have HROW:=Hy hrow
      have HOWN:=Hy hown
      have HXR:=Hy hxr
      clear HLR hcdB hWx hcd4 hrow0 hown0 hxa4 hxa
      clear hrow hown hxr
      cases hi:isF τ 1 (bs tw)
      ·have hst:=loopF_stop (s:=s) (n:=n) (l:=l) hi
       rw[hlf] at hst
       rw[hi] at his
       have HIS:=Hy his
       have ht:=take_V g s τ 3 ⟨#[41]⟩ wr hrd hs hok
       rw[show bs (⟨#[41]⟩:ByteArray)=[41] from rfl] at ht
       have hrr:=HRR.out
       rw[hst] at hrr
       dsimp only at hrr
       generalize takeF s τ 3 [41]=X at *
       obtain⟨y7,τ7⟩:=X
       dsimp only at ht hrr
       have HT:=Hy ht
       have HRE:=Hy hrr
       clear ht hrr his hlf hst hi HRR
       have rc:=hrd.cell;have rf:=hrd.free
       go_wp2_with fail
       refine HIS.out.mono ?_
       rintro e w' ⟨rfl,rfl⟩
       go_wp2_with fail
       refine HT.out.mono ?_
       clear hrd rc rf HT
       rintro e w7 ⟨rfl,hrd,hx7⟩
       have b17:=hb1.extX hx7 (Ne.symm hne)
       have bl7:=hbl.extX hx7 (Ne.symm hgL)
       have hfin:CdAt (w.heap.size+1) w7 (.mk K ⟨#[]⟩ ⟨#[]⟩ l) (.agg #[.int .i64 K,.string ⟨#[]⟩,.string ⟨#[]⟩,.slice (some ⟨gR,0,none⟩) N cR]):=by
        subst hN
        have hr7:CdRow (fun b=>w.heap.size+1<=b) w7 l xs:=HROW.out.keep (fun b _ h=>by omega) fun b o v _ h e=>hx7.cell (by omega) e
        refine CdIn.ofRow hr7 K _ _ (b:=gR) (fun _=>rfl) (fun _=>by omega) fun j u hu=>?_
        have hj:j < xs.length:=by
         apply Classical.byContradiction
         intro hn
         rw[List.getElem?_eq_none (by omega)] at hu
         cases hu
        rw[HROW.out.len] at hj
        exact hx7.cell (by omega) ((HOWN.out.cellAt j hj).trans hu)
       have HFIN:=Hy hfin
       clear hfin
       have hxa:=HXR.out.trans hx7
       have bc:=b17.cell;have bf:=b17.free;have bz:=b17.lt
       have lc:=bl7.cell;have lf:=bl7.free;have lz:=bl7.lt
       go_wp2
       obtain rfl:=HRE.out
       exact bodyPost_ret (v:=.agg #[.int .i64 K,.string ⟨#[]⟩,.string ⟨#[]⟩,.slice (some ⟨gR,0,none⟩) N cR]) (by simp[results,Tryz.results169,go_sem,bc]) rfl ⟨_,rfl,cd_fin (B:=w.heap.size+1) HFIN.out (by omega) hrd hxa hne⟩
      ·have hstep:=loopF_step (n:=n) (l:=l) hok hi
       rw[hlf] at hstep
       have hlt:=left_lt (n:=n) hok hi
       have hoka:=advF_ok hok
       have hav:=advance_any g s τ wr hrd hs hok.p
       have hc2:=HC.out (advF s τ)
       have hok7:=(condF_on n (advF s τ)).ok hoka
       generalize advF s τ=τ1 at *
       generalize condF s n τ1=Y at *
       obtain⟨d,τ2⟩:=Y
       dsimp only at hstep hlt hok7
       rw[hi] at his
       have HIS:=Hy his
       have HAV:=Hy hav
       have HC2:=Hy hc2
       have HST:=Hy hstep
       have HMZ:=Hy (leftOf_rd hrd)
       have hNs:N<=2097154:=by omega
       clear his hav hc2 hstep hlf hi HRR
       have rc:=hrd.cell;have rf:=hrd.free
       go_wp2_with fail
       refine HIS.out.mono ?_
       rintro e w' ⟨rfl,rfl⟩
       go_wp2_with fail
       refine HAV.out.mono ?_
       clear hrd rc rf HAV HIS
       rintro e w5 ⟨rfl,hrd5,hx5⟩
       have b15:=hb1.extX hx5 (Ne.symm hne)
       have bl5:=hbl.extX hx5 (Ne.symm hgL)
       have HRD5:=Hy hrd5
       have hL5:=bl5.lt
       have hLw:=hbl.lt
       have lc:=bl5.cell;have lf:=bl5.free
       clear hrd5
       go_wp2_with fail
       have cL:w5.cell? ⟨L,3,none⟩=some (.slice (some ⟨gR,0,none⟩) N cR):=lc 3
       have fL:w5.frozen? ⟨L,3,none⟩=false:=lf 3
       have nLg:L≠g:=Ne.symm hgL
       have hneL:some L≠(Value.slice (some ⟨gR,0,none⟩) N cR).ownBlock:=by simp only[Value.ownBlock,ne_eq,Option.some.injEq];omega
       have hneG:some g≠(Value.slice (some ⟨gR,0,none⟩) N cR).ownBlock:=by simp only[Value.ownBlock,ne_eq,Option.some.injEq];omega
       have hneW:some w.heap.size≠(Value.slice (some ⟨gR,0,none⟩) N cR).ownBlock:=by simp only[Value.ownBlock,ne_eq,Option.some.injEq];omega
       have HNL:=Hy hneL;have HNG:=Hy hneG;have HNW:=Hy hneW
       clear hneL hneG hneW
       clear lc lf
       go_region_law ((first
        | (refine step_append_lies _ (by rfl) _ _ _ (by rfl) w1.heap.size 52 i0 _ 4 64 Tryz.underlying50 hi0 hz0 hz1 hz2 rfl (by omega) (.slice (some ⟨gR,0,none⟩) N cR) N xs (by rfl) (hown6.alloc _) ⟨w6.heap.size,0,none⟩ 1 1 [.int .i64 ck,.string cn,.string cx,.slice cA cm ccp] (by rfl) (by rfl) (World.news_of_block (cs:=#[.int .i64 ck,.string cn,.string cx,.slice cA cm ccp]) (t:=52) (fr:=(0,0)) (heap_alloc_new w6 _)) (by simp[Value.oneCell']) (by omega) (by simp only[maxLen];omega) (by omega) (by rw[World.size_alloc];omega) (w6.heap.size+1) (by simp) ?_;intro gN cN w7 hown7 hgrow hat hlt7;have bl7:=(bl6.alloc (.cells #[.int .i64 ck,.string cn,.string cx,.slice cA cm ccp] 52)).grownR hgrow HNL.out;have cL7:=bl7.cell 3;have fL7:=bl7.free 3)
        | (go_simp;go_at_call 99;refine (HC2.out _ ?_ hoka).mono ?_;(next=>exact HRD5.out.ext Ext.au);rintro e w6 ⟨vv,rfl,hcd6,hrd6,hx6⟩;(obtain⟨ck,cn,cx,cA,cm,ccp,rfl⟩:=hcd6.cells);have bl6:=(bl5.ext Ext.au).extX hx6 nLg;have cL6:=bl6.cell 3;have fL6:=bl6.free 3;have zL6:=bl6.lt;have hown6:=own_extX (own_ext (own_extX HOWN.out hx5 hgw1) Ext.au) hx6 hgw1)))
       all_goals
        have hrd7:=(hrd6.alloc (.cells #[.int .i64 ck,.string cn,.string cx,.slice cA cm ccp] 52)).grownR hgrow HNG.out
        have b17:=(((b15.ext Ext.au).extX hx6 (Ne.symm hne)).alloc (.cells #[.int .i64 ck,.string cn,.string cx,.slice cA cm ccp] 52)).grownR hgrow HNW.out
        have hx5d:=hx5.trans (ExtX.ofExt ((Ext.refl w5).drew))
        have hrow7:=row_grow hgw1 HOWN.out HROW.out hLw hx5d hx6 hcd6 hgrow hat
        have hx7:=((HXR.out.trans (hx5d.trans hx6)).alloc (.cells #[.int .i64 ck,.string cn,.string cx,.slice cA cm ccp] 52)).grown hgrow (show w.heap.size<=gR by omega)
        have hgNL:gN≠L:=by
         rcases hat with h|h
         ·have h:some gR=some gN:=h
          injection h with h
          omega
         ·omega
        have hrd8:=hrd7.far (p:=⟨L,3,none⟩) hgL (.slice (some ⟨gN,0,none⟩) (N+1) cN)
        have HRD8:=Hy hrd8
        have HB1:=Hy b17
        have HROW7:=Hy hrow7
        have HX7:=Hy hx7
        have HOWN7:=Hy hown7
        have HBL7:=Hy bl7
        clear hrd8 hrd7 hrow7 hx7 hown7 b17 hx5d hat
        go_wp2
        go_roundw
        case rel =>
         refine⟨τ2,l++[d],N+1,gN,cN,_,by rw[List.length_append,hN];rfl,HRD8.out,hok7,HX7.out.set2 (p:=⟨L,3,none⟩) (show w.heap.size<=L by omega) _,HBL7.out.set 3 _,HB1.out.far (p:=⟨L,3,none⟩) hwL _,HOWN7.out.kept (row:=some L) (grown_set _ _ _) (.inr ?_),hgNL,HROW7.out.keep (fun _ _ h=>h) ?_,Nat.succ_pos _,by omega,HST.out.symm⟩
         ·simp only[Value.ownBlock,ne_eq,Option.some.injEq];omega
         ·rintro b o v hb ⟨_,_,h3⟩ e
          exact cell_set_far (Ne.symm h3) e
        case measure =>
         rw[leftOf_rd HRD8.out,HMZ.out]
         exact hlt
end Go.Proofs.YtmnafaaijglnfaaGreatDoor
