/- Contract of the reference's reading of one condition, given what it calls. (Printed by gen/cndq.py.) -/
import Derived.Test.YtmnafaaijglnfaaGreatDoorFr14
import Derived.Deep.DeepCutAuto
namespace Go.Proofs.YtmnafaaijglnfaaGreatDoor
open Go.RowKit
def CrPost (g b:Nat) (W:List Wd) (w:World) (r:Cd × Rs) (e:Ending) (w':World):Prop:=∃ v,e=.returned v∧CdAt w.heap.size w' r.1 v∧RdR w' g b W r.2∧ExtX g w w'
theorem cdr_fin {g b:Nat} {W:List Wd} {w w1:World} {r:Cd × Rs} {k:Int} {n x:ByteArray} {A:Option Addr} {m cp B:Nat} (hcd:CdAt B w1 r.1 (.agg #[.int .i64 k,.string n,.string x,.slice A m cp])) (hB:w.heap.size < B) (hrd:RdR w1 g b W r.2) (hx:ExtX g w w1) (hne:g≠w.heap.size) (hbe:b≠w.heap.size) :
 CdAt w.heap.size ((((w1.setCell ⟨w.heap.size,0,none⟩ (.int .i64 k)).setCell ⟨w.heap.size,1,none⟩ (.string n)).setCell ⟨w.heap.size,2,none⟩ (.string x)).setCell ⟨w.heap.size,3,none⟩ (.slice A m cp)) r.1 (.agg #[.int .i64 k,.string n,.string x,.slice A m cp])
 ∧ RdR ((((w1.setCell ⟨w.heap.size,0,none⟩ (.int .i64 k)).setCell ⟨w.heap.size,1,none⟩ (.string n)).setCell ⟨w.heap.size,2,none⟩ (.string x)).setCell ⟨w.heap.size,3,none⟩ (.slice A m cp)) g b W r.2∧ExtX g w ((((w1.setCell ⟨w.heap.size,0,none⟩ (.int .i64 k)).setCell ⟨w.heap.size,1,none⟩ (.string n)).setCell ⟨w.heap.size,2,none⟩ (.string x)).setCell ⟨w.heap.size,3,none⟩ (.slice A m cp)) :=
 ⟨((((hcd.set hB _).set hB _).set hB _).set hB _).low (Nat.le_of_lt hB),(((hrd.far hne hbe _).far hne hbe _).far hne hbe _).far hne hbe _,
   (((hx.set2 (p:=⟨w.heap.size,0,none⟩) (Nat.le_refl _) _).set2 (p:=⟨w.heap.size,1,none⟩) (Nat.le_refl _) _).set2 (p:=⟨w.heap.size,2,none⟩) (Nat.le_refl _) _).set2 (p:=⟨w.heap.size,3,none⟩) (Nat.le_refl _) _⟩
theorem cdr_one {g b:Nat} {W:List Wd} {w w2:World} {r:Cd × Rs} {k k2:Int} {n x n2 x2:ByteArray} {A:Option Addr} {m cp cp2:Nat} (hcd:CdAt (w.heap.size+1) w2 r.1 (.agg #[.int .i64 k2,.string n2,.string x2,.slice A m cp2])) (hB:w.heap.size+1<=w2.heap.size) (hrd:RdR w2 g b W r.2) (hx:ExtX g w w2) (hne:g≠w.heap.size) (hbe:b≠w.heap.size) :
 CdAt w.heap.size (((((w2.setCell ⟨w.heap.size,0,none⟩ (.int .i64 k)).setCell ⟨w.heap.size,1,none⟩ (.string n)).setCell ⟨w.heap.size,2,none⟩ (.string x)).setCell ⟨w.heap.size,3,none⟩ (.slice (some ⟨w2.heap.size,0,none⟩) 1 cp)).alloc (.cells #[.int .i64 k2,.string n2,.string x2,.slice A m cp2] 52)) (.mk k n x [r.1]) (.agg #[.int .i64 k,.string n,.string x,.slice (some ⟨w2.heap.size,0,none⟩) 1 cp])
 ∧ RdR (((((w2.setCell ⟨w.heap.size,0,none⟩ (.int .i64 k)).setCell ⟨w.heap.size,1,none⟩ (.string n)).setCell ⟨w.heap.size,2,none⟩ (.string x)).setCell ⟨w.heap.size,3,none⟩ (.slice (some ⟨w2.heap.size,0,none⟩) 1 cp)).alloc (.cells #[.int .i64 k2,.string n2,.string x2,.slice A m cp2] 52)) g b W r.2
 ∧ ExtX g w (((((w2.setCell ⟨w.heap.size,0,none⟩ (.int .i64 k)).setCell ⟨w.heap.size,1,none⟩ (.string n)).setCell ⟨w.heap.size,2,none⟩ (.string x)).setCell ⟨w.heap.size,3,none⟩ (.slice (some ⟨w2.heap.size,0,none⟩) 1 cp)).alloc (.cells #[.int .i64 k2,.string n2,.string x2,.slice A m cp2] 52)):=by
 have hl:w.heap.size < w.heap.size+1:=Nat.lt_succ_self _
 have h4:=(((hcd.set (p:=⟨w.heap.size,0,none⟩) hl (.int .i64 k)).set (p:=⟨w.heap.size,1,none⟩) hl (.string n)).set (p:=⟨w.heap.size,2,none⟩) hl (.string x)).set (p:=⟨w.heap.size,3,none⟩) hl (.slice (some ⟨w2.heap.size,0,none⟩) 1 cp)
 have hr4:=(((hrd.far (p:=⟨w.heap.size,0,none⟩) hne hbe (.int .i64 k)).far (p:=⟨w.heap.size,1,none⟩) hne hbe (.string n)).far (p:=⟨w.heap.size,2,none⟩) hne hbe (.string x)).far (p:=⟨w.heap.size,3,none⟩) hne hbe (.slice (some ⟨w2.heap.size,0,none⟩) 1 cp)
 have hx4:=(((hx.set2 (p:=⟨w.heap.size,0,none⟩) (Nat.le_refl _) (.int .i64 k)).set2 (p:=⟨w.heap.size,1,none⟩) (Nat.le_refl _) (.string n)).set2 (p:=⟨w.heap.size,2,none⟩) (Nat.le_refl _) (.string x)).set2 (p:=⟨w.heap.size,3,none⟩) (Nat.le_refl _) (.slice (some ⟨w2.heap.size,0,none⟩) 1 cp)
 have hz:((((w2.setCell ⟨w.heap.size,0,none⟩ (.int .i64 k)).setCell ⟨w.heap.size,1,none⟩ (.string n)).setCell ⟨w.heap.size,2,none⟩ (.string x)).setCell ⟨w.heap.size,3,none⟩ (.slice (some ⟨w2.heap.size,0,none⟩) 1 cp)).heap.size=w2.heap.size:=by simp[World.setCell]
 generalize ((((w2.setCell ⟨w.heap.size,0,none⟩ (.int .i64 k)).setCell ⟨w.heap.size,1,none⟩ (.string n)).setCell ⟨w.heap.size,2,none⟩ (.string x)).setCell ⟨w.heap.size,3,none⟩ (.slice (some ⟨w2.heap.size,0,none⟩) 1 cp))=V at *
 have bN:=Blk.new V 52 #[.int .i64 k2,.string n2,.string x2,.slice A m cp2]
 rw[hz] at bN
 exact⟨.one (by omega) (bN.cell 0) (bN.cell 1) (bN.cell 2) (bN.cell 3) ((h4.low (by omega)).ext ((Ext.refl V).alloc _)),hr4.alloc _,hx4.alloc _⟩
theorem field_t (d:Wd) (w:World):(Instr.field 158 (wdV d) 0).run Tryz.prog w=.ok (.string d.t) w:=by kernel_rfl
theorem field_v (d:Wd) (w:World):(Instr.field 158 (wdV d) 3).run Tryz.prog w=.ok (.string d.v) w:=by kernel_rfl
def notB (τ:Rs) (n:Nat):Prop:=∀ x∈([wAlways,wFact,wSetting,wHas,wVersion,wNot]:List Str).take n,isR τ 119 x=false
theorem notB_zero (τ:Rs):notB τ 0:=fun x hx=>absurd hx (by simp)
theorem notB_at {τ:Rs} {n:Nat} (h:notB τ n) {x:Str} (hx:x∈([wAlways,wFact,wSetting,wHas,wVersion,wNot]:List Str).take n):¬ isR τ 119 x=true:=by rw[h x hx];decide
set_option maxRecDepth 100000 in
set_option maxHeartbeats 16000000 in
theorem condR_step (g b:Nat) (W:List Wd) (hW:LastE W) (lev:Nat) (fr:Option (Rs->Cd × Rs)) (hlev:lev<=100) (hl0:fr=none->lev=100) (hl1:∀ f,fr=some f->lev < 100)
 (hgroup:∀ f,fr=some f->∀ τ w,RdR w g b W τ->Calls Tryz.prog 178 #[.pointer (some ⟨g,0,none⟩),.int .i64 ((lev+1:Nat):Int)] w (CrPost g b W w (groupR f τ)))
 (hcond:∀ f,fr=some f->∀ τ w,RdR w g b W τ->Calls Tryz.prog 103 #[.pointer (some ⟨g,0,none⟩),.int .i64 ((lev+1:Nat):Int)] w (CrPost g b W w (f τ)))
 (τ:Rs) (w:World) (h:RdR w g b W τ) :
 Calls Tryz.prog 103 #[.pointer (some ⟨g,0,none⟩),.int .i64 lev] w (CrPost g b W w (condR fr τ)):=by
 have hgw:=h.lt
 have hbw:=h.wds.lt
 have hne:g≠w.heap.size:=by omega
 have hbe:b≠w.heap.size:=by omega
 have hbg:b≠g:=h.ne
 have hr0:=h.alloc (.cells #[.int .i64 0,.string ⟨#[]⟩,.string ⟨#[]⟩,.slice none 0 0] 52)
 have b0:=Blk.new w 52 #[.int .i64 0,.string ⟨#[]⟩,.string ⟨#[]⟩,.slice none 0 0]
 have hx0:ExtX g w (w.alloc (.cells #[.int .i64 0,.string ⟨#[]⟩,.string ⟨#[]⟩,.slice none 0 0] 52)):=(ExtX.refl g w).alloc _
 have hlw:IntKind.i64.wrap ((lev:Int)+1)=(lev:Int)+1:=by rw[IntKind.wrap_i64];omega
 have his:=fun k t=>isR_any g b W τ k t _ hr0
 have h40:=his 40 ⟨#[]⟩
 have hnot:=his 119 ⟨#[110,111,116]⟩
 rw[show bs (⟨#[]⟩:ByteArray)=[] from rfl] at h40
 rw[show bs (⟨#[110,111,116]⟩:ByteArray)=wNot from rfl] at hnot
 have HH:=Hy h
 obtain⟨j,cp,m,_,_,_,hm,hmc,hb,c0,c1,c2,c3⟩:=h.opened
 have hm2:(0:Int) < m:=by omega
 have rc:=hb.cell;have rf:=hb.free
 have H40:=Hy h40
 have HNOT:=Hy hnot
 clear h40 hnot h hb
 cases hv40:isR τ 40 []
 rotate_left
 ·have h41:=H40.out
  rw[hv40] at h41
  have H41:=Hy h41
  clear h41 H40
  cases fr with
  | none =>
    have hlv:=hl0 rfl
    skip
    have hR:condR none τ=(zeroC,⟨τ.l,τ.hd.a⟩):=by unfold condR;dsimp only;rw[if_pos (.inl hv40)]
    rw[hR]
    have hdd:((lev:Int)==100)=true:=by rw[beq_iff_eq];omega
    clear hR his hgroup hcond hl0 hl1 hr0
    clear hv40
    go_enter Tryz.func103,Tryz.ntmps103
    go_wp2_with fail
    refine H41.out.mono ?_
    rintro e w' ⟨rfl,rfl⟩
    go_wp2
    exact bodyPost_ret (v:=.agg #[.int .i64 0,.string ⟨#[]⟩,.string ⟨#[]⟩,.slice none 0 0]) (by simp[results,Tryz.results103,go_sem]) rfl ⟨_,rfl,CdAt.leaf _ _ _ _ _,(HH.out.setBad _).alloc _,((ExtX.refl g w).setG _ _).alloc _⟩
  | some f =>
    have hlv:=hl1 f rfl
    have hR:condR (some f) τ=groupR f τ:=by unfold condR;dsimp only;rw[if_pos hv40]
    rw[hR]
    have hdd:((lev:Int)==100)=false:=by rw[beq_eq_false_iff_ne];omega
    have hg:=hgroup f rfl τ _ hr0
    rw[show ((lev+1:Nat):Int)=(lev:Int)+1 by omega] at hg
    have HG:=Hy hg
    clear hR his hgroup hcond hl0 hl1 hv40 hg hr0 rc rf c0 c1 c2 c3
    go_enter Tryz.func103,Tryz.ntmps103
    go_wp2_with fail
    refine H41.out.mono ?_
    rintro e w' ⟨rfl,rfl⟩
    go_wp2_with fail
    refine H41.out.mono ?_
    rintro e w' ⟨rfl,rfl⟩
    go_wp2_with fail
    refine HG.out.mono ?_
    rintro e w1 ⟨v,rfl,hcd,hrd,hx⟩
    obtain⟨k,n,x,A,m,cp,rfl⟩:=hcd.cells
    have b1:=b0.extX hx (Ne.symm hne)
    have bc:=b1.cell;have bf:=b1.free;have bz:=b1.lt
    go_wp2
    exact bodyPost_ret (v:=.agg #[.int .i64 k,.string n,.string x,.slice A m cp]) (by simp[results,Tryz.results103,go_sem,bc]) rfl ⟨_,rfl,cdr_fin hcd (by rw[World.size_alloc];omega) hrd (hx0.trans hx) hne hbe⟩
 have h41:=H40.out
 rw[hv40] at h41
 have H41:=Hy h41
 clear h41 H40
 obtain⟨vn,hvn⟩:∃ vn,isR τ 119 wNot=vn:=⟨_,rfl⟩
 have hnot:=HNOT.out
 rw[hvn] at hnot
 have HNV:=Hy hnot
 clear hnot HNOT
 by_cases hE:fr=none∧vn=true
 ·obtain⟨rfl,rfl⟩:=hE
  have hlv:=hl0 rfl
  skip
  have hR:condR none τ=(zeroC,⟨τ.l,τ.hd.a⟩):=by unfold condR;dsimp only;rw[if_pos (.inr hvn)]
  rw[hR]
  have hdd:((lev:Int)==100)=true:=by rw[beq_iff_eq];omega
  clear hR his hgroup hcond hl0 hl1 hr0
  clear hv40 hvn
  go_enter Tryz.func103,Tryz.ntmps103
  go_wp2_with fail
  refine H41.out.mono ?_
  rintro e w' ⟨rfl,rfl⟩
  go_wp2_with fail
  refine HNV.out.mono ?_
  rintro e w' ⟨rfl,rfl⟩
  go_wp2
  exact bodyPost_ret (v:=.agg #[.int .i64 0,.string ⟨#[]⟩,.string ⟨#[]⟩,.slice none 0 0]) (by simp[results,Tryz.results103,go_sem]) rfl ⟨_,rfl,CdAt.leaf _ _ _ _ _,(HH.out.setBad _).alloc _,((ExtX.refl g w).setG _ _).alloc _⟩
 have hR:condR fr τ=condR.restR fr τ:=by
  unfold condR
  cases fr with
  | none =>
    have hvf:vn=false:=by
     cases vn
     ·rfl
     ·exact absurd ⟨rfl,rfl⟩ hE
    dsimp only
    rw[if_neg (by rw[hv40,hvn,hvf];decide)]
  | some f=>dsimp only;rw[if_neg (by rw[hv40];decide)]
 obtain⟨R,hRR⟩:∃ R,R=condR.restR fr τ:=⟨_,rfl⟩
 rw[hR,<-hRR]
 unfold condR.restR at hRR
 have HR:=Hy hRR
 have hdd:vn=true->((lev:Int)==100)=false:=fun hv=>by
  rw[beq_eq_false_iff_ne]
  cases fr with
  | none=>exact absurd ⟨rfl,hv⟩ hE
  | some f=>have:=hl1 f rfl;omega
 have HDD:=Hy hdd
 have HE:=Hy hE
 have HVN:=Hy hvn
 clear hR hRR hv40 hdd hE hvn
 go_enter Tryz.func103,Tryz.ntmps103
 go_upto_region 1 with fail
 go_cut [17] (fun v wx=>v=.bool false∧wx=w.alloc (.cells #[.int .i64 0,.string ⟨#[]⟩,.string ⟨#[]⟩,.slice none 0 0] 52))
 case first =>
  go_wp2_with fail
  refine H41.out.mono ?_
  rintro e w' ⟨rfl,rfl⟩
  cases vn
  ·go_wp2_with fail
   refine HNV.out.mono ?_
   rintro e w' ⟨rfl,rfl⟩
   go_wp2_with fail
   go_meet
   case rel=>exact⟨rfl,rfl⟩
  ·have hd2:=HDD.out rfl
   go_wp2_with fail
   refine HNV.out.mono ?_
   rintro e w' ⟨rfl,rfl⟩
   go_wp2_with fail
   go_meet
   case rel=>exact⟨rfl,rfl⟩
 case rest =>
  obtain⟨rfl,rfl⟩:=hcut
  go_wp2_with fail
  refine H41.out.mono ?_
  rintro e w' ⟨rfl,rfl⟩
  go_wp2_with fail
  obtain⟨W0,hW0⟩:∃ W0,(w.alloc (.cells #[.int .i64 0,.string ⟨#[]⟩,.string ⟨#[]⟩,.slice none 0 0] 52)).alloc (.cells #[.string ⟨#[97,108,119,97,121,115]⟩,.string ⟨#[102,97,99,116]⟩,.string ⟨#[115,101,116,116,105,110,103]⟩,.string ⟨#[104,97,115]⟩,.string ⟨#[118,101,114,115,105,111,110]⟩,.string ⟨#[110,111,116]⟩] 9)=W0:=⟨_,rfl⟩
  have hW1:Ext (w.alloc (.cells #[.int .i64 0,.string ⟨#[]⟩,.string ⟨#[]⟩,.slice none 0 0] 52)) W0:=by rw[<-hW0];exact (Ext.refl _).alloc _
  have bw:Blk W0 (w.heap.size+1) 9 #[.string ⟨#[97,108,119,97,121,115]⟩,.string ⟨#[102,97,99,116]⟩,.string ⟨#[115,101,116,116,105,110,103]⟩,.string ⟨#[104,97,115]⟩,.string ⟨#[118,101,114,115,105,111,110]⟩,.string ⟨#[110,111,116]⟩]:=by
   rw[<-hW0]
   have:=Blk.new (w.alloc (.cells #[.int .i64 0,.string ⟨#[]⟩,.string ⟨#[]⟩,.slice none 0 0] 52)) 9 #[.string ⟨#[97,108,119,97,121,115]⟩,.string ⟨#[102,97,99,116]⟩,.string ⟨#[115,101,116,116,105,110,103]⟩,.string ⟨#[104,97,115]⟩,.string ⟨#[118,101,114,115,105,111,110]⟩,.string ⟨#[110,111,116]⟩]
   rwa [World.size_alloc] at this
  rw[hW0]
  have hz0:W0.heap.size=w.heap.size+2:=by rw[<-hW0,World.size_alloc,World.size_alloc]
  have hr1:=hr0.ext hW1
  have hxa:=hx0.trans (ExtX.ofExt hW1)
  have b1:=b0.ext hW1
  have HIS:=Hy (fun k t=>isR_any g b W τ k t _ hr1)
  have HNX:=Hy (fun t=>nextR_any g b W hW τ 119 t _ hr1)
  have HC:=Hy hcond
  have HL0:=Hy hl0
  have HZ0:=Hy hz0
  have H1:=Hy hl1
  have hBW:w.heap.size+1<=W0.heap.size:=by omega
  clear hz0 hcond his hgroup hl0 hl1 hr0 hx0 b0 H41 HNV HDD hW0 hW1 rc rf c0 c1 c2 c3
  have wc:=bw.cell
  have bwz:=bw.lt
  go_loop [37] (fun t=>(t=.int .i64 0∧notB τ 0)∨(t=.int .i64 1∧notB τ 1)∨(t=.int .i64 2∧notB τ 2)∨(t=.int .i64 3∧notB τ 3)∨(t=.int .i64 4∧notB τ 4)∨(t=.int .i64 5∧notB τ 5)∨(t=.int .i64 6∧notB τ 6)) (fun t=>6 - (intOf t).toNat)
  case atStart=>exact .inl ⟨rfl,notB_zero τ⟩
  case round =>
   rcases hrel with ⟨rfl,hnb⟩|⟨rfl,hnb⟩|⟨rfl,hnb⟩|⟨rfl,hnb⟩|⟨rfl,hnb⟩|⟨rfl,hnb⟩|⟨rfl,hnb⟩
   ·have hi:=HIS.out 119 ⟨#[97,108,119,97,121,115]⟩
    rw[show bs (⟨#[97,108,119,97,121,115]⟩:ByteArray)=wAlways from rfl] at hi
    cases hw:isR τ 119 wAlways
    ·rw[hw] at hi
     have HI:=Hy hi
     have hnext:notB τ 1:=by
      unfold notB at hnb ⊢
      simp only[List.take_succ_cons,List.take_zero,List.forall_mem_cons] at hnb ⊢
      simp[hw]
     have HNB:=Hy hnext
     clear hi hw hnext hnb
     go_wp2_with fail
     refine HI.out.mono ?_
     rintro e w' ⟨rfl,rfl⟩
     go_wp2
     go_round
     case rel=>refine .inr (.inl ⟨by go_num,?_⟩);first|exact HNB.out|trivial
     case measure=>simp[intOf]
    rw[hw] at hi
    have HI:=Hy hi
    have hR:=HR.out
    rw[if_pos hw] at hR
    have hnx:=HNX.out ⟨#[97,108,119,97,121,115]⟩
    rw[show bs (⟨#[97,108,119,97,121,115]⟩:ByteArray)=wAlways from rfl] at hnx
    generalize nextR τ 119 wAlways=X at *
    obtain⟨d1,τ1⟩:=X
    dsimp only at hnx hR
    skip
    have HT:=Hy hnx
    have HRa:=Hy hR
    skip
    clear hnx hR hi hw hnb HR
    go_wp2_with fail
    refine HI.out.mono ?_
    rintro e w' ⟨rfl,rfl⟩
    go_wp2_with fail
    refine HT.out.mono ?_
    clear HT HI
    rintro e v1 ⟨rfl,hrd,hx⟩
    have hR:=HRa.out
    clear HRa
    replace hxa:=hxa.trans hx
    replace b1:=b1.extX hx (Ne.symm hne)
    have bc:=b1.cell;have bf:=b1.free;have bz:=b1.lt
    clear bw wc bwz hr1
    have hfin:=cdr_fin (w:=w) (w1:=v1) (r:=(.mk 1 ⟨#[]⟩ ⟨#[]⟩ [],τ1)) (B:=w.heap.size+1) (CdAt.leaf _ _ _ _ _) (by omega) hrd hxa hne hbe
    have HFIN:=Hy hfin
    clear hfin
    have bl:=Blk.new v1 52 #[.int .i64 1,.string ⟨#[]⟩,.string ⟨#[]⟩,.slice none 0 0]
    have hgl:g < v1.heap.size:=hrd.lt
    have hbl:b < v1.heap.size:=hrd.wds.lt
    have hnl:g≠v1.heap.size:=by omega
    have hnb2:b≠v1.heap.size:=by omega
    have hB2:w.heap.size < v1.heap.size:=b1.lt
    have hnG:w.heap.size≠v1.heap.size:=by omega
    have hB3:w.heap.size<=v1.heap.size:=by omega
    replace hrd:=hrd.alloc (.cells #[.int .i64 1,.string ⟨#[]⟩,.string ⟨#[]⟩,.slice none 0 0] 52)
    replace hxa:=hxa.alloc (.cells #[.int .i64 1,.string ⟨#[]⟩,.string ⟨#[]⟩,.slice none 0 0] 52)
    replace b1:=b1.alloc (.cells #[.int .i64 1,.string ⟨#[]⟩,.string ⟨#[]⟩,.slice none 0 0] 52)
    have lc:=bl.cell;have lf:=bl.free;have lz:=bl.lt
    have HRz:=Hy hR
    clear hR
    go_wp2
    obtain rfl:=HRz.out
    exact bodyPost_ret (v:=.agg #[.int .i64 1,.string ⟨#[]⟩,.string ⟨#[]⟩,.slice none 0 0]) (by simp[results,Tryz.results103,go_sem,bc,bz]) rfl ⟨_,rfl,HFIN.out.1.ext ((Ext.refl _).alloc _),HFIN.out.2.1.alloc _,HFIN.out.2.2.alloc _⟩
   ·have hi:=HIS.out 119 ⟨#[102,97,99,116]⟩
    rw[show bs (⟨#[102,97,99,116]⟩:ByteArray)=wFact from rfl] at hi
    cases hw:isR τ 119 wFact
    ·rw[hw] at hi
     have HI:=Hy hi
     have hnext:notB τ 2:=by
      unfold notB at hnb ⊢
      simp only[List.take_succ_cons,List.take_zero,List.forall_mem_cons] at hnb ⊢
      simp[hnb,hw]
     have HNB:=Hy hnext
     clear hi hw hnext hnb
     go_wp2_with fail
     refine HI.out.mono ?_
     rintro e w' ⟨rfl,rfl⟩
     go_wp2
     go_round
     case rel=>refine .inr (.inr (.inl ⟨by go_num,?_⟩));first|exact HNB.out|trivial
     case measure=>simp[intOf]
    rw[hw] at hi
    have HI:=Hy hi
    have hR:=HR.out
    rw[if_neg (notB_at hnb (x:=wAlways) (by simp))] at hR
    rw[if_pos hw] at hR
    have hnx:=HNX.out ⟨#[102,97,99,116]⟩
    rw[show bs (⟨#[102,97,99,116]⟩:ByteArray)=wFact from rfl] at hnx
    generalize nextR τ 119 wFact=X at *
    obtain⟨d1,τ1⟩:=X
    dsimp only at hnx hR
    unfold pairR at hR
    have HT:=Hy hnx
    have HRa:=Hy hR
    skip
    clear hnx hR hi hw hnb HR
    go_wp2_with fail
    refine HI.out.mono ?_
    rintro e w' ⟨rfl,rfl⟩
    go_wp2_with fail
    refine HT.out.mono ?_
    clear HT HI
    rintro e v1 ⟨rfl,hrd,hx⟩
    have hR:=HRa.out
    clear HRa
    replace hxa:=hxa.trans hx
    replace b1:=b1.extX hx (Ne.symm hne)
    have bc:=b1.cell;have bf:=b1.free;have bz:=b1.lt
    clear bw wc bwz hr1
    have bl:=Blk.new v1 52 #[.int .i64 2,.string ⟨#[]⟩,.string ⟨#[]⟩,.slice none 0 0]
    have hgl:g < v1.heap.size:=hrd.lt
    have hbl:b < v1.heap.size:=hrd.wds.lt
    have hnl:g≠v1.heap.size:=by omega
    have hnb2:b≠v1.heap.size:=by omega
    have hB2:w.heap.size < v1.heap.size:=b1.lt
    have hnG:w.heap.size≠v1.heap.size:=by omega
    have hB3:w.heap.size<=v1.heap.size:=by omega
    replace hrd:=hrd.alloc (.cells #[.int .i64 2,.string ⟨#[]⟩,.string ⟨#[]⟩,.slice none 0 0] 52)
    replace hxa:=hxa.alloc (.cells #[.int .i64 2,.string ⟨#[]⟩,.string ⟨#[]⟩,.slice none 0 0] 52)
    replace b1:=b1.alloc (.cells #[.int .i64 2,.string ⟨#[]⟩,.string ⟨#[]⟩,.slice none 0 0] 52)
    have lc:=bl.cell;have lf:=bl.free;have lz:=bl.lt
    have ht:=nextR_any g b W hW τ1 119 ⟨#[]⟩ _ hrd
    rw[show bs (⟨#[]⟩:ByteArray)=[] from rfl] at ht
    generalize nextR τ1 119 []=X at *
    obtain⟨d2,τ2⟩:=X
    have ft2:=field_t d2
    have fv2:=field_v d2
    dsimp only at ht hR
    have HT:=Hy ht
    have HRb:=Hy hR
    clear ht hR
    go_wp2_with fail
    refine HT.out.mono ?_
    clear hrd HT
    rintro e v2 ⟨rfl,hrd,hx⟩
    have hR:=HRb.out
    clear bc bf bz HRb
    replace hxa:=hxa.trans hx
    replace b1:=b1.extX hx (Ne.symm hne)
    replace bl:=bl.extX hx (Ne.symm hnl)
    have bc:=b1.cell;have bf:=b1.free;have bz:=b1.lt
    have lc0:=bl.cell;have lf0:=bl.free;have lz0:=bl.lt
    have bc0:=b1.cell;have bf0:=b1.free;have bz0:=b1.lt
    clear bc bf bz
    replace hrd:=hrd.far (p:=⟨v1.heap.size,1,none⟩) hnl hnb2 (.string d2.t)
    replace hxa:=hxa.set2 (p:=⟨v1.heap.size,1,none⟩) hB3 (.string d2.t)
    replace b1:=b1.far (p:=⟨v1.heap.size,1,none⟩) hnG (.string d2.t)
    replace bl:Blk _ _ _ #[.int .i64 2,.string d2.t,.string ⟨#[]⟩,.slice none 0 0]:=bl.set 1 (.string d2.t)
    have bc:=b1.cell;have bf:=b1.free;have bz:=b1.lt
    have lc:=bl.cell;have lf:=bl.free;have lz:=bl.lt
    have ht:=nextR_any g b W hW τ2 61 ⟨#[]⟩ _ hrd
    rw[show bs (⟨#[]⟩:ByteArray)=[] from rfl] at ht
    generalize nextR τ2 61 []=X at *
    obtain⟨d3,τ3⟩:=X
    have ft3:=field_t d3
    have fv3:=field_v d3
    dsimp only at ht hR
    have HT:=Hy ht
    have HRb:=Hy hR
    clear ht hR
    go_wp2_with fail
    refine HT.out.mono ?_
    clear hrd HT
    rintro e v3 ⟨rfl,hrd,hx⟩
    have hR:=HRb.out
    clear bc bf bz HRb
    replace hxa:=hxa.trans hx
    replace b1:=b1.extX hx (Ne.symm hne)
    replace bl:=bl.extX hx (Ne.symm hnl)
    have bc:=b1.cell;have bf:=b1.free;have bz:=b1.lt
    clear lc lf lz lc0 lf0 lz0 bc0 bf0 bz0
    have lc:=bl.cell;have lf:=bl.free;have lz:=bl.lt
    have ht:=nextR_any g b W hW τ3 113 ⟨#[]⟩ _ hrd
    rw[show bs (⟨#[]⟩:ByteArray)=[] from rfl] at ht
    generalize nextR τ3 113 []=X at *
    obtain⟨d4,τ4⟩:=X
    have ft4:=field_t d4
    have fv4:=field_v d4
    dsimp only at ht hR
    have HT:=Hy ht
    have HRb:=Hy hR
    clear ht hR
    go_wp2_with fail
    refine HT.out.mono ?_
    clear hrd HT
    rintro e v4 ⟨rfl,hrd,hx⟩
    have hR:=HRb.out
    clear bc bf bz HRb
    replace hxa:=hxa.trans hx
    replace b1:=b1.extX hx (Ne.symm hne)
    replace bl:=bl.extX hx (Ne.symm hnl)
    have bc:=b1.cell;have bf:=b1.free;have bz:=b1.lt
    clear lc lf lz
    have lc0:=bl.cell;have lf0:=bl.free;have lz0:=bl.lt
    have bc0:=b1.cell;have bf0:=b1.free;have bz0:=b1.lt
    clear bc bf bz
    replace hrd:=hrd.far (p:=⟨v1.heap.size,2,none⟩) hnl hnb2 (.string d4.v)
    replace hxa:=hxa.set2 (p:=⟨v1.heap.size,2,none⟩) hB3 (.string d4.v)
    replace b1:=b1.far (p:=⟨v1.heap.size,2,none⟩) hnG (.string d4.v)
    replace bl:Blk _ _ _ #[.int .i64 2,.string d2.t,.string d4.v,.slice none 0 0]:=bl.set 2 (.string d4.v)
    have bc:=b1.cell;have bf:=b1.free;have bz:=b1.lt
    have lc:=bl.cell;have lf:=bl.free;have lz:=bl.lt
    have HRz:=Hy hR
    clear hR
    go_wp2
    obtain rfl:=HRz.out
    exact bodyPost_ret (v:=.agg #[.int .i64 2,.string d2.t,.string d4.v,.slice none 0 0]) (by simp[results,Tryz.results103,go_sem,bc]) rfl ⟨_,rfl,cdr_fin (B:=w.heap.size+1) (CdAt.leaf _ _ _ _ _) (by omega) hrd hxa hne hbe⟩
   ·have hi:=HIS.out 119 ⟨#[115,101,116,116,105,110,103]⟩
    rw[show bs (⟨#[115,101,116,116,105,110,103]⟩:ByteArray)=wSetting from rfl] at hi
    cases hw:isR τ 119 wSetting
    ·rw[hw] at hi
     have HI:=Hy hi
     have hnext:notB τ 3:=by
      unfold notB at hnb ⊢
      simp only[List.take_succ_cons,List.take_zero,List.forall_mem_cons] at hnb ⊢
      simp[hnb,hw]
     have HNB:=Hy hnext
     clear hi hw hnext hnb
     go_wp2_with fail
     refine HI.out.mono ?_
     rintro e w' ⟨rfl,rfl⟩
     go_wp2
     go_round
     case rel=>refine .inr (.inr (.inr (.inl ⟨by go_num,?_⟩)));first|exact HNB.out|trivial
     case measure=>simp[intOf]
    rw[hw] at hi
    have HI:=Hy hi
    have hR:=HR.out
    rw[if_neg (notB_at hnb (x:=wAlways) (by simp))] at hR
    rw[if_neg (notB_at hnb (x:=wFact) (by simp))] at hR
    rw[if_pos hw] at hR
    have hnx:=HNX.out ⟨#[115,101,116,116,105,110,103]⟩
    rw[show bs (⟨#[115,101,116,116,105,110,103]⟩:ByteArray)=wSetting from rfl] at hnx
    generalize nextR τ 119 wSetting=X at *
    obtain⟨d1,τ1⟩:=X
    dsimp only at hnx hR
    unfold pairR at hR
    have HT:=Hy hnx
    have HRa:=Hy hR
    skip
    clear hnx hR hi hw hnb HR
    go_wp2_with fail
    refine HI.out.mono ?_
    rintro e w' ⟨rfl,rfl⟩
    go_wp2_with fail
    refine HT.out.mono ?_
    clear HT HI
    rintro e v1 ⟨rfl,hrd,hx⟩
    have hR:=HRa.out
    clear HRa
    replace hxa:=hxa.trans hx
    replace b1:=b1.extX hx (Ne.symm hne)
    have bc:=b1.cell;have bf:=b1.free;have bz:=b1.lt
    clear bw wc bwz hr1
    have bl:=Blk.new v1 52 #[.int .i64 3,.string ⟨#[]⟩,.string ⟨#[]⟩,.slice none 0 0]
    have hgl:g < v1.heap.size:=hrd.lt
    have hbl:b < v1.heap.size:=hrd.wds.lt
    have hnl:g≠v1.heap.size:=by omega
    have hnb2:b≠v1.heap.size:=by omega
    have hB2:w.heap.size < v1.heap.size:=b1.lt
    have hnG:w.heap.size≠v1.heap.size:=by omega
    have hB3:w.heap.size<=v1.heap.size:=by omega
    replace hrd:=hrd.alloc (.cells #[.int .i64 3,.string ⟨#[]⟩,.string ⟨#[]⟩,.slice none 0 0] 52)
    replace hxa:=hxa.alloc (.cells #[.int .i64 3,.string ⟨#[]⟩,.string ⟨#[]⟩,.slice none 0 0] 52)
    replace b1:=b1.alloc (.cells #[.int .i64 3,.string ⟨#[]⟩,.string ⟨#[]⟩,.slice none 0 0] 52)
    have lc:=bl.cell;have lf:=bl.free;have lz:=bl.lt
    have ht:=nextR_any g b W hW τ1 119 ⟨#[]⟩ _ hrd
    rw[show bs (⟨#[]⟩:ByteArray)=[] from rfl] at ht
    generalize nextR τ1 119 []=X at *
    obtain⟨d2,τ2⟩:=X
    have ft2:=field_t d2
    have fv2:=field_v d2
    dsimp only at ht hR
    have HT:=Hy ht
    have HRb:=Hy hR
    clear ht hR
    go_wp2_with fail
    refine HT.out.mono ?_
    clear hrd HT
    rintro e v2 ⟨rfl,hrd,hx⟩
    have hR:=HRb.out
    clear bc bf bz HRb
    replace hxa:=hxa.trans hx
    replace b1:=b1.extX hx (Ne.symm hne)
    replace bl:=bl.extX hx (Ne.symm hnl)
    have bc:=b1.cell;have bf:=b1.free;have bz:=b1.lt
    have lc0:=bl.cell;have lf0:=bl.free;have lz0:=bl.lt
    have bc0:=b1.cell;have bf0:=b1.free;have bz0:=b1.lt
    clear bc bf bz
    replace hrd:=hrd.far (p:=⟨v1.heap.size,1,none⟩) hnl hnb2 (.string d2.t)
    replace hxa:=hxa.set2 (p:=⟨v1.heap.size,1,none⟩) hB3 (.string d2.t)
    replace b1:=b1.far (p:=⟨v1.heap.size,1,none⟩) hnG (.string d2.t)
    replace bl:Blk _ _ _ #[.int .i64 3,.string d2.t,.string ⟨#[]⟩,.slice none 0 0]:=bl.set 1 (.string d2.t)
    have bc:=b1.cell;have bf:=b1.free;have bz:=b1.lt
    have lc:=bl.cell;have lf:=bl.free;have lz:=bl.lt
    have ht:=nextR_any g b W hW τ2 61 ⟨#[]⟩ _ hrd
    rw[show bs (⟨#[]⟩:ByteArray)=[] from rfl] at ht
    generalize nextR τ2 61 []=X at *
    obtain⟨d3,τ3⟩:=X
    have ft3:=field_t d3
    have fv3:=field_v d3
    dsimp only at ht hR
    have HT:=Hy ht
    have HRb:=Hy hR
    clear ht hR
    go_wp2_with fail
    refine HT.out.mono ?_
    clear hrd HT
    rintro e v3 ⟨rfl,hrd,hx⟩
    have hR:=HRb.out
    clear bc bf bz HRb
    replace hxa:=hxa.trans hx
    replace b1:=b1.extX hx (Ne.symm hne)
    replace bl:=bl.extX hx (Ne.symm hnl)
    have bc:=b1.cell;have bf:=b1.free;have bz:=b1.lt
    clear lc lf lz lc0 lf0 lz0 bc0 bf0 bz0
    have lc:=bl.cell;have lf:=bl.free;have lz:=bl.lt
    have ht:=nextR_any g b W hW τ3 113 ⟨#[]⟩ _ hrd
    rw[show bs (⟨#[]⟩:ByteArray)=[] from rfl] at ht
    generalize nextR τ3 113 []=X at *
    obtain⟨d4,τ4⟩:=X
    have ft4:=field_t d4
    have fv4:=field_v d4
    dsimp only at ht hR
    have HT:=Hy ht
    have HRb:=Hy hR
    clear ht hR
    go_wp2_with fail
    refine HT.out.mono ?_
    clear hrd HT
    rintro e v4 ⟨rfl,hrd,hx⟩
    have hR:=HRb.out
    clear bc bf bz HRb
    replace hxa:=hxa.trans hx
    replace b1:=b1.extX hx (Ne.symm hne)
    replace bl:=bl.extX hx (Ne.symm hnl)
    have bc:=b1.cell;have bf:=b1.free;have bz:=b1.lt
    clear lc lf lz
    have lc0:=bl.cell;have lf0:=bl.free;have lz0:=bl.lt
    have bc0:=b1.cell;have bf0:=b1.free;have bz0:=b1.lt
    clear bc bf bz
    replace hrd:=hrd.far (p:=⟨v1.heap.size,2,none⟩) hnl hnb2 (.string d4.v)
    replace hxa:=hxa.set2 (p:=⟨v1.heap.size,2,none⟩) hB3 (.string d4.v)
    replace b1:=b1.far (p:=⟨v1.heap.size,2,none⟩) hnG (.string d4.v)
    replace bl:Blk _ _ _ #[.int .i64 3,.string d2.t,.string d4.v,.slice none 0 0]:=bl.set 2 (.string d4.v)
    have bc:=b1.cell;have bf:=b1.free;have bz:=b1.lt
    have lc:=bl.cell;have lf:=bl.free;have lz:=bl.lt
    have HRz:=Hy hR
    clear hR
    go_wp2
    obtain rfl:=HRz.out
    exact bodyPost_ret (v:=.agg #[.int .i64 3,.string d2.t,.string d4.v,.slice none 0 0]) (by simp[results,Tryz.results103,go_sem,bc]) rfl ⟨_,rfl,cdr_fin (B:=w.heap.size+1) (CdAt.leaf _ _ _ _ _) (by omega) hrd hxa hne hbe⟩
   ·have hi:=HIS.out 119 ⟨#[104,97,115]⟩
    rw[show bs (⟨#[104,97,115]⟩:ByteArray)=wHas from rfl] at hi
    cases hw:isR τ 119 wHas
    ·rw[hw] at hi
     have HI:=Hy hi
     have hnext:notB τ 4:=by
      unfold notB at hnb ⊢
      simp only[List.take_succ_cons,List.take_zero,List.forall_mem_cons] at hnb ⊢
      simp[hnb,hw]
     have HNB:=Hy hnext
     clear hi hw hnext hnb
     go_wp2_with fail
     refine HI.out.mono ?_
     rintro e w' ⟨rfl,rfl⟩
     go_wp2
     go_round
     case rel=>refine .inr (.inr (.inr (.inr (.inl ⟨by go_num,?_⟩))));first|exact HNB.out|trivial
     case measure=>simp[intOf]
    rw[hw] at hi
    have HI:=Hy hi
    have hR:=HR.out
    rw[if_neg (notB_at hnb (x:=wAlways) (by simp))] at hR
    rw[if_neg (notB_at hnb (x:=wFact) (by simp))] at hR
    rw[if_neg (notB_at hnb (x:=wSetting) (by simp))] at hR
    rw[if_pos hw] at hR
    have hnx:=HNX.out ⟨#[104,97,115]⟩
    rw[show bs (⟨#[104,97,115]⟩:ByteArray)=wHas from rfl] at hnx
    generalize nextR τ 119 wHas=X at *
    obtain⟨d1,τ1⟩:=X
    dsimp only at hnx hR
    skip
    have HT:=Hy hnx
    have HRa:=Hy hR
    skip
    clear hnx hR hi hw hnb HR
    go_wp2_with fail
    refine HI.out.mono ?_
    rintro e w' ⟨rfl,rfl⟩
    go_wp2_with fail
    refine HT.out.mono ?_
    clear HT HI
    rintro e v1 ⟨rfl,hrd,hx⟩
    have hR:=HRa.out
    clear HRa
    replace hxa:=hxa.trans hx
    replace b1:=b1.extX hx (Ne.symm hne)
    have bc:=b1.cell;have bf:=b1.free;have bz:=b1.lt
    clear bw wc bwz hr1
    have bl:=Blk.new v1 52 #[.int .i64 4,.string ⟨#[]⟩,.string ⟨#[]⟩,.slice none 0 0]
    have hgl:g < v1.heap.size:=hrd.lt
    have hbl:b < v1.heap.size:=hrd.wds.lt
    have hnl:g≠v1.heap.size:=by omega
    have hnb2:b≠v1.heap.size:=by omega
    have hB2:w.heap.size < v1.heap.size:=b1.lt
    have hnG:w.heap.size≠v1.heap.size:=by omega
    have hB3:w.heap.size<=v1.heap.size:=by omega
    replace hrd:=hrd.alloc (.cells #[.int .i64 4,.string ⟨#[]⟩,.string ⟨#[]⟩,.slice none 0 0] 52)
    replace hxa:=hxa.alloc (.cells #[.int .i64 4,.string ⟨#[]⟩,.string ⟨#[]⟩,.slice none 0 0] 52)
    replace b1:=b1.alloc (.cells #[.int .i64 4,.string ⟨#[]⟩,.string ⟨#[]⟩,.slice none 0 0] 52)
    have lc:=bl.cell;have lf:=bl.free;have lz:=bl.lt
    have ht:=nextR_any g b W hW τ1 119 ⟨#[]⟩ _ hrd
    rw[show bs (⟨#[]⟩:ByteArray)=[] from rfl] at ht
    generalize nextR τ1 119 []=X at *
    obtain⟨d2,τ2⟩:=X
    have ft2:=field_t d2
    have fv2:=field_v d2
    dsimp only at ht hR
    have HT:=Hy ht
    have HRb:=Hy hR
    clear ht hR
    go_wp2_with fail
    refine HT.out.mono ?_
    clear hrd HT
    rintro e v2 ⟨rfl,hrd,hx⟩
    have hR:=HRb.out
    clear bc bf bz HRb
    replace hxa:=hxa.trans hx
    replace b1:=b1.extX hx (Ne.symm hne)
    replace bl:=bl.extX hx (Ne.symm hnl)
    have bc:=b1.cell;have bf:=b1.free;have bz:=b1.lt
    have lc0:=bl.cell;have lf0:=bl.free;have lz0:=bl.lt
    have bc0:=b1.cell;have bf0:=b1.free;have bz0:=b1.lt
    clear bc bf bz
    replace hrd:=hrd.far (p:=⟨v1.heap.size,1,none⟩) hnl hnb2 (.string d2.t)
    replace hxa:=hxa.set2 (p:=⟨v1.heap.size,1,none⟩) hB3 (.string d2.t)
    replace b1:=b1.far (p:=⟨v1.heap.size,1,none⟩) hnG (.string d2.t)
    replace bl:Blk _ _ _ #[.int .i64 4,.string d2.t,.string ⟨#[]⟩,.slice none 0 0]:=bl.set 1 (.string d2.t)
    have bc:=b1.cell;have bf:=b1.free;have bz:=b1.lt
    have lc:=bl.cell;have lf:=bl.free;have lz:=bl.lt
    have HRz:=Hy hR
    clear hR
    go_wp2
    obtain rfl:=HRz.out
    exact bodyPost_ret (v:=.agg #[.int .i64 4,.string d2.t,.string ⟨#[]⟩,.slice none 0 0]) (by simp[results,Tryz.results103,go_sem,bc]) rfl ⟨_,rfl,cdr_fin (B:=w.heap.size+1) (CdAt.leaf _ _ _ _ _) (by omega) hrd hxa hne hbe⟩
   ·have hi:=HIS.out 119 ⟨#[118,101,114,115,105,111,110]⟩
    rw[show bs (⟨#[118,101,114,115,105,111,110]⟩:ByteArray)=wVersion from rfl] at hi
    cases hw:isR τ 119 wVersion
    ·rw[hw] at hi
     have HI:=Hy hi
     have hnext:notB τ 5:=by
      unfold notB at hnb ⊢
      simp only[List.take_succ_cons,List.take_zero,List.forall_mem_cons] at hnb ⊢
      simp[hnb,hw]
     have HNB:=Hy hnext
     clear hi hw hnext hnb
     go_wp2_with fail
     refine HI.out.mono ?_
     rintro e w' ⟨rfl,rfl⟩
     go_wp2
     go_round
     case rel=>refine .inr (.inr (.inr (.inr (.inr (.inl ⟨by go_num,?_⟩)))));first|exact HNB.out|trivial
     case measure=>simp[intOf]
    rw[hw] at hi
    have HI:=Hy hi
    have hR:=HR.out
    rw[if_neg (notB_at hnb (x:=wAlways) (by simp))] at hR
    rw[if_neg (notB_at hnb (x:=wFact) (by simp))] at hR
    rw[if_neg (notB_at hnb (x:=wSetting) (by simp))] at hR
    rw[if_neg (notB_at hnb (x:=wHas) (by simp))] at hR
    rw[if_pos hw] at hR
    have hnx:=HNX.out ⟨#[118,101,114,115,105,111,110]⟩
    rw[show bs (⟨#[118,101,114,115,105,111,110]⟩:ByteArray)=wVersion from rfl] at hnx
    generalize nextR τ 119 wVersion=X at *
    obtain⟨d1,τ1⟩:=X
    dsimp only at hnx hR
    unfold pairR at hR
    have HT:=Hy hnx
    have HRa:=Hy hR
    skip
    clear hnx hR hi hw hnb HR
    go_wp2_with fail
    refine HI.out.mono ?_
    rintro e w' ⟨rfl,rfl⟩
    go_wp2_with fail
    refine HT.out.mono ?_
    clear HT HI
    rintro e v1 ⟨rfl,hrd,hx⟩
    have hR:=HRa.out
    clear HRa
    replace hxa:=hxa.trans hx
    replace b1:=b1.extX hx (Ne.symm hne)
    have bc:=b1.cell;have bf:=b1.free;have bz:=b1.lt
    clear bw wc bwz hr1
    have bl:=Blk.new v1 52 #[.int .i64 5,.string ⟨#[]⟩,.string ⟨#[]⟩,.slice none 0 0]
    have hgl:g < v1.heap.size:=hrd.lt
    have hbl:b < v1.heap.size:=hrd.wds.lt
    have hnl:g≠v1.heap.size:=by omega
    have hnb2:b≠v1.heap.size:=by omega
    have hB2:w.heap.size < v1.heap.size:=b1.lt
    have hnG:w.heap.size≠v1.heap.size:=by omega
    have hB3:w.heap.size<=v1.heap.size:=by omega
    replace hrd:=hrd.alloc (.cells #[.int .i64 5,.string ⟨#[]⟩,.string ⟨#[]⟩,.slice none 0 0] 52)
    replace hxa:=hxa.alloc (.cells #[.int .i64 5,.string ⟨#[]⟩,.string ⟨#[]⟩,.slice none 0 0] 52)
    replace b1:=b1.alloc (.cells #[.int .i64 5,.string ⟨#[]⟩,.string ⟨#[]⟩,.slice none 0 0] 52)
    have lc:=bl.cell;have lf:=bl.free;have lz:=bl.lt
    have ht:=nextR_any g b W hW τ1 119 ⟨#[]⟩ _ hrd
    rw[show bs (⟨#[]⟩:ByteArray)=[] from rfl] at ht
    generalize nextR τ1 119 []=X at *
    obtain⟨d2,τ2⟩:=X
    have ft2:=field_t d2
    have fv2:=field_v d2
    dsimp only at ht hR
    have HT:=Hy ht
    have HRb:=Hy hR
    clear ht hR
    go_wp2_with fail
    refine HT.out.mono ?_
    clear hrd HT
    rintro e v2 ⟨rfl,hrd,hx⟩
    have hR:=HRb.out
    clear bc bf bz HRb
    replace hxa:=hxa.trans hx
    replace b1:=b1.extX hx (Ne.symm hne)
    replace bl:=bl.extX hx (Ne.symm hnl)
    have bc:=b1.cell;have bf:=b1.free;have bz:=b1.lt
    have lc0:=bl.cell;have lf0:=bl.free;have lz0:=bl.lt
    have bc0:=b1.cell;have bf0:=b1.free;have bz0:=b1.lt
    clear bc bf bz
    replace hrd:=hrd.far (p:=⟨v1.heap.size,1,none⟩) hnl hnb2 (.string d2.t)
    replace hxa:=hxa.set2 (p:=⟨v1.heap.size,1,none⟩) hB3 (.string d2.t)
    replace b1:=b1.far (p:=⟨v1.heap.size,1,none⟩) hnG (.string d2.t)
    replace bl:Blk _ _ _ #[.int .i64 5,.string d2.t,.string ⟨#[]⟩,.slice none 0 0]:=bl.set 1 (.string d2.t)
    have bc:=b1.cell;have bf:=b1.free;have bz:=b1.lt
    have lc:=bl.cell;have lf:=bl.free;have lz:=bl.lt
    have ht:=nextR_any g b W hW τ2 119 ⟨#[105,110]⟩ _ hrd
    rw[show bs (⟨#[105,110]⟩:ByteArray)=[105,110] from rfl] at ht
    generalize nextR τ2 119 [105,110]=X at *
    obtain⟨d3,τ3⟩:=X
    have ft3:=field_t d3
    have fv3:=field_v d3
    dsimp only at ht hR
    have HT:=Hy ht
    have HRb:=Hy hR
    clear ht hR
    go_wp2_with fail
    refine HT.out.mono ?_
    clear hrd HT
    rintro e v3 ⟨rfl,hrd,hx⟩
    have hR:=HRb.out
    clear bc bf bz HRb
    replace hxa:=hxa.trans hx
    replace b1:=b1.extX hx (Ne.symm hne)
    replace bl:=bl.extX hx (Ne.symm hnl)
    have bc:=b1.cell;have bf:=b1.free;have bz:=b1.lt
    clear lc lf lz lc0 lf0 lz0 bc0 bf0 bz0
    have lc:=bl.cell;have lf:=bl.free;have lz:=bl.lt
    have ht:=nextR_any g b W hW τ3 113 ⟨#[]⟩ _ hrd
    rw[show bs (⟨#[]⟩:ByteArray)=[] from rfl] at ht
    generalize nextR τ3 113 []=X at *
    obtain⟨d4,τ4⟩:=X
    have ft4:=field_t d4
    have fv4:=field_v d4
    dsimp only at ht hR
    have HT:=Hy ht
    have HRb:=Hy hR
    clear ht hR
    go_wp2_with fail
    refine HT.out.mono ?_
    clear hrd HT
    rintro e v4 ⟨rfl,hrd,hx⟩
    have hR:=HRb.out
    clear bc bf bz HRb
    replace hxa:=hxa.trans hx
    replace b1:=b1.extX hx (Ne.symm hne)
    replace bl:=bl.extX hx (Ne.symm hnl)
    have bc:=b1.cell;have bf:=b1.free;have bz:=b1.lt
    clear lc lf lz
    have lc0:=bl.cell;have lf0:=bl.free;have lz0:=bl.lt
    have bc0:=b1.cell;have bf0:=b1.free;have bz0:=b1.lt
    clear bc bf bz
    replace hrd:=hrd.far (p:=⟨v1.heap.size,2,none⟩) hnl hnb2 (.string d4.v)
    replace hxa:=hxa.set2 (p:=⟨v1.heap.size,2,none⟩) hB3 (.string d4.v)
    replace b1:=b1.far (p:=⟨v1.heap.size,2,none⟩) hnG (.string d4.v)
    replace bl:Blk _ _ _ #[.int .i64 5,.string d2.t,.string d4.v,.slice none 0 0]:=bl.set 2 (.string d4.v)
    have bc:=b1.cell;have bf:=b1.free;have bz:=b1.lt
    have lc:=bl.cell;have lf:=bl.free;have lz:=bl.lt
    have HRz:=Hy hR
    clear hR
    go_wp2
    obtain rfl:=HRz.out
    exact bodyPost_ret (v:=.agg #[.int .i64 5,.string d2.t,.string d4.v,.slice none 0 0]) (by simp[results,Tryz.results103,go_sem,bc]) rfl ⟨_,rfl,cdr_fin (B:=w.heap.size+1) (CdAt.leaf _ _ _ _ _) (by omega) hrd hxa hne hbe⟩
   ·have hi:=HIS.out 119 ⟨#[110,111,116]⟩
    rw[show bs (⟨#[110,111,116]⟩:ByteArray)=wNot from rfl] at hi
    cases hw:isR τ 119 wNot
    ·rw[hw] at hi
     have HI:=Hy hi
     have hnext:notB τ 6:=by
      unfold notB at hnb ⊢
      simp only[List.take_succ_cons,List.take_zero,List.forall_mem_cons] at hnb ⊢
      simp[hnb,hw]
     have HNB:=Hy hnext
     clear hi hw hnext hnb
     go_wp2_with fail
     refine HI.out.mono ?_
     rintro e w' ⟨rfl,rfl⟩
     go_wp2
     go_round
     case rel=>refine .inr (.inr (.inr (.inr (.inr (.inr (⟨by go_num,?_⟩))))));first|exact HNB.out|trivial
     case measure=>simp[intOf]
    rw[hw] at hi
    have HI:=Hy hi
    have hR:=HR.out
    rw[if_neg (notB_at hnb (x:=wAlways) (by simp))] at hR
    rw[if_neg (notB_at hnb (x:=wFact) (by simp))] at hR
    rw[if_neg (notB_at hnb (x:=wSetting) (by simp))] at hR
    rw[if_neg (notB_at hnb (x:=wHas) (by simp))] at hR
    rw[if_neg (notB_at hnb (x:=wVersion) (by simp))] at hR
    rw[if_pos hw] at hR
    have hnx:=HNX.out ⟨#[110,111,116]⟩
    rw[show bs (⟨#[110,111,116]⟩:ByteArray)=wNot from rfl] at hnx
    generalize nextR τ 119 wNot=X at *
    obtain⟨d1,τ1⟩:=X
    dsimp only at hnx hR
    skip
    have HT:=Hy hnx
    have HRa:=Hy hR
    have HWW:=Hy hw
    clear hnx hR hi hw hnb HR
    go_wp2_with fail
    refine HI.out.mono ?_
    rintro e w' ⟨rfl,rfl⟩
    go_wp2_with fail
    refine HT.out.mono ?_
    clear HT HI
    rintro e v1 ⟨rfl,hrd,hx⟩
    have hR:=HRa.out
    clear HRa
    replace hxa:=hxa.trans hx
    replace b1:=b1.extX hx (Ne.symm hne)
    have bc:=b1.cell;have bf:=b1.free;have bz:=b1.lt
    clear bw wc bwz hr1
    cases fr with
    | none =>
      have hvt:=HVN.out
      rw[HWW.out] at hvt
      exact absurd ⟨rfl,hvt.symm⟩ HE.out
    | some f =>
      have hlv:=H1.out f rfl
      dsimp only at hR
      have bl:=Blk.new v1 52 #[.int .i64 0,.string ⟨#[]⟩,.string ⟨#[]⟩,.slice none 0 0]
      have hgl:g < v1.heap.size:=hrd.lt
      have hbl:b < v1.heap.size:=hrd.wds.lt
      have hnl:g≠v1.heap.size:=by omega
      have hnb2:b≠v1.heap.size:=by omega
      have hB2:w.heap.size < v1.heap.size:=b1.lt
      have hnG:w.heap.size≠v1.heap.size:=by omega
      have hB3:w.heap.size<=v1.heap.size:=by omega
      replace hrd:=hrd.alloc (.cells #[.int .i64 0,.string ⟨#[]⟩,.string ⟨#[]⟩,.slice none 0 0] 52)
      replace hxa:=hxa.alloc (.cells #[.int .i64 0,.string ⟨#[]⟩,.string ⟨#[]⟩,.slice none 0 0] 52)
      replace b1:=b1.alloc (.cells #[.int .i64 0,.string ⟨#[]⟩,.string ⟨#[]⟩,.slice none 0 0] 52)
      have lc:=bl.cell;have lf:=bl.free;have lz:=bl.lt
      have hcc:=HC.out f rfl τ1 _ hrd
      rw[show ((lev+1:Nat):Int)=(lev:Int)+1 by omega] at hcc
      have HCC:=Hy hcc
      have HRz:=Hy hR
      clear hcc hR HC
      go_wp2_with fail
      refine HCC.out.mono ?_
      clear hrd HCC
      rintro e v2 ⟨v,rfl,hcd,hrd,hx⟩
      clear bc bf bz lc lf lz
      replace hxa:=hxa.trans hx
      replace b1:=b1.extX hx (Ne.symm hne)
      obtain⟨k,n,x,A,m3,cp3,rfl⟩:=hcd.cells
      have bc:=b1.cell;have bf:=b1.free;have bz:=b1.lt
      have hzz:=hx.size
      rw[World.size_alloc] at hzz hcd
      have hB5:w.heap.size+1<=v2.heap.size:=by omega
      replace hcd:=hcd.low (B:=w.heap.size+1) (by omega)
      have hone:=cdr_one (w:=w) (r:=f τ1) (k:=6) (n:=⟨#[]⟩) (x:=⟨#[]⟩) (cp:=1) hcd hB5 hrd hxa hne hbe
      have HONE:=Hy hone
      clear hone
      go_wp2
      obtain rfl:=HRz.out
      exact bodyPost_ret (v:=.agg #[.int .i64 6,.string ⟨#[]⟩,.string ⟨#[]⟩,.slice (some ⟨v2.heap.size,0,none⟩) 1 1]) (by simp[results,Tryz.results103,go_sem,bc,bz]) rfl ⟨_,rfl,HONE.out⟩
   ·have hb:=hr1.opened
    obtain⟨j2,cp2,m2,_,_,_,hm3,hmc3,hb,c0,c1,c2,c3⟩:=hb
    have hm4:(0:Int) < m2:=by omega
    have rc:=hb.cell;have rf:=hb.free;have rz:=hb.lt
    have hR:=HR.out
    rw[if_neg (notB_at hnb (x:=wAlways) (by simp)),if_neg (notB_at hnb (x:=wFact) (by simp)),if_neg (notB_at hnb (x:=wSetting) (by simp)),if_neg (notB_at hnb (x:=wHas) (by simp)),if_neg (notB_at hnb (x:=wVersion) (by simp)),if_neg (notB_at hnb (x:=wNot) (by simp))] at hR
    have HR1:=Hy hr1
    have bc:=b1.cell;have bf:=b1.free;have bz:=b1.lt
    by_cases hbad:τ.bad < 0
    ·rw[if_pos hbad] at hR
     have hfin:=cdr_fin (w:=w) (r:=(zeroC,⟨τ.l,τ.hd.a⟩)) (B:=w.heap.size+1) (CdAt.leaf _ _ _ _ _) (by omega) (hr1.setBad τ.hd.a) (hxa.setG 1 _) hne hbe
     have HFIN:=Hy hfin
     have HRz:=Hy hR
     clear hR hr1 hb hnb hfin HR
     have bc2:=(b1.far (p:=⟨g,1,none⟩) (Ne.symm hne) (.int .i64 τ.hd.a)).cell
     have bf2:=(b1.far (p:=⟨g,1,none⟩) (Ne.symm hne) (.int .i64 τ.hd.a)).free
     go_wp2
     obtain rfl:=HRz.out
     exact bodyPost_ret (v:=.agg #[.int .i64 0,.string ⟨#[]⟩,.string ⟨#[]⟩,.slice none 0 0]) (by simp[results,Tryz.results103,go_sem,bc2]) rfl ⟨_,rfl,HFIN.out⟩
    ·rw[if_neg hbad] at hR
     have hfin:=cdr_fin (w:=w) (r:=(zeroC,τ)) (B:=w.heap.size+1) (CdAt.leaf _ _ _ _ _) (by omega) hr1 hxa hne hbe
     have HFIN:=Hy hfin
     have HRz:=Hy hR
     clear hR hr1 hb hnb hfin HR
     go_wp2
     obtain rfl:=HRz.out
     exact bodyPost_ret (v:=.agg #[.int .i64 0,.string ⟨#[]⟩,.string ⟨#[]⟩,.slice none 0 0]) (by simp[results,Tryz.results103,go_sem,bc]) rfl ⟨_,rfl,HFIN.out⟩
end Go.Proofs.YtmnafaaijglnfaaGreatDoor
