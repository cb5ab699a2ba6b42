/- Contracts of pack's and disk's small functions: places, items, steps, changes by themselves. -/
import Derived.Test.YtmpccllnpcbgcaaGreatDoorPk22
namespace Go.Proofs.YtmpccllnpcbgcaaGreatDoor
open Go.RowKit
section
set_option maxRecDepth 100000
theorem run_eqi (d:Nat) (u v:Itm) (w:World):(Op.equalIn (d+3) 104 (itmV u) (itmV v)).run Tryz.prog w=.ok (decide (u=v)) w:=by
 obtain⟨u0,u1,u2,u3,u4,u5,u6,u7,u8,u9⟩:=u
 obtain⟨v0,v1,v2,v3,v4,v5,v6,v7,v8,v9⟩:=v
 dsimp only[itmV]
 rw[run_equalIn_agg w (d+2) 104 _ _ (by kernel_rfl) (by kernel_rfl)]
 simp only[Itm.mk.injEq]
 go_simp
 simp only[str_eq]
 repeat' split
 all_goals simp_all
theorem run_eqg (d:Nat) (u v:Itm) (w:World):(Op.equalIn (d+3) 69 (itmV u) (itmV v)).run Tryz.prog w=.ok (decide (u=v)) w:=by
 obtain⟨u0,u1,u2,u3,u4,u5,u6,u7,u8,u9⟩:=u
 obtain⟨v0,v1,v2,v3,v4,v5,v6,v7,v8,v9⟩:=v
 dsimp only[itmV]
 rw[run_equalIn_agg w (d+2) 69 _ _ (by kernel_rfl) (by kernel_rfl)]
 simp only[Itm.mk.injEq]
 go_simp
 simp only[str_eq]
 repeat' split
 all_goals simp_all
end
theorem run_neqi (u v:Itm) (w:World):(binOp .neq 104 (itmV u) (itmV v)).run Tryz.prog w=.ok (.bool (!decide (u=v))) w:=by
 rw[run_neq_struct,run_eqi 9997]
 rfl
theorem run_neqg (u v:Itm) (w:World):(binOp .neq 69 (itmV u) (itmV v)).run Tryz.prog w=.ok (.bool (!decide (u=v))) w:=by
 rw[run_neq_struct,run_eqg 9997]
 rfl
theorem IsBelow_any (p d:ByteArray) (w:World) (hs:d.size<=2097152) :
 Calls Tryz.prog 215 #[.string p,.string d] w fun e w'=>e=.returned (.bool (belowL (bs p) (bs d)))∧w=w':=by
 go_enter Tryz.func215,Tryz.ntmps215
 go_wp2_with fail
 refine (hasPrefix_any _ _ _).mono ?_
 rintro e w' ⟨rfl,rfl⟩
 go_wp2
 go_ret
 exact⟨rfl,rfl⟩
theorem own_ix (w:World):(Instr.index 302 (.agg #[.string ⟨#[115,116,97,103,101]⟩,.string ⟨#[111,117,116,102,105,116]⟩]) (.int .i64 0)).run Tryz.prog w=.ok (.string ⟨#[115,116,97,103,101]⟩) w ∧
 (Instr.index 302 (.agg #[.string ⟨#[115,116,97,103,101]⟩,.string ⟨#[111,117,116,102,105,116]⟩]) (.int .i64 1)).run Tryz.prog w=.ok (.string ⟨#[111,117,116,102,105,116]⟩) w:=⟨by kernel_rfl,by kernel_rfl⟩
set_option maxHeartbeats 1000000 in
set_option maxRecDepth 100000 in
theorem Own_any (p:ByteArray) (w:World) :
 Calls Tryz.prog 216 #[.string p] w fun e w'=>e=.returned (.bool (ownL (bs p)))∧w=w':=by
 have C1:=Hy (fun W=>IsBelow_any p ⟨#[115,116,97,103,101]⟩ W (by decide))
 have C2:=Hy (fun W=>IsBelow_any p ⟨#[111,117,116,102,105,116]⟩ W (by decide))
 have HO:=Hy (show ownL (bs p)=((bs p==wStage||belowL (bs p) wStage)||(bs p==wOutfit||belowL (bs p) wOutfit)) from rfl)
 have HQ1:(p.toList==[115,116,97,103,101])=(bs p==wStage):=by rw[ByteArray.toList_eq]
 have HQ2:(p.toList==[111,117,116,102,105,116])=(bs p==wOutfit):=by rw[ByteArray.toList_eq]
 rw[show bs (⟨#[115,116,97,103,101]⟩:ByteArray)=wStage from rfl] at C1
 rw[show bs (⟨#[111,117,116,102,105,116]⟩:ByteArray)=wOutfit from rfl] at C2
 generalize ownL (bs p)=O at *
 generalize belowL (bs p) wStage=b1 at *
 generalize belowL (bs p) wOutfit=b2 at *
 generalize (bs p==wStage)=q1 at *
 generalize (bs p==wOutfit)=q2 at *
 obtain⟨hi0,hi1⟩:=own_ix w
 go_enter Tryz.func216,Tryz.ntmps216
 go_wp2
 go_loop [6] (fun i=>∃ k:Nat,k<=2∧i=.int .i64 k∧(1<=k->(q1||b1)=false)∧(2<=k->(q2||b2)=false)) (fun i=>2 - (intOf i).toNat)
 case atStart=>exact⟨0,by omega,rfl,(fun h=>absurd h (by omega)),(fun h=>absurd h (by omega))⟩
 case round =>
  obtain⟨k,hk,rfl,h1,h2⟩:=hrel
  rcases (show k=0∨k=1∨k=2 by omega) with rfl|rfl|rfl
  ·clear h1 h2
   cases q1
   ·cases b1
    ·go_wp2_with fail
     refine (C1.out _).mono ?_
     rintro e w' ⟨rfl,rfl⟩
     go_wp2
     go_round
     case rel=>exact⟨1,by omega,rfl,(fun _=>rfl),(fun h=>absurd h (by omega))⟩
     case measure=>simp[intOf]
    ·go_wp2_with fail
     refine (C1.out _).mono ?_
     rintro e w' ⟨rfl,rfl⟩
     go_wp2
     go_ret
     exact⟨ret_bool (by rw[HO.out];rfl),rfl⟩
   ·go_wp2
    go_ret
    exact⟨ret_bool (by rw[HO.out];rfl),rfl⟩
  ·have H1:=Hy (h1 (by omega))
   clear h1 h2
   cases q2
   ·cases b2
    ·go_wp2_with fail
     refine (C2.out _).mono ?_
     rintro e w' ⟨rfl,rfl⟩
     go_wp2
     go_round
     case rel=>exact⟨2,by omega,rfl,(fun _=>H1.out),(fun _=>rfl)⟩
     case measure=>simp[intOf]
    ·go_wp2_with fail
     refine (C2.out _).mono ?_
     rintro e w' ⟨rfl,rfl⟩
     go_wp2
     go_ret
     exact⟨ret_bool (by rw[HO.out,H1.out];rfl),rfl⟩
   ·go_wp2
    go_ret
    exact⟨ret_bool (by rw[HO.out,H1.out];rfl),rfl⟩
  ·have H1:=Hy (h1 (by omega))
   have H2:=Hy (h2 (by omega))
   clear h1 h2
   go_wp2
   go_ret
   exact⟨ret_bool (by rw[HO.out,H1.out,H2.out];rfl),rfl⟩
set_option maxHeartbeats 2000000 in
set_option maxRecDepth 100000 in
theorem placeOf_any (x:Itm) (w:World) :
 Calls Tryz.prog 211 #[itmV x] w fun e w'=>e=.returned (.agg #[.int .i64 (spotK x),.string (spotN x)])∧Ext w w':=by
 have HK:=Hy (show spotK x=if x.kind=5 then 2 else if x.kind=6 then 3 else 1 from rfl)
 have HN:=Hy (show spotN x=if x.kind=5 then x.key else if x.kind=6 then x.sn else x.path from rfl)
 generalize spotK x=K at *
 generalize spotN x=N at *
 obtain⟨k,ip,id,ir,ik,iv,isn,isp,ia,io⟩:=x
 dsimp only[itmV] at *
 by_cases h5:k=5
 ·subst h5
  go_enter Tryz.func211,Tryz.ntmps211
  go_wp2
  exact bodyPost_ret (v:=.agg #[.int .i64 2,.string ik]) (by simp[results,Tryz.results211,go_sem]) rfl ⟨by rw[HK.out,HN.out];rfl,((Ext.refl w).alloc _).alloc _⟩
 ·by_cases h6:k=6
  ·subst h6
   go_enter Tryz.func211,Tryz.ntmps211
   go_wp2
   exact bodyPost_ret (v:=.agg #[.int .i64 3,.string isn]) (by simp[results,Tryz.results211,go_sem]) rfl ⟨by rw[HK.out,HN.out];rfl,((Ext.refl w).alloc _).alloc _⟩
  ·have e5:(k==5)=false:=by simpa using h5
   have e6:(k==6)=false:=by simpa using h6
   have H5:=Hy h5
   have H6:=Hy h6
   clear h5 h6
   go_enter Tryz.func211,Tryz.ntmps211
   go_wp2
   exact bodyPost_ret (v:=.agg #[.int .i64 1,.string ip]) (by simp[results,Tryz.results211,go_sem]) rfl ⟨by rw[HK.out,HN.out,if_neg H5.out,if_neg H6.out,if_neg H5.out,if_neg H6.out],((Ext.refl w).alloc _).alloc _⟩
theorem field_pl (k:Int) (n:ByteArray) (w:World):(Instr.field 269 (.agg #[.int .i64 k,.string n]) 0).run Tryz.prog w=.ok (.int .i64 k) w:=by kernel_rfl
set_option maxHeartbeats 1000000 in
set_option maxRecDepth 100000 in
theorem isFile_any (x:Itm) (w:World) :
 Calls Tryz.prog 212 #[itmV x] w fun e w'=>e=.returned (.bool (decide (spotK x=1)))∧Ext w w':=by
 have C:=Hy (fun W=>placeOf_any x W)
 generalize spotK x=K at *
 generalize spotN x=N at *
 obtain⟨k,ip,id,ir,ik,iv,isn,isp,ia,io⟩:=x
 dsimp only[itmV] at *
 go_enter Tryz.func212,Tryz.ntmps212
 go_wp2_with fail
 refine (C.out _).mono ?_
 rintro e w1 ⟨rfl,hx1⟩
 have hf:=field_pl K N w1
 go_wp2
 go_ret
 exact⟨ret_bool (by first|rfl|simp),((Ext.refl w).alloc _).trans hx1⟩
set_option maxHeartbeats 1000000 in
theorem fileFault_any (p d:ByteArray) (r:Bool) (w:World) (hg:Good w) (hp:p.size<=2097152) (hd:d.size<=2097152) :
 Calls Tryz.prog 309 #[.agg #[.string p,.string d,.bool r]] w fun e w'=>e=.returned (.int .i64 (firstI [(if pathL (bs p)=true then 0 else 5),(if 65536 < d.size then 4 else 0)]))∧Ext w w':=by
 have C:=Hy (fun W (h:Ext w W)=>IsPath_any p W (hg.ext h) hp)
 clear hg hp
 generalize pathL (bs p)=Q at *
 obtain⟨E,hE⟩:∃ E,firstI [(if Q=true then (0:Int) else 5),(if 65536 < d.size then 4 else 0)]=E:=⟨_,rfl⟩
 rw[hE]
 have hx0:Ext w (w.alloc (.cells #[.string p,.string d,.bool r] 63)):=(Ext.refl w).alloc _
 have b0:=Blk.new w 63 #[.string p,.string d,.bool r]
 generalize hW:w.alloc (.cells #[.string p,.string d,.bool r] 63)=W0 at *
 have HW:=Hy hW
 clear hW
 have e0:=b0.cell
 cases Q
 ·have HE:=Hy (show E=5 from hE.symm)
  clear hE
  go_enter Tryz.func309,Tryz.ntmps309
  go_wp2_with fail
  rw[HW.out]
  refine (C.out _ hx0).mono ?_
  rintro e w1 ⟨rfl,hx1⟩
  go_wp2
  go_ret
  exact⟨ret_int HE.out.symm,hx0.trans hx1⟩
 ·by_cases hl:(65536:Int) < (d.size:Int)
  ·have HE:=Hy (show E=4 from by rw[<-hE,if_pos (show 65536 < d.size by omega)];rfl)
   clear hE
   go_enter Tryz.func309,Tryz.ntmps309
   go_wp2_with fail
   rw[HW.out]
   refine (C.out _ hx0).mono ?_
   rintro e w1 ⟨rfl,hx1⟩
   have e1:=(b0.ext hx1).cell
   go_wp2
   go_ret
   exact⟨ret_int HE.out.symm,hx0.trans hx1⟩
  ·have HE:=Hy (show E=0 from by rw[<-hE,if_neg (show ¬ 65536 < d.size by omega)];rfl)
   clear hE
   go_enter Tryz.func309,Tryz.ntmps309
   go_wp2_with fail
   rw[HW.out]
   refine (C.out _ hx0).mono ?_
   rintro e w1 ⟨rfl,hx1⟩
   have e1:=(b0.ext hx1).cell
   go_wp2
   go_ret
   exact⟨ret_int HE.out.symm,hx0.trans hx1⟩
set_option maxHeartbeats 1000000 in
theorem settingFaultP_any (k v:ByteArray) (w:World) (hg:Good w) (hk:k.size<=2097152) (hv:v.size<=2097152) :
 Calls Tryz.prog 310 #[.agg #[.string k,.string v],.func (.func 20) #[] #[]] w fun e w'=>e=.returned (.int .i64 (firstI [(if pathL (bs k)=true then 0 else 5),(if valueL (bs v)=true then 0 else 2)]))∧Ext w w':=by
 have C:=Hy (fun W (h:Ext w W)=>IsPath_any k W (hg.ext h) hk)
 have CV:=Hy (fun W=>IsValue_any v W hv)
 clear hg hk hv
 generalize pathL (bs k)=Q at *
 generalize valueL (bs v)=V at *
 obtain⟨E,hE⟩:∃ E,firstI [(if Q=true then (0:Int) else 5),(if V=true then 0 else 2)]=E:=⟨_,rfl⟩
 rw[hE]
 have HE:=Hy hE
 clear hE
 have hx0:Ext w (w.alloc (.cells #[.string k,.string v] 65)):=(Ext.refl w).alloc _
 have b0:=Blk.new w 65 #[.string k,.string v]
 generalize hW:w.alloc (.cells #[.string k,.string v] 65)=W0 at *
 have HW:=Hy hW
 clear hW
 have e0:=b0.cell
 cases Q
 ·go_enter Tryz.func310,Tryz.ntmps310
  go_wp2_with fail
  rw[HW.out]
  refine (C.out _ hx0).mono ?_
  rintro e w1 ⟨rfl,hx1⟩
  go_wp2
  go_ret
  exact⟨ret_int (by rw[<-HE.out];rfl),hx0.trans hx1⟩
 ·cases V
  all_goals
   go_enter Tryz.func310,Tryz.ntmps310
   go_wp2_with fail
   rw[HW.out]
   refine (C.out _ hx0).mono ?_
   rintro e w1 ⟨rfl,hx1⟩
   have e1:=(b0.ext hx1).cell
   go_wp2_with fail
   refine (CV.out _).mono ?_
   rintro e w' ⟨rfl,rfl⟩
   go_wp2
   go_ret
   exact⟨ret_int (by rw[<-HE.out];rfl),hx0.trans hx1⟩
set_option maxHeartbeats 1000000 in
theorem serviceFault_any (n p:ByteArray) (a o:Bool) (w:World) (hg:Good w) (hn:n.size<=2097152) (hp:p.size<=2097152) :
 Calls Tryz.prog 311 #[.agg #[.string n,.string p,.bool a,.bool o]] w fun e w'=>e=.returned (.int .i64 (if (nameL (bs n)&&pathL (bs p))=true then 0 else 5))∧Ext w w':=by
 have C:=Hy (fun W (h:Ext w W)=>IsPath_any p W (hg.ext h) hp)
 have CN:=Hy (fun W=>IsName_any n W hn)
 clear hg hn hp
 generalize pathL (bs p)=Q at *
 generalize nameL (bs n)=V at *
 obtain⟨E,hE⟩:∃ E,(if (V&&Q)=true then (0:Int) else 5)=E:=⟨_,rfl⟩
 rw[hE]
 have HE:=Hy hE
 clear hE
 have hx0:Ext w (w.alloc (.cells #[.string n,.string p,.bool a,.bool o] 67)):=(Ext.refl w).alloc _
 have b0:=Blk.new w 67 #[.string n,.string p,.bool a,.bool o]
 generalize hW:w.alloc (.cells #[.string n,.string p,.bool a,.bool o] 67)=W0 at *
 have HW:=Hy hW
 clear hW
 have e0:=b0.cell
 cases V
 ·go_enter Tryz.func311,Tryz.ntmps311
  go_wp2_with fail
  rw[HW.out]
  refine (CN.out _).mono ?_
  rintro e w' ⟨rfl,rfl⟩
  go_wp2
  go_ret
  exact⟨ret_int (by rw[<-HE.out];rfl),hx0⟩
 ·cases Q
  all_goals
   go_enter Tryz.func311,Tryz.ntmps311
   go_wp2_with fail
   rw[HW.out]
   refine (CN.out _).mono ?_
   rintro e w' ⟨rfl,rfl⟩
   go_wp2_with fail
   refine (C.out _ hx0).mono ?_
   rintro e w1 ⟨rfl,hx1⟩
   go_wp2
   go_ret
   exact⟨ret_int (by rw[<-HE.out];rfl),hx0.trans hx1⟩
end Go.Proofs.YtmpccllnpcbgcaaGreatDoor
