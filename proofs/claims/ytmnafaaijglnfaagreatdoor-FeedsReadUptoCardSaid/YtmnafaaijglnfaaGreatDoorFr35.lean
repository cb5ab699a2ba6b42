/- The law outlaw2.FeedsRead: its walk. -/
import Derived.Test.YtmnafaaijglnfaaGreatDoorFr33
import Derived.Test.YtmnafaaijglnfaaGreatDoorFr34
namespace Go.Proofs.YtmnafaaijglnfaaGreatDoor
open Go.RowKit
theorem count_anyF (s:ByteArray) (c:UInt8) (n:Nat) (h:(bs s).count c=n) (w:World) :
 Calls Tryz.prog 59 #[.string s,.string ⟨#[c]⟩] w fun e w'=>e=.returned (.int .i64 (n:Int))∧w=w' :=
 (Tryz.strings_Count_one s c w).mono fun _ _ ⟨a,b⟩=>⟨by rw[a,<-h];rfl,b.symm⟩
theorem suffix_nl {s:ByteArray} (h:∃ q,bs s=q++[10]):Lib.hasSuffix (bs s) [10]=true:=by
 obtain⟨q,h⟩:=h
 rw[h]
 unfold Lib.hasSuffix
 simp
set_option maxHeartbeats 16000000 in
set_option maxRecDepth 100000 in
theorem FeedsRead_any (s:ByteArray) (w:World) (hg:GoodN w) (hs:s.size<=1100000) :
 Calls Tryz.prog 8 #[.string s] w fun e w'=>e=.returned (.bool true)∧Ext w w':=by
 have HG:=Hy hg
 have CF:=Hy (fun W (h:Ext w W)=>feeds_any W (hg.ext h))
 have CP:=Hy (ParseF_any s w hg hs)
 clear hg
 go_enter Tryz.func8,Tryz.ntmps8
 go_wp2_with fail
 refine CP.out.mono ?_
 rintro e w1 (⟨at_,e0,rfl,hne,h1,h2,hx1⟩|⟨ch,sr,tm,A,c,l,rfl,hrd,hsm,hcz,hll,hE,hend,hx1⟩)
 ·have hxa:=hx1.alloc (.cells zeroFA 59)
  have bF:=Blk.new w1 59 zeroFA
  go_wp2_with fail
  refine (CF.out _ hxa).mono ?_
  rintro e w2 ⟨rfl,hx2⟩
  have hx02:=hxa.trans hx2
  by_cases hbig:(5000:Int) < (s.size:Int)
  ·go_wp2_with fail
   refine (CF.out _ hx02).mono ?_
   rintro e w3 ⟨rfl,hx3⟩
   go_wp2
   go_ret
   exact⟨rfl,hx02.trans hx3⟩
  have hbn:(e0 != 0)=true:=by rw[bne_iff_ne];exact hne
  have bF2:=bF.ext hx2
  have fc:=bF2.cell
  have HC:=Hy (fun W=>count_anyF s 10 _ rfl W)
  have HI:=Hy (fun W=>In_any at_ 0 (((bs s).count 10:Nat):Int) W)
  generalize (bs s).count 10=N at *
  go_wp2_with fail
  refine (noFeed0_any _).mono ?_
  rintro e w3 ⟨rfl,hx3⟩
  have hx03:=hx02.trans hx3
  go_wp2_with fail
  refine (HC.out _).mono ?_
  rintro e w' ⟨rfl,rfl⟩
  go_wp2_with fail
  refine (HI.out _).mono ?_
  rintro e w' ⟨rfl,rfl⟩
  go_wp2
  go_ret
  exact⟨ret_bool (by first|(simp;done)|(simp;omega)),hx03⟩
 ·generalize hln:l.length=n at *
  have HLN:=Hy hln
  clear hln
  have hxa:=hx1.alloc (.cells #[.string ch,.int .i64 sr,.int .i64 tm,.slice A n c] 59)
  have bF:=Blk.new w1 59 #[.string ch,.int .i64 sr,.int .i64 tm,.slice A n c]
  have HRD:=Hy (hrd.ext ((Ext.refl w1).alloc (.cells #[.string ch,.int .i64 sr,.int .i64 tm,.slice A n c] 59)))
  have HSM:=Hy hsm
  have HSF:=Hy (suffix_nl hend)
  have HE:=Hy hE
  clear hrd hsm hend hE
  go_wp2_with fail
  refine (CF.out _ hxa).mono ?_
  rintro e w2 ⟨rfl,hx2⟩
  have hx02:=hxa.trans hx2
  by_cases hbig:(5000:Int) < (s.size:Int)
  ·go_wp2_with fail
   refine (CF.out _ hx02).mono ?_
   rintro e w3 ⟨rfl,hx3⟩
   go_wp2
   go_ret
   exact⟨rfl,hx02.trans hx3⟩
  have bF2:=bF.ext hx2
  have fc:=bF2.cell
  have CE:=Hy (fun W (h:Ext w2 W)=>FeedError_any ch sr tm l A n c W (HG.out.ext (hx02.trans h)) HLN.out ((HRD.out.ext hx2).ext h) HSM.out hcz (by omega))
  rw[HE.out] at CE
  have CS:=Hy (fun W=>Tryz.strings_HasSuffix s ⟨#[10]⟩ W (by omega))
  go_wp2_with fail
  refine (CE.out _ (Ext.refl _)).mono ?_
  rintro e w3 ⟨rfl,hx3⟩
  go_wp2_with fail
  refine (CS.out _).mono ?_
  rintro e w' ⟨rfl,hw⟩
  rw[hw]
  go_wp2
  go_ret
  exact⟨ret_bool (by first|exact HSF.out|(have:=HSF.out;simpa using this)),hx02.trans hx3⟩
end Go.Proofs.YtmnafaaijglnfaaGreatDoor
