/- The law's look at package feed (feeds), and at a feed that is none. -/
import Derived.Test.YtmnafaaijglnfaaGreatDoorMg36
namespace Go.Proofs.YtmnafaaijglnfaaGreatDoor
open Go.RowKit
abbrev zeroFV:Value:=.agg #[.string ⟨#[]⟩,.int .i64 0,.int .i64 0,.slice none 0 0]
theorem feErr_zero:feErr ⟨#[]⟩ 0 0 []=5:=by decide
abbrev zeroFA:Array Value:=#[.string ⟨#[]⟩,.int .i64 0,.int .i64 0,.slice none 0 0]
set_option maxHeartbeats 4000000 in
set_option maxRecDepth 100000 in
theorem mergeNil_any (w:World) :
 Calls Tryz.prog 37 #[.slice none 0 0] w fun e w'=>e=.returned (.tuple #[zeroFV,.int .i64 9])∧Ext w w':=by
 go_enter Tryz.func37,Tryz.ntmps37
 go_wp2
 refine bodyPost_ret (v:=.tuple #[zeroFV,.int .i64 9]) (by simp[results,Tryz.results37,go_sem]) rfl ?_
 exact⟨rfl,Ext.ad⟩
theorem feeds_any (w:World) (hg:GoodN w) :
 Calls Tryz.prog 40 #[] w fun e w'=>e=.returned (.bool true)∧Ext w w':=by
 have CK:=Hy (fun W (h:Ext w W)=>by
  have:=CheckF_any ⟨#[]⟩ 0 0 [] none 0 0 W (hg.ext h) rfl (fun h=>absurd rfl h) (fun _ h=>by cases h) (by decide) (by decide)
  rw[feErr_zero] at this
  exact this)
 go_enter Tryz.func40,Tryz.ntmps40
 go_wp2_with fail
 refine (mergeNil_any _).mono ?_
 rintro e w1 ⟨rfl,hx1⟩
 have hxa:=hx1.alloc (.cells zeroFA 59)
 go_wp2_with fail
 refine (CK.out _ hxa).mono ?_
 rintro e w2 ⟨rfl,hx2⟩
 go_wp2
 go_ret
 exact⟨rfl,hxa.trans hx2⟩
set_option maxHeartbeats 4000000 in
set_option maxRecDepth 100000 in
theorem EqualO0_any (w:World) :
 Calls Tryz.prog 68 #[.slice none 0 0,.slice none 0 0,.func (.func 66) #[] #[]] w fun e w'=>e=.returned (.bool true)∧Ext w w':=by
 go_enter Tryz.func68,Tryz.ntmps68
 go_wp2
 go_loopw [17] (fun t wr=>t=.int .i64 0∧Ext w wr) (fun _ _=>0)
 case atStart=>exact⟨rfl,Ext.refl w⟩
 case round =>
  obtain⟨rfl,hxr⟩:=hrel
  go_wp2
  go_ret
  exact⟨rfl,hxr⟩
set_option maxHeartbeats 4000000 in
set_option maxRecDepth 100000 in
theorem SameFeed0_any (w:World) :
 Calls Tryz.prog 46 #[zeroFV,zeroFV] w fun e w'=>e=.returned (.bool true)∧Ext w w':=by
 have b1:=(Blk.new w 59 zeroFA).alloc (.cells zeroFA 59)
 have b2:=Blk.new (w.alloc (.cells zeroFA 59)) 59 zeroFA
 rw[World.size_alloc] at b2
 have hx0:Ext w ((w.alloc (.cells zeroFA 59)).alloc (.cells zeroFA 59)):=((Ext.refl w).alloc _).alloc _
 generalize hW:(w.alloc (.cells zeroFA 59)).alloc (.cells zeroFA 59)=W0 at *
 have HW:=Hy hW
 clear hW
 have e1:=b1.cell;have e2:=b2.cell
 go_enter Tryz.func46,Tryz.ntmps46
 go_wp2_with fail
 rw[HW.out]
 go_wp2_with fail
 refine (EqualO0_any _).mono ?_
 rintro e w1 ⟨rfl,hx1⟩
 go_wp2
 go_ret
 exact⟨rfl,hx0.trans hx1⟩
set_option maxHeartbeats 4000000 in
set_option maxRecDepth 100000 in
theorem noFeed0_any (w:World) :
 Calls Tryz.prog 41 #[zeroFV] w fun e w'=>e=.returned (.bool true)∧Ext w w':=by
 have b0:=Blk.new w 59 zeroFA
 have hx0:Ext w (w.alloc (.cells zeroFA 59)):=(Ext.refl w).alloc _
 generalize hW:w.alloc (.cells zeroFA 59)=W0 at *
 have HW:=Hy hW
 clear hW
 have e0:=b0.cell
 go_enter Tryz.func41,Tryz.ntmps41
 go_wp2_with fail
 rw[HW.out]
 go_wp2_with fail
 refine (SameFeed0_any _).mono ?_
 rintro e w1 ⟨rfl,hx1⟩
 go_wp2
 go_ret
 exact⟨rfl,hx0.trans hx1⟩
end Go.Proofs.YtmnafaaijglnfaaGreatDoor
