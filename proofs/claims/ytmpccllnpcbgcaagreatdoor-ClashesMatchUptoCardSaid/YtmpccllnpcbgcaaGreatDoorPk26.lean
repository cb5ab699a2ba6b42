/- Contract of disk.CheckChange. -/
import Derived.Test.YtmpccllnpcbgcaaGreatDoorPk24
namespace Go.Proofs.YtmpccllnpcbgcaaGreatDoor
open Go.RowKit
def keptC (c:Itm):Itm :=
 if c.kind=1 then ⟨1,c.path,c.data,c.runs,⟨#[]⟩,⟨#[]⟩,⟨#[]⟩,⟨#[]⟩,false,false⟩
 else if c.kind=2 then ⟨2,c.path,⟨#[]⟩,false,⟨#[]⟩,⟨#[]⟩,⟨#[]⟩,⟨#[]⟩,false,false⟩
 else if c.kind=3 then ⟨3,⟨#[]⟩,⟨#[]⟩,false,c.key,c.val,⟨#[]⟩,⟨#[]⟩,false,false⟩
 else if c.kind=4 then ⟨4,⟨#[]⟩,⟨#[]⟩,false,c.key,⟨#[]⟩,⟨#[]⟩,⟨#[]⟩,false,false⟩
 else if c.kind=5 then ⟨5,⟨#[]⟩,⟨#[]⟩,false,⟨#[]⟩,⟨#[]⟩,c.sn,c.sp,c.auto,c.on⟩
 else ⟨c.kind,⟨#[]⟩,⟨#[]⟩,false,⟨#[]⟩,⟨#[]⟩,c.sn,⟨#[]⟩,false,false⟩
def ownC (c:Itm):Int :=
 if c.kind=1 then firstI [(if pathL (bs c.path)=true then 0 else 5),(if 65536 < c.data.size then 4 else 0)]
 else if c.kind=2 then firstI [(if pathL (bs c.path)=true then 0 else 5),(if 65536 < (⟨#[]⟩:ByteArray).size then 4 else 0)]
 else if c.kind=3 then firstI [(if pathL (bs c.key)=true then 0 else 5),(if valueL (bs c.val)=true then 0 else 2)]
 else if c.kind=4 then firstI [(if pathL (bs c.key)=true then 0 else 5),(if valueL (bs (⟨#[]⟩:ByteArray))=true then 0 else 2)]
 else if c.kind=5 then (if (nameL (bs c.sn)&&pathL (bs c.sp))=true then 0 else 5)
 else if nameL (bs c.sn)=true then 0 else 5
def cgErr (c:Itm):Int:=if c.kind < 1∨6 < c.kind then 1 else if ownC c=0 then (if c=keptC c then 0 else 2) else ownC c
set_option maxHeartbeats 8000000 in
set_option maxRecDepth 100000 in
theorem CheckChange_any (c:Itm) (w:World) (hg:Good w) (hs:SmallI c) :
 Calls Tryz.prog 268 #[itmV c] w fun e w'=>e=.returned (.int .i64 (cgErr c))∧Ext w w':=by
 have CF:=Hy (fun W (h:Ext w W)=>fileFault_any c.path c.data c.runs W (hg.ext h) hs.path hs.data)
 have CF0:=Hy (fun W (h:Ext w W)=>fileFault_any c.path ⟨#[]⟩ false W (hg.ext h) hs.path (by decide))
 have CS:=Hy (fun W (h:Ext w W)=>settingFaultP_any c.key c.val W (hg.ext h) hs.key hs.val)
 have CS0:=Hy (fun W (h:Ext w W)=>settingFaultP_any c.key ⟨#[]⟩ W (hg.ext h) hs.key (by decide))
 have CV:=Hy (fun W (h:Ext w W)=>serviceFault_any c.sn c.sp c.auto c.on W (hg.ext h) hs.sn hs.sp)
 have CN:=Hy (fun W=>IsName_any c.sn W hs.sn)
 have HE:=Hy (show cgErr c=if c.kind < 1∨6 < c.kind then 1 else if ownC c=0 then (if c=keptC c then 0 else 2) else ownC c from rfl)
 have HO:=Hy (show ownC c=_ from rfl)
 have HQ:=Hy (fun W=>run_neqg c (keptC c) W)
 have HK:=Hy (show keptC c=_ from rfl)
 clear hg hs
 generalize cgErr c=E at *
 obtain⟨k,ip,id,ir,ik,iv,isn,isp,ia,io⟩:=c
 dsimp only[itmV] at *
 have b0:=(Blk.new w 69 #[.int .i64 k,.string ip,.string id,.bool ir,.string ik,.string iv,.string isn,.string isp,.bool ia,.bool io]).alloc (.cells #[.int .i64 0,.string ⟨#[]⟩,.string ⟨#[]⟩,.bool false,.string ⟨#[]⟩,.string ⟨#[]⟩,.string ⟨#[]⟩,.string ⟨#[]⟩,.bool false,.bool false] 69)
 have bK:=Blk.new (w.alloc (.cells #[.int .i64 k,.string ip,.string id,.bool ir,.string ik,.string iv,.string isn,.string isp,.bool ia,.bool io] 69)) 69 #[.int .i64 0,.string ⟨#[]⟩,.string ⟨#[]⟩,.bool false,.string ⟨#[]⟩,.string ⟨#[]⟩,.string ⟨#[]⟩,.string ⟨#[]⟩,.bool false,.bool false]
 rw[World.size_alloc] at bK
 have hx0:Ext w ((w.alloc (.cells #[.int .i64 k,.string ip,.string id,.bool ir,.string ik,.string iv,.string isn,.string isp,.bool ia,.bool io] 69)).alloc (.cells #[.int .i64 0,.string ⟨#[]⟩,.string ⟨#[]⟩,.bool false,.string ⟨#[]⟩,.string ⟨#[]⟩,.string ⟨#[]⟩,.string ⟨#[]⟩,.bool false,.bool false] 69)):=((Ext.refl w).alloc _).alloc _
 have hxa:Ext w (w.alloc (.cells #[.int .i64 k,.string ip,.string id,.bool ir,.string ik,.string iv,.string isn,.string isp,.bool ia,.bool io] 69)):=(Ext.refl w).alloc _
 generalize hW:(w.alloc (.cells #[.int .i64 k,.string ip,.string id,.bool ir,.string ik,.string iv,.string isn,.string isp,.bool ia,.bool io] 69)).alloc (.cells #[.int .i64 0,.string ⟨#[]⟩,.string ⟨#[]⟩,.bool false,.string ⟨#[]⟩,.string ⟨#[]⟩,.string ⟨#[]⟩,.string ⟨#[]⟩,.bool false,.bool false] 69)=W0 at *
 have HW:=Hy hW
 clear hW
 have e0:=b0.cell
 have le0:=b0.lt;have leK:=bK.lt
 by_cases h1:k=1
 ·subst h1
  rw[show keptC ⟨1,ip,id,ir,ik,iv,isn,isp,ia,io⟩=⟨1,ip,id,ir,⟨#[]⟩,⟨#[]⟩,⟨#[]⟩,⟨#[]⟩,false,false⟩ from rfl] at HQ HE
  rw[show ownC ⟨1,ip,id,ir,ik,iv,isn,isp,ia,io⟩=firstI [(if pathL (bs ip)=true then 0 else 5),(if 65536 < id.size then 4 else 0)] from rfl] at HE
  obtain⟨F,hF⟩:∃ F,(firstI [(if pathL (bs ip)=true then 0 else 5),(if 65536 < id.size then 4 else 0)]:Int)=F:=⟨_,rfl⟩
  obtain⟨D,hD⟩:∃ D,decide ((⟨1,ip,id,ir,ik,iv,isn,isp,ia,io⟩:Itm)=⟨1,ip,id,ir,⟨#[]⟩,⟨#[]⟩,⟨#[]⟩,⟨#[]⟩,false,false⟩)=D:=⟨_,rfl⟩
  rw[hD] at HQ
  rw[hF] at HE
  have HE2:=Hy (show E=if F=0 then (if D=true then 0 else 2) else F from by rw[HE.out,if_neg (by omega),<-hD];simp only[decide_eq_true_eq])
  rw[hF] at CF
  clear hF hD HE HO HK
  have hq:=HQ.out
  dsimp only[itmV] at hq
  go_enter Tryz.func268,Tryz.ntmps268
  go_wp2_with fail
  rw[HW.out]
  refine wp_region_ext_tail 6 (by kernel_rfl) (by kernel_rfl) ?_
  simp only[List.take_succ_cons,List.take_zero,List.drop_succ_cons,List.drop_zero]
  repeat (first|go_big_quiet_skip|(refine wpQuiet_step (fun K hK=>?_);go_simp;first|(refine hK _ ?_;clear hK K)|(apply Exists.intro;refine⟨fun wq hwq=>?_,hK _ ?_⟩;(obtain⟨hqc,hqf⟩:=hwq.cells;have hqs:=hwq.size;(try go_simp);first|rfl|((first|rw[if_neg (by omega)]|rw[if_pos (by omega)]);(try go_simp);rfl)|((go_at_call 309;exact (CF.out _ (hx0.trans hwq)).mono (fun e w'' h=>⟨h.1,hwq.trans h.2⟩))));clear hK K)))
  refine wpQuiet_nil ?_
  intro wN hxN
  obtain⟨hcN,hfN⟩:=hxN.cells
  have hsN:=hxN.size
  have bK1:=bK.ext hxN
  have b2:=b0.ext hxN
  have hxE:=hx0.trans hxN
  clear e0 le0 leK bK b0 hxN hcN hfN hsN
  have cK:=bK1.cell;have fK:=bK1.free;have lK:=bK1.lt;have c0:=b2.cell;have f0:=b2.free;have l0:=b2.lt
  have HX:=Hy hxE
  clear hxE
  by_cases hF:F=0
  ·subst hF
   have HE3:=Hy (show E=if D=true then 0 else 2 from by rw[HE2.out,if_pos rfl])
   cases D
   all_goals
    go_wp2
    go_ret
    have hxE:=HX.out
    exact⟨ret_int (by rw[HE3.out];rfl),Ext.ad⟩
  ·have HE3:=Hy (show E=F from by rw[HE2.out,if_neg hF])
   have hne:(F==0)=false:=by simpa using hF
   clear hF
   go_wp2
   go_ret
   have hxE:=HX.out
   exact⟨ret_int HE3.out.symm,Ext.ad⟩
 ·by_cases h2:k=2
  ·subst h2
   rw[show keptC ⟨2,ip,id,ir,ik,iv,isn,isp,ia,io⟩=⟨2,ip,⟨#[]⟩,false,⟨#[]⟩,⟨#[]⟩,⟨#[]⟩,⟨#[]⟩,false,false⟩ from rfl] at HQ HE
   rw[show ownC ⟨2,ip,id,ir,ik,iv,isn,isp,ia,io⟩=firstI [(if pathL (bs ip)=true then 0 else 5),(if 65536 < (⟨#[]⟩:ByteArray).size then 4 else 0)] from rfl] at HE
   obtain⟨F,hF⟩:∃ F,(firstI [(if pathL (bs ip)=true then 0 else 5),(if 65536 < (⟨#[]⟩:ByteArray).size then 4 else 0)]:Int)=F:=⟨_,rfl⟩
   obtain⟨D,hD⟩:∃ D,decide ((⟨2,ip,id,ir,ik,iv,isn,isp,ia,io⟩:Itm)=⟨2,ip,⟨#[]⟩,false,⟨#[]⟩,⟨#[]⟩,⟨#[]⟩,⟨#[]⟩,false,false⟩)=D:=⟨_,rfl⟩
   rw[hD] at HQ
   rw[hF] at HE
   have HE2:=Hy (show E=if F=0 then (if D=true then 0 else 2) else F from by rw[HE.out,if_neg (by omega),<-hD];simp only[decide_eq_true_eq])
   rw[hF] at CF0
   clear hF hD HE HO HK
   have hq:=HQ.out
   dsimp only[itmV] at hq
   go_enter Tryz.func268,Tryz.ntmps268
   go_wp2_with fail
   rw[HW.out]
   refine wp_region_ext_tail 10 (by kernel_rfl) (by kernel_rfl) ?_
   simp only[List.take_succ_cons,List.take_zero,List.drop_succ_cons,List.drop_zero]
   repeat (first|go_big_quiet_skip|(refine wpQuiet_step (fun K hK=>?_);go_simp;first|(refine hK _ ?_;clear hK K)|(apply Exists.intro;refine⟨fun wq hwq=>?_,hK _ ?_⟩;(obtain⟨hqc,hqf⟩:=hwq.cells;have hqs:=hwq.size;(try go_simp);first|rfl|((first|rw[if_neg (by omega)]|rw[if_pos (by omega)]);(try go_simp);rfl)|((go_at_call 309;exact (CF0.out _ (hx0.trans hwq)).mono (fun e w'' h=>⟨h.1,hwq.trans h.2⟩))));clear hK K)))
   refine wpQuiet_nil ?_
   intro wN hxN
   obtain⟨hcN,hfN⟩:=hxN.cells
   have hsN:=hxN.size
   have bK1:=bK.ext hxN
   have b2:=b0.ext hxN
   have hxE:=hx0.trans hxN
   clear e0 le0 leK bK b0 hxN hcN hfN hsN
   have cK:=bK1.cell;have fK:=bK1.free;have lK:=bK1.lt;have c0:=b2.cell;have f0:=b2.free;have l0:=b2.lt
   have HX:=Hy hxE
   clear hxE
   by_cases hF:F=0
   ·subst hF
    have HE3:=Hy (show E=if D=true then 0 else 2 from by rw[HE2.out,if_pos rfl])
    cases D
    all_goals
     go_wp2
     go_ret
     have hxE:=HX.out
     exact⟨ret_int (by rw[HE3.out];rfl),Ext.ad⟩
   ·have HE3:=Hy (show E=F from by rw[HE2.out,if_neg hF])
    have hne:(F==0)=false:=by simpa using hF
    clear hF
    go_wp2
    go_ret
    have hxE:=HX.out
    exact⟨ret_int HE3.out.symm,Ext.ad⟩
  ·by_cases h3:k=3
   ·subst h3
    rw[show keptC ⟨3,ip,id,ir,ik,iv,isn,isp,ia,io⟩=⟨3,⟨#[]⟩,⟨#[]⟩,false,ik,iv,⟨#[]⟩,⟨#[]⟩,false,false⟩ from rfl] at HQ HE
    rw[show ownC ⟨3,ip,id,ir,ik,iv,isn,isp,ia,io⟩=firstI [(if pathL (bs ik)=true then 0 else 5),(if valueL (bs iv)=true then 0 else 2)] from rfl] at HE
    obtain⟨F,hF⟩:∃ F,(firstI [(if pathL (bs ik)=true then 0 else 5),(if valueL (bs iv)=true then 0 else 2)]:Int)=F:=⟨_,rfl⟩
    obtain⟨D,hD⟩:∃ D,decide ((⟨3,ip,id,ir,ik,iv,isn,isp,ia,io⟩:Itm)=⟨3,⟨#[]⟩,⟨#[]⟩,false,ik,iv,⟨#[]⟩,⟨#[]⟩,false,false⟩)=D:=⟨_,rfl⟩
    rw[hD] at HQ
    rw[hF] at HE
    have HE2:=Hy (show E=if F=0 then (if D=true then 0 else 2) else F from by rw[HE.out,if_neg (by omega),<-hD];simp only[decide_eq_true_eq])
    rw[hF] at CS
    clear hF hD HE HO HK
    have hq:=HQ.out
    dsimp only[itmV] at hq
    go_enter Tryz.func268,Tryz.ntmps268
    go_wp2_with fail
    rw[HW.out]
    refine wp_region_ext_tail 6 (by kernel_rfl) (by kernel_rfl) ?_
    simp only[List.take_succ_cons,List.take_zero,List.drop_succ_cons,List.drop_zero]
    repeat (first|go_big_quiet_skip|(refine wpQuiet_step (fun K hK=>?_);go_simp;first|(refine hK _ ?_;clear hK K)|(apply Exists.intro;refine⟨fun wq hwq=>?_,hK _ ?_⟩;(obtain⟨hqc,hqf⟩:=hwq.cells;have hqs:=hwq.size;(try go_simp);first|rfl|((first|rw[if_neg (by omega)]|rw[if_pos (by omega)]);(try go_simp);rfl)|((go_at_call 310;exact (CS.out _ (hx0.trans hwq)).mono (fun e w'' h=>⟨h.1,hwq.trans h.2⟩))));clear hK K)))
    refine wpQuiet_nil ?_
    intro wN hxN
    obtain⟨hcN,hfN⟩:=hxN.cells
    have hsN:=hxN.size
    have bK1:=bK.ext hxN
    have b2:=b0.ext hxN
    have hxE:=hx0.trans hxN
    clear e0 le0 leK bK b0 hxN hcN hfN hsN
    have cK:=bK1.cell;have fK:=bK1.free;have lK:=bK1.lt;have c0:=b2.cell;have f0:=b2.free;have l0:=b2.lt
    have HX:=Hy hxE
    clear hxE
    by_cases hF:F=0
    ·subst hF
     have HE3:=Hy (show E=if D=true then 0 else 2 from by rw[HE2.out,if_pos rfl])
     cases D
     all_goals
      go_wp2
      go_ret
      have hxE:=HX.out
      exact⟨ret_int (by rw[HE3.out];rfl),Ext.ad⟩
    ·have HE3:=Hy (show E=F from by rw[HE2.out,if_neg hF])
     have hne:(F==0)=false:=by simpa using hF
     clear hF
     go_wp2
     go_ret
     have hxE:=HX.out
     exact⟨ret_int HE3.out.symm,Ext.ad⟩
   ·by_cases h4:k=4
    ·subst h4
     rw[show keptC ⟨4,ip,id,ir,ik,iv,isn,isp,ia,io⟩=⟨4,⟨#[]⟩,⟨#[]⟩,false,ik,⟨#[]⟩,⟨#[]⟩,⟨#[]⟩,false,false⟩ from rfl] at HQ HE
     rw[show ownC ⟨4,ip,id,ir,ik,iv,isn,isp,ia,io⟩=firstI [(if pathL (bs ik)=true then 0 else 5),(if valueL (bs (⟨#[]⟩:ByteArray))=true then 0 else 2)] from rfl] at HE
     obtain⟨F,hF⟩:∃ F,(firstI [(if pathL (bs ik)=true then 0 else 5),(if valueL (bs (⟨#[]⟩:ByteArray))=true then 0 else 2)]:Int)=F:=⟨_,rfl⟩
     obtain⟨D,hD⟩:∃ D,decide ((⟨4,ip,id,ir,ik,iv,isn,isp,ia,io⟩:Itm)=⟨4,⟨#[]⟩,⟨#[]⟩,false,ik,⟨#[]⟩,⟨#[]⟩,⟨#[]⟩,false,false⟩)=D:=⟨_,rfl⟩
     rw[hD] at HQ
     rw[hF] at HE
     have HE2:=Hy (show E=if F=0 then (if D=true then 0 else 2) else F from by rw[HE.out,if_neg (by omega),<-hD];simp only[decide_eq_true_eq])
     rw[hF] at CS0
     clear hF hD HE HO HK
     have hq:=HQ.out
     dsimp only[itmV] at hq
     go_enter Tryz.func268,Tryz.ntmps268
     go_wp2_with fail
     rw[HW.out]
     refine wp_region_ext_tail 10 (by kernel_rfl) (by kernel_rfl) ?_
     simp only[List.take_succ_cons,List.take_zero,List.drop_succ_cons,List.drop_zero]
     repeat (first|go_big_quiet_skip|(refine wpQuiet_step (fun K hK=>?_);go_simp;first|(refine hK _ ?_;clear hK K)|(apply Exists.intro;refine⟨fun wq hwq=>?_,hK _ ?_⟩;(obtain⟨hqc,hqf⟩:=hwq.cells;have hqs:=hwq.size;(try go_simp);first|rfl|((first|rw[if_neg (by omega)]|rw[if_pos (by omega)]);(try go_simp);rfl)|((go_at_call 310;exact (CS0.out _ (hx0.trans hwq)).mono (fun e w'' h=>⟨h.1,hwq.trans h.2⟩))));clear hK K)))
     refine wpQuiet_nil ?_
     intro wN hxN
     obtain⟨hcN,hfN⟩:=hxN.cells
     have hsN:=hxN.size
     have bK1:=bK.ext hxN
     have b2:=b0.ext hxN
     have hxE:=hx0.trans hxN
     clear e0 le0 leK bK b0 hxN hcN hfN hsN
     have cK:=bK1.cell;have fK:=bK1.free;have lK:=bK1.lt;have c0:=b2.cell;have f0:=b2.free;have l0:=b2.lt
     have HX:=Hy hxE
     clear hxE
     by_cases hF:F=0
     ·subst hF
      have HE3:=Hy (show E=if D=true then 0 else 2 from by rw[HE2.out,if_pos rfl])
      cases D
      all_goals
       go_wp2
       go_ret
       have hxE:=HX.out
       exact⟨ret_int (by rw[HE3.out];rfl),Ext.ad⟩
     ·have HE3:=Hy (show E=F from by rw[HE2.out,if_neg hF])
      have hne:(F==0)=false:=by simpa using hF
      clear hF
      go_wp2
      go_ret
      have hxE:=HX.out
      exact⟨ret_int HE3.out.symm,Ext.ad⟩
    ·by_cases h5:k=5
     ·subst h5
      rw[show keptC ⟨5,ip,id,ir,ik,iv,isn,isp,ia,io⟩=⟨5,⟨#[]⟩,⟨#[]⟩,false,⟨#[]⟩,⟨#[]⟩,isn,isp,ia,io⟩ from rfl] at HQ HE
      rw[show ownC ⟨5,ip,id,ir,ik,iv,isn,isp,ia,io⟩=if (nameL (bs isn)&&pathL (bs isp))=true then 0 else 5 from rfl] at HE
      obtain⟨F,hF⟩:∃ F,(if (nameL (bs isn)&&pathL (bs isp))=true then 0 else 5:Int)=F:=⟨_,rfl⟩
      obtain⟨D,hD⟩:∃ D,decide ((⟨5,ip,id,ir,ik,iv,isn,isp,ia,io⟩:Itm)=⟨5,⟨#[]⟩,⟨#[]⟩,false,⟨#[]⟩,⟨#[]⟩,isn,isp,ia,io⟩)=D:=⟨_,rfl⟩
      rw[hD] at HQ
      rw[hF] at HE
      have HE2:=Hy (show E=if F=0 then (if D=true then 0 else 2) else F from by rw[HE.out,if_neg (by omega),<-hD];simp only[decide_eq_true_eq])
      rw[hF] at CV
      clear hF hD HE HO HK
      have hq:=HQ.out
      dsimp only[itmV] at hq
      go_enter Tryz.func268,Tryz.ntmps268
      go_wp2_with fail
      rw[HW.out]
      refine wp_region_ext_tail 6 (by kernel_rfl) (by kernel_rfl) ?_
      simp only[List.take_succ_cons,List.take_zero,List.drop_succ_cons,List.drop_zero]
      repeat (first|go_big_quiet_skip|(refine wpQuiet_step (fun K hK=>?_);go_simp;first|(refine hK _ ?_;clear hK K)|(apply Exists.intro;refine⟨fun wq hwq=>?_,hK _ ?_⟩;(obtain⟨hqc,hqf⟩:=hwq.cells;have hqs:=hwq.size;(try go_simp);first|rfl|((first|rw[if_neg (by omega)]|rw[if_pos (by omega)]);(try go_simp);rfl)|((go_at_call 311;exact (CV.out _ (hx0.trans hwq)).mono (fun e w'' h=>⟨h.1,hwq.trans h.2⟩))));clear hK K)))
      refine wpQuiet_nil ?_
      intro wN hxN
      obtain⟨hcN,hfN⟩:=hxN.cells
      have hsN:=hxN.size
      have bK1:=bK.ext hxN
      have b2:=b0.ext hxN
      have hxE:=hx0.trans hxN
      clear e0 le0 leK bK b0 hxN hcN hfN hsN
      have cK:=bK1.cell;have fK:=bK1.free;have lK:=bK1.lt;have c0:=b2.cell;have f0:=b2.free;have l0:=b2.lt
      have HX:=Hy hxE
      clear hxE
      by_cases hF:F=0
      ·subst hF
       have HE3:=Hy (show E=if D=true then 0 else 2 from by rw[HE2.out,if_pos rfl])
       cases D
       all_goals
        go_wp2
        go_ret
        have hxE:=HX.out
        exact⟨ret_int (by rw[HE3.out];rfl),Ext.ad⟩
      ·have HE3:=Hy (show E=F from by rw[HE2.out,if_neg hF])
       have hne:(F==0)=false:=by simpa using hF
       clear hF
       go_wp2
       go_ret
       have hxE:=HX.out
       exact⟨ret_int HE3.out.symm,Ext.ad⟩
     ·by_cases h6:k=6
      ·subst h6
       rw[show keptC ⟨6,ip,id,ir,ik,iv,isn,isp,ia,io⟩=⟨6,⟨#[]⟩,⟨#[]⟩,false,⟨#[]⟩,⟨#[]⟩,isn,⟨#[]⟩,false,false⟩ from rfl] at HQ HE
       rw[show ownC ⟨6,ip,id,ir,ik,iv,isn,isp,ia,io⟩=if nameL (bs isn)=true then 0 else 5 from rfl] at HE
       obtain⟨F,hF⟩:∃ F,(if nameL (bs isn)=true then 0 else 5:Int)=F:=⟨_,rfl⟩
       obtain⟨D,hD⟩:∃ D,decide ((⟨6,ip,id,ir,ik,iv,isn,isp,ia,io⟩:Itm)=⟨6,⟨#[]⟩,⟨#[]⟩,false,⟨#[]⟩,⟨#[]⟩,isn,⟨#[]⟩,false,false⟩)=D:=⟨_,rfl⟩
       rw[hD] at HQ
       rw[hF] at HE
       have HE2:=Hy (show E=if F=0 then (if D=true then 0 else 2) else F from by rw[HE.out,if_neg (by omega),<-hD];simp only[decide_eq_true_eq])
       have HF6:=Hy hF
       clear hF hD HE HO HK
       have nq:∃ NQ,nameL (bs isn)=NQ:=⟨_,rfl⟩
       obtain⟨NQ,hNQ⟩:=nq
       rw[hNQ] at CN
       have HF7:=HF6.out
       rw[hNQ] at HF7
       clear HF6 hNQ
       have hq:=HQ.out
       dsimp only[itmV] at hq
       cases NQ
       ·clear b0 bK hx0 e0 le0 leK hxa HW
        have b0:=(Blk.new w 69 #[.int .i64 6,.string ip,.string id,.bool ir,.string ik,.string iv,.string isn,.string isp,.bool ia,.bool io]).alloc (.cells #[.int .i64 0,.string ⟨#[]⟩,.string ⟨#[]⟩,.bool false,.string ⟨#[]⟩,.string ⟨#[]⟩,.string isn,.string ⟨#[]⟩,.bool false,.bool false] 69)
        have bK:=Blk.new (w.alloc (.cells #[.int .i64 6,.string ip,.string id,.bool ir,.string ik,.string iv,.string isn,.string isp,.bool ia,.bool io] 69)) 69 #[.int .i64 0,.string ⟨#[]⟩,.string ⟨#[]⟩,.bool false,.string ⟨#[]⟩,.string ⟨#[]⟩,.string isn,.string ⟨#[]⟩,.bool false,.bool false]
        rw[World.size_alloc] at bK
        have hx0:Ext w ((w.alloc (.cells #[.int .i64 6,.string ip,.string id,.bool ir,.string ik,.string iv,.string isn,.string isp,.bool ia,.bool io] 69)).alloc (.cells #[.int .i64 0,.string ⟨#[]⟩,.string ⟨#[]⟩,.bool false,.string ⟨#[]⟩,.string ⟨#[]⟩,.string isn,.string ⟨#[]⟩,.bool false,.bool false] 69)):=((Ext.refl w).alloc _).alloc _
        generalize hW:(w.alloc (.cells #[.int .i64 6,.string ip,.string id,.bool ir,.string ik,.string iv,.string isn,.string isp,.bool ia,.bool io] 69)).alloc (.cells #[.int .i64 0,.string ⟨#[]⟩,.string ⟨#[]⟩,.bool false,.string ⟨#[]⟩,.string ⟨#[]⟩,.string isn,.string ⟨#[]⟩,.bool false,.bool false] 69)=W6 at *
        have HW:=Hy hW
        clear hW
        have e0:=b0.cell;have le0:=b0.lt;have leK:=bK.lt
        have cK:=bK.cell;have fK:=bK.free;have f0:=b0.free
        have HE3:=Hy (show E=5 from by rw[HE2.out,<-HF7];rfl)
        clear HF7
        go_enter Tryz.func268,Tryz.ntmps268
        go_wp2_with fail
        rw[HW.out]
        go_wp2_with fail
        refine (CN.out _).mono ?_
        rintro e w' ⟨rfl,rfl⟩
        go_wp2
        go_ret
        have hxE:=hx0
        exact⟨ret_int HE3.out.symm,Ext.ad⟩
       ·clear b0 bK hx0 e0 le0 leK hxa HW
        have b0:=(Blk.new w 69 #[.int .i64 6,.string ip,.string id,.bool ir,.string ik,.string iv,.string isn,.string isp,.bool ia,.bool io]).alloc (.cells #[.int .i64 0,.string ⟨#[]⟩,.string ⟨#[]⟩,.bool false,.string ⟨#[]⟩,.string ⟨#[]⟩,.string isn,.string ⟨#[]⟩,.bool false,.bool false] 69)
        have bK:=Blk.new (w.alloc (.cells #[.int .i64 6,.string ip,.string id,.bool ir,.string ik,.string iv,.string isn,.string isp,.bool ia,.bool io] 69)) 69 #[.int .i64 0,.string ⟨#[]⟩,.string ⟨#[]⟩,.bool false,.string ⟨#[]⟩,.string ⟨#[]⟩,.string isn,.string ⟨#[]⟩,.bool false,.bool false]
        rw[World.size_alloc] at bK
        have hx0:Ext w ((w.alloc (.cells #[.int .i64 6,.string ip,.string id,.bool ir,.string ik,.string iv,.string isn,.string isp,.bool ia,.bool io] 69)).alloc (.cells #[.int .i64 0,.string ⟨#[]⟩,.string ⟨#[]⟩,.bool false,.string ⟨#[]⟩,.string ⟨#[]⟩,.string isn,.string ⟨#[]⟩,.bool false,.bool false] 69)):=((Ext.refl w).alloc _).alloc _
        generalize hW:(w.alloc (.cells #[.int .i64 6,.string ip,.string id,.bool ir,.string ik,.string iv,.string isn,.string isp,.bool ia,.bool io] 69)).alloc (.cells #[.int .i64 0,.string ⟨#[]⟩,.string ⟨#[]⟩,.bool false,.string ⟨#[]⟩,.string ⟨#[]⟩,.string isn,.string ⟨#[]⟩,.bool false,.bool false] 69)=W6 at *
        have HW:=Hy hW
        clear hW
        have e0:=b0.cell;have le0:=b0.lt;have leK:=bK.lt
        have cK:=bK.cell;have fK:=bK.free;have f0:=b0.free
        have HE3:=Hy (show E=if D=true then 0 else 2 from by rw[HE2.out,<-HF7];rfl)
        clear HF7
        cases D
        all_goals
         go_enter Tryz.func268,Tryz.ntmps268
         go_wp2_with fail
         rw[HW.out]
         go_wp2_with fail
         refine (CN.out _).mono ?_
         rintro e w' ⟨rfl,rfl⟩
         go_wp2
         go_ret
         have hxE:=hx0
         exact⟨ret_int (by rw[HE3.out];rfl),Ext.ad⟩
      ·have HE3:=Hy (show E=1 from by rw[HE.out,if_pos (by omega)])
       have e1:(k==1)=false:=by simpa using h1
       have e2:(k==2)=false:=by simpa using h2
       have e3:(k==3)=false:=by simpa using h3
       have e4:(k==4)=false:=by simpa using h4
       have e5:(k==5)=false:=by simpa using h5
       have e6:(k==6)=false:=by simpa using h6
       clear h1 h2 h3 h4 h5 h6
       have cK:=bK.cell;have fK:=bK.free;have f0:=b0.free
       go_enter Tryz.func268,Tryz.ntmps268
       go_wp2_with fail
       rw[HW.out]
       go_wp2
       go_ret
       exact⟨ret_int HE3.out.symm,hx0⟩
end Go.Proofs.YtmpccllnpcbgcaaGreatDoor
