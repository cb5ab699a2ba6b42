/- Contracts of outref2.SpotOf, itemError, StepError. -/
import Derived.Test.YtmpccllnpcbgcaaGreatDoorPk30
namespace Go.Proofs.YtmpccllnpcbgcaaGreatDoor
open Go.RowKit
set_option maxHeartbeats 2000000 in
set_option maxRecDepth 100000 in
theorem SpotOf_any (x:Itm) (w:World) :
 Calls Tryz.prog 140 #[itmV x] w fun e w'=>e=.returned (.agg #[.int .i64 (spotK x),.string (spotN x)])∧Ext w w':=by
 have HK:=Hy (show spotK x=if x.kind=5 then 2 else if x.kind=6 then 3 else 1 from rfl)
 have HN:=Hy (show spotN x=if x.kind=5 then x.key else if x.kind=6 then x.sn else x.path from rfl)
 generalize spotK x=K at *
 generalize spotN x=N at *
 obtain⟨k,ip,id,ir,ik,iv,isn,isp,ia,io⟩:=x
 dsimp only[itmV] at *
 by_cases h5:k=5
 ·subst h5
  go_enter Tryz.func140,Tryz.ntmps140
  go_wp2
  exact bodyPost_ret (v:=.agg #[.int .i64 2,.string ik]) (by simp[results,Tryz.results140,go_sem]) rfl ⟨by rw[HK.out,HN.out];rfl,((Ext.refl w).alloc _).alloc _⟩
 ·by_cases h6:k=6
  ·subst h6
   go_enter Tryz.func140,Tryz.ntmps140
   go_wp2
   exact bodyPost_ret (v:=.agg #[.int .i64 3,.string isn]) (by simp[results,Tryz.results140,go_sem]) rfl ⟨by rw[HK.out,HN.out];rfl,((Ext.refl w).alloc _).alloc _⟩
  ·have e5:(k==5)=false:=by simpa using h5
   have e6:(k==6)=false:=by simpa using h6
   have H5:=Hy h5
   have H6:=Hy h6
   clear h5 h6
   go_enter Tryz.func140,Tryz.ntmps140
   go_wp2
   exact bodyPost_ret (v:=.agg #[.int .i64 1,.string ip]) (by simp[results,Tryz.results140,go_sem]) rfl ⟨by rw[HK.out,HN.out,if_neg H5.out,if_neg H6.out,if_neg H5.out,if_neg H6.out],((Ext.refl w).alloc _).alloc _⟩
theorem toL_nil (s:ByteArray):(s.toList=[])=(s=⟨#[]⟩):=propext ⟨fun h=>emp_zero.1 (size_zero h),fun h=>by rw[h,ByteArray.toList_eq]⟩
theorem str_emp {s:ByteArray}:decide (s=⟨#[]⟩)=decide (s.size=0):=by rw[decide_eq_decide];exact emp_zero.symm
section
set_option maxRecDepth 100000
theorem neq_file (x:Itm) (w:World):(binOp .neq 63 (.agg #[.string x.path,.string x.data,.bool x.runs]) (.agg #[.string ⟨#[]⟩,.string ⟨#[]⟩,.bool false])).run Tryz.prog w=.ok (.bool (!noF x)) w:=by
 have h:∀ d,(Op.equalIn (d+2) 63 (.agg #[.string x.path,.string x.data,.bool x.runs]) (.agg #[.string ⟨#[]⟩,.string ⟨#[]⟩,.bool false])).run Tryz.prog w=.ok (noF x) w:=fun d=>by
  rw[run_equalIn_agg w (d+1) 63 _ _ (by kernel_rfl) (by kernel_rfl)]
  go_simp
  unfold noF
  rw[<-str_emp,<-str_emp]
  by_cases h1:x.path=⟨#[]⟩<;>by_cases h2:x.data=⟨#[]⟩<;>cases hr:x.runs<;>simp[h1,h2,toL_nil]
 rw[run_neq_struct,h 9998]
 rfl
theorem neq_set (x:Itm) (w:World):(binOp .neq 65 (.agg #[.string x.key,.string x.val]) (.agg #[.string ⟨#[]⟩,.string ⟨#[]⟩])).run Tryz.prog w=.ok (.bool (!noS x)) w:=by
 have h:∀ d,(Op.equalIn (d+2) 65 (.agg #[.string x.key,.string x.val]) (.agg #[.string ⟨#[]⟩,.string ⟨#[]⟩])).run Tryz.prog w=.ok (noS x) w:=fun d=>by
  rw[run_equalIn_agg w (d+1) 65 _ _ (by kernel_rfl) (by kernel_rfl)]
  go_simp
  unfold noS
  rw[<-str_emp,<-str_emp]
  by_cases h1:x.key=⟨#[]⟩<;>by_cases h2:x.val=⟨#[]⟩<;>simp[h1,h2,toL_nil]
 rw[run_neq_struct,h 9998]
 rfl
theorem neq_svc (x:Itm) (w:World):(binOp .neq 67 (.agg #[.string x.sn,.string x.sp,.bool x.auto,.bool x.on]) (.agg #[.string ⟨#[]⟩,.string ⟨#[]⟩,.bool false,.bool false])).run Tryz.prog w=.ok (.bool (!noV x)) w:=by
 have h:∀ d,(Op.equalIn (d+2) 67 (.agg #[.string x.sn,.string x.sp,.bool x.auto,.bool x.on]) (.agg #[.string ⟨#[]⟩,.string ⟨#[]⟩,.bool false,.bool false])).run Tryz.prog w=.ok (noV x) w:=fun d=>by
  rw[run_equalIn_agg w (d+1) 67 _ _ (by kernel_rfl) (by kernel_rfl)]
  go_simp
  unfold noV
  rw[<-str_emp,<-str_emp]
  by_cases h1:x.sn=⟨#[]⟩<;>by_cases h2:x.sp=⟨#[]⟩<;>cases hr:x.auto<;>cases ho:x.on<;>simp[h1,h2,toL_nil]
 rw[run_neq_struct,h 9998]
 rfl
end
set_option maxHeartbeats 16000000 in
set_option maxRecDepth 100000 in
theorem itemError_any (x:Itm) (w:World) (hg:Good w) (hs:SmallI x) :
 Calls Tryz.prog 196 #[itmV x] w fun e w'=>e=.returned (.int .i64 (itErr x))∧Ext w w':=by
 have CP1:=Hy (fun W (h:Ext w W)=>PathOf_any x.path W (hg.ext h) hs.path)
 have CP2:=Hy (fun W (h:Ext w W)=>PathOf_any x.key W (hg.ext h) hs.key)
 have CP3:=Hy (fun W (h:Ext w W)=>PathOf_any x.sp W (hg.ext h) hs.sp)
 have CV:=Hy (fun W=>ValueOf_any x.val W hs.val)
 have CN:=Hy (fun W=>NameOf_any x.sn W hs.sn)
 have q1:=neq_file x
 have q2:=neq_set x
 have q3:=neq_svc x
 have HE:=Hy (itErr.eq_1 x)
 have hds:=hs.data
 clear hg hs
 generalize itErr x=E at *
 generalize noF x=nF at *
 generalize noS x=nS at *
 generalize noV x=nV at *
 obtain⟨k,ip,id,ir,ik,iv,isn,isp,ia,io⟩:=x
 dsimp only[itmV] at *
 generalize pathL (bs ip)=P1 at *
 generalize pathL (bs ik)=P2 at *
 generalize pathL (bs isp)=P3 at *
 generalize valueL (bs iv)=V at *
 generalize nameL (bs isn)=N at *
 have b0:=Blk.new w 104 #[.int .i64 k,.string ip,.string id,.bool ir,.string ik,.string iv,.string isn,.string isp,.bool ia,.bool io]
 have hx1:Ext w (w.alloc (.cells #[.int .i64 k,.string ip,.string id,.bool ir,.string ik,.string iv,.string isn,.string isp,.bool ia,.bool io] 104)):=(Ext.refl w).alloc _
 generalize hW:w.alloc (.cells #[.int .i64 k,.string ip,.string id,.bool ir,.string ik,.string iv,.string isn,.string isp,.bool ia,.bool io] 104)=W0 at *
 have HW:=Hy hW
 clear hW
 have e0:=b0.cell;have l0:=b0.lt
 by_cases hf:1<=k∧k<=4
 ·obtain⟨D,hD⟩:∃ D,decide (65536 < id.size)=D:=⟨_,rfl⟩
  have HE1:=Hy (show E=firstI [(if (!P1)=true then 5 else 0),(if D=true then 4 else 0),(if (!nS||!nV)=true then 2 else 0)] from by
   rw[HE.out,if_neg (by omega),if_neg (by omega),if_neg (by omega),<-hD]
   cases P1<;>cases nS<;>cases nV<;>simp)
  have hd2:decide ((65536:Int) < (id.size:Int))=D:=by rw[<-hD,decide_eq_decide];omega
  clear hD HE
  have CW1:=Hy (fun W=>When_any (!P1) 5 W)
  have CW2:=Hy (fun W=>When_any D 4 W)
  have CW3:=Hy (fun W=>When_any (!nS||!nV) 2 W)
  obtain⟨X1,hX1⟩:∃ X,(if (!P1)=true then (5:Int) else 0)=X:=⟨_,rfl⟩
  obtain⟨X2,hX2⟩:∃ X,(if D=true then (4:Int) else 0)=X:=⟨_,rfl⟩
  obtain⟨X3,hX3⟩:∃ X,(if (!nS||!nV)=true then (2:Int) else 0)=X:=⟨_,rfl⟩
  rw[hX1,hX2,hX3] at HE1
  rw[hX1] at CW1
  rw[hX2] at CW2
  rw[hX3] at CW3
  clear hX1 hX2 hX3
  rcases (show k=1∨k=2∨k=3∨k=4 by omega) with rfl|rfl|rfl|rfl
  all_goals
   clear hf
   cases nS
   all_goals
    simp only[Bool.not_false,Bool.not_true,Bool.true_or,Bool.false_or] at CW3
    go_enter Tryz.func196,Tryz.ntmps196
    go_wp2_with fail
    rw[HW.out]
    refine wp_region_ext (by kernel_rfl) (by kernel_rfl) ?_
    repeat (first|go_big_quiet_skip|(refine wpQuiet_step (fun K hK=>?_);go_simp;first|(refine hK _ ?_;clear hK K)|(apply Exists.intro;refine⟨fun wq hwq=>?_,hK _ ?_⟩;(obtain⟨hqc,hqf⟩:=hwq.cells;have hqs:=hwq.size;(try go_simp);first|rfl|((first|rw[if_neg (by omega)]|rw[if_pos (by omega)]);(try go_simp);rfl)|((fail)));clear hK K)))
    refine wpQuiet_nil ?_
    intro wA hxA
    obtain⟨hcA,hfA⟩:=hxA.cells
    have hsA:=hxA.size
    have hx2:=hx1.trans hxA
    have b1:=b0.ext hxA
    clear e0 l0 hxA hcA hfA hsA q1 q2 q3
    have e1:=b1.cell;have l1:=b1.lt
    go_wp2_with fail
    refine wp_region_ext_tail 17 (by kernel_rfl) (by kernel_rfl) ?_
    simp only[List.take_succ_cons,List.take_zero,List.drop_succ_cons,List.drop_zero]
    repeat (first|go_big_quiet_skip|(refine wpQuiet_step (fun K hK=>?_);go_simp;first|(refine hK _ ?_;clear hK K)|(apply Exists.intro;refine⟨fun wq hwq=>?_,hK _ ?_⟩;(obtain⟨hqc,hqf⟩:=hwq.cells;have hqs:=hwq.size;(try go_simp);first|rfl|((first|rw[if_neg (by omega)]|rw[if_pos (by omega)]);(try go_simp);rfl)|(((first|(go_at_call 21;exact (CP1.out _ (hx2.trans hwq)).mono (fun e w'' h=>⟨h.1,hwq.trans h.2⟩))|(go_at_call 46;exact (CW1.out _).mono (fun e w'' h=>⟨h.1,h.2 ▸ hwq⟩))|(go_at_call 46;exact (CW2.out _).mono (fun e w'' h=>⟨h.1,h.2 ▸ hwq⟩))|(go_at_call 46;exact (CW3.out _).mono (fun e w'' h=>⟨h.1,h.2 ▸ hwq⟩))))));clear hK K)))
    refine wpQuiet_nil ?_
    intro wN hxN
    obtain⟨hcN,hfN⟩:=hxN.cells
    have hsN:=hxN.size
    go_wp2_with fail
    refine (First_any _ _ [X1,X2,X3] _ ?_ (by simp)).mono ?_
    ·intro k hk
     rw[World.cell?_alloc_at _ _ _ _ rfl]
     match k,hk with
     | 0,_=>rfl
     | 1,_=>rfl
     | 2,_=>rfl
    rw[<-HE1.out]
    rintro e w' ⟨rfl,rfl⟩
    go_wp2
    go_ret
    exact⟨rfl,(hx2.trans hxN).alloc _⟩
 ·by_cases h5:k=5
  ·subst h5
   have HE1:=Hy (show E=firstI [(if (!P2)=true then 5 else 0),(if (!V)=true then 2 else 0),(if (!nF||!nV)=true then 2 else 0)] from by
    rw[HE.out,if_neg (by omega),if_pos rfl]
    cases P2<;>cases V<;>cases nF<;>cases nV<;>rfl)
   clear HE hf
   have CW1:=Hy (fun W=>When_any (!P2) 5 W)
   have CW2:=Hy (fun W=>When_any (!V) 2 W)
   have CW3:=Hy (fun W=>When_any (!nF||!nV) 2 W)
   obtain⟨X1,hX1⟩:∃ X,(if (!P2)=true then (5:Int) else 0)=X:=⟨_,rfl⟩
   obtain⟨X2,hX2⟩:∃ X,(if (!V)=true then (2:Int) else 0)=X:=⟨_,rfl⟩
   obtain⟨X3,hX3⟩:∃ X,(if (!nF||!nV)=true then (2:Int) else 0)=X:=⟨_,rfl⟩
   rw[hX1,hX2,hX3] at HE1
   rw[hX1] at CW1
   rw[hX2] at CW2
   rw[hX3] at CW3
   clear hX1 hX2 hX3
   cases nF
   all_goals
    simp only[Bool.not_false,Bool.not_true,Bool.true_or,Bool.false_or] at CW3
    go_enter Tryz.func196,Tryz.ntmps196
    go_wp2_with fail
    rw[HW.out]
    refine wp_region_ext (by kernel_rfl) (by kernel_rfl) ?_
    repeat (first|go_big_quiet_skip|(refine wpQuiet_step (fun K hK=>?_);go_simp;first|(refine hK _ ?_;clear hK K)|(apply Exists.intro;refine⟨fun wq hwq=>?_,hK _ ?_⟩;(obtain⟨hqc,hqf⟩:=hwq.cells;have hqs:=hwq.size;(try go_simp);first|rfl|((first|rw[if_neg (by omega)]|rw[if_pos (by omega)]);(try go_simp);rfl)|((fail)));clear hK K)))
    refine wpQuiet_nil ?_
    intro wA hxA
    obtain⟨hcA,hfA⟩:=hxA.cells
    have hsA:=hxA.size
    have hx2:=hx1.trans hxA
    have b1:=b0.ext hxA
    clear e0 l0 hxA hcA hfA hsA q1 q2 q3
    have e1:=b1.cell;have l1:=b1.lt
    go_wp2_with fail
    refine wp_region_ext_tail 17 (by kernel_rfl) (by kernel_rfl) ?_
    simp only[List.take_succ_cons,List.take_zero,List.drop_succ_cons,List.drop_zero]
    repeat (first|go_big_quiet_skip|(refine wpQuiet_step (fun K hK=>?_);go_simp;first|(refine hK _ ?_;clear hK K)|(apply Exists.intro;refine⟨fun wq hwq=>?_,hK _ ?_⟩;(obtain⟨hqc,hqf⟩:=hwq.cells;have hqs:=hwq.size;(try go_simp);first|rfl|((first|rw[if_neg (by omega)]|rw[if_pos (by omega)]);(try go_simp);rfl)|(((first|(go_at_call 21;exact (CP2.out _ (hx2.trans hwq)).mono (fun e w'' h=>⟨h.1,hwq.trans h.2⟩))|(go_at_call 23;exact (CV.out _).mono (fun e w'' h=>⟨h.1,h.2 ▸ hwq⟩))|(go_at_call 46;exact (CW1.out _).mono (fun e w'' h=>⟨h.1,h.2 ▸ hwq⟩))|(go_at_call 46;exact (CW2.out _).mono (fun e w'' h=>⟨h.1,h.2 ▸ hwq⟩))|(go_at_call 46;exact (CW3.out _).mono (fun e w'' h=>⟨h.1,h.2 ▸ hwq⟩))))));clear hK K)))
    refine wpQuiet_nil ?_
    intro wN hxN
    obtain⟨hcN,hfN⟩:=hxN.cells
    have hsN:=hxN.size
    go_wp2_with fail
    refine (First_any _ _ [X1,X2,X3] _ ?_ (by simp)).mono ?_
    ·intro k hk
     rw[World.cell?_alloc_at _ _ _ _ rfl]
     match k,hk with
     | 0,_=>rfl
     | 1,_=>rfl
     | 2,_=>rfl
    rw[<-HE1.out]
    rintro e w' ⟨rfl,rfl⟩
    go_wp2
    go_ret
    exact⟨rfl,(hx2.trans hxN).alloc _⟩
  ·by_cases h6:k=6
   ·subst h6
    have HE1:=Hy (show E=firstI [(if (!N||!P3)=true then 5 else 0),(if ((!nF||!nS)||io)=true then 2 else 0)] from by
     rw[HE.out,if_neg (by omega),if_neg (by omega),if_pos rfl]
     cases N<;>cases P3<;>cases nF<;>cases nS<;>cases io<;>rfl)
    clear HE hf h5
    have CW1:=Hy (fun W=>When_any (!N||!P3) 5 W)
    have CW2:=Hy (fun W=>When_any ((!nF||!nS)||io) 2 W)
    obtain⟨X1,hX1⟩:∃ X,(if (!N||!P3)=true then (5:Int) else 0)=X:=⟨_,rfl⟩
    obtain⟨X2,hX2⟩:∃ X,(if ((!nF||!nS)||io)=true then (2:Int) else 0)=X:=⟨_,rfl⟩
    rw[hX1,hX2] at HE1
    rw[hX1] at CW1
    rw[hX2] at CW2
    clear hX1 hX2
    cases nF<;>cases nS
    all_goals
     cases N
     ·simp only[Bool.not_false,Bool.true_or] at CW1
      simp only[Bool.not_false,Bool.not_true,Bool.true_or,Bool.false_or,Bool.or_false,Bool.or_true] at CW2
      go_enter Tryz.func196,Tryz.ntmps196
      go_wp2_with fail
      rw[HW.out]
      refine wp_region_ext (by kernel_rfl) (by kernel_rfl) ?_
      repeat (first|go_big_quiet_skip|(refine wpQuiet_step (fun K hK=>?_);go_simp;first|(refine hK _ ?_;clear hK K)|(apply Exists.intro;refine⟨fun wq hwq=>?_,hK _ ?_⟩;(obtain⟨hqc,hqf⟩:=hwq.cells;have hqs:=hwq.size;(try go_simp);first|rfl|((first|rw[if_neg (by omega)]|rw[if_pos (by omega)]);(try go_simp);rfl)|((fail)));clear hK K)))
      refine wpQuiet_nil ?_
      intro wA hxA
      obtain⟨hcA,hfA⟩:=hxA.cells
      have hsA:=hxA.size
      have hx2:=hx1.trans hxA
      have b1:=b0.ext hxA
      clear e0 l0 hxA hcA hfA hsA q1 q2 q3
      have e1:=b1.cell;have l1:=b1.lt
      go_wp2_with fail
      refine (CN.out _).mono ?_
      rintro e w3 ⟨rfl,hx3⟩
      have hx4:=hx2.trans hx3
      have b3:=b1.ext hx3
      have e3:=b3.cell;have l3:=b3.lt
      go_wp2_with fail
      refine (CW1.out _).mono ?_
      rintro e w' ⟨rfl,rfl⟩
      go_wp2_with fail
      refine (CW2.out _).mono ?_
      rintro e w' ⟨rfl,rfl⟩
      go_wp2_with fail
      refine (First_any _ _ [X1,X2] _ ?_ (by simp)).mono ?_
      ·intro k hk
       rw[World.cell?_alloc_at _ _ _ _ rfl]
       match k,hk with
       | 0,_=>rfl
       | 1,_=>rfl
      rw[<-HE1.out]
      rintro e w' ⟨rfl,rfl⟩
      go_wp2
      go_ret
      exact⟨rfl,(hx4).alloc _⟩
     ·simp only[Bool.not_true,Bool.false_or] at CW1
      simp only[Bool.not_false,Bool.not_true,Bool.true_or,Bool.false_or,Bool.or_false,Bool.or_true] at CW2
      go_enter Tryz.func196,Tryz.ntmps196
      go_wp2_with fail
      rw[HW.out]
      refine wp_region_ext (by kernel_rfl) (by kernel_rfl) ?_
      repeat (first|go_big_quiet_skip|(refine wpQuiet_step (fun K hK=>?_);go_simp;first|(refine hK _ ?_;clear hK K)|(apply Exists.intro;refine⟨fun wq hwq=>?_,hK _ ?_⟩;(obtain⟨hqc,hqf⟩:=hwq.cells;have hqs:=hwq.size;(try go_simp);first|rfl|((first|rw[if_neg (by omega)]|rw[if_pos (by omega)]);(try go_simp);rfl)|((fail)));clear hK K)))
      refine wpQuiet_nil ?_
      intro wA hxA
      obtain⟨hcA,hfA⟩:=hxA.cells
      have hsA:=hxA.size
      have hx2:=hx1.trans hxA
      have b1:=b0.ext hxA
      clear e0 l0 hxA hcA hfA hsA q1 q2 q3
      have e1:=b1.cell;have l1:=b1.lt
      go_wp2_with fail
      refine (CN.out _).mono ?_
      rintro e w3 ⟨rfl,hx3⟩
      have hx4:=hx2.trans hx3
      have b3:=b1.ext hx3
      have e3:=b3.cell;have l3:=b3.lt
      go_wp2_with fail
      refine (CP3.out _ hx4).mono ?_
      rintro e w5 ⟨rfl,hx5⟩
      have hx6:=hx4.trans hx5
      have b5:=b3.ext hx5
      have e5:=b5.cell;have l5:=b5.lt
      go_wp2_with fail
      refine (CW1.out _).mono ?_
      rintro e w' ⟨rfl,rfl⟩
      go_wp2_with fail
      refine (CW2.out _).mono ?_
      rintro e w' ⟨rfl,rfl⟩
      go_wp2_with fail
      refine (First_any _ _ [X1,X2] _ ?_ (by simp)).mono ?_
      ·intro k hk
       rw[World.cell?_alloc_at _ _ _ _ rfl]
       match k,hk with
       | 0,_=>rfl
       | 1,_=>rfl
      rw[<-HE1.out]
      rintro e w' ⟨rfl,rfl⟩
      go_wp2
      go_ret
      exact⟨rfl,(hx6).alloc _⟩
   ·have HE1:=Hy (show E=1 from by rw[HE.out,if_pos (by omega)])
    have n1:(k==1)=false:=by rw[beq_eq_false_iff_ne];omega
    have n2:(k==2)=false:=by rw[beq_eq_false_iff_ne];omega
    have n3:(k==3)=false:=by rw[beq_eq_false_iff_ne];omega
    have n4:(k==4)=false:=by rw[beq_eq_false_iff_ne];omega
    have n5:(k==5)=false:=by rw[beq_eq_false_iff_ne];omega
    have n6:(k==6)=false:=by rw[beq_eq_false_iff_ne];omega
    clear hf h5 h6 HE
    go_enter Tryz.func196,Tryz.ntmps196
    go_wp2_with fail
    rw[HW.out]
    refine wp_region_ext (by kernel_rfl) (by kernel_rfl) ?_
    repeat (first|go_big_quiet_skip|(refine wpQuiet_step (fun K hK=>?_);go_simp;first|(refine hK _ ?_;clear hK K)|(apply Exists.intro;refine⟨fun wq hwq=>?_,hK _ ?_⟩;(obtain⟨hqc,hqf⟩:=hwq.cells;have hqs:=hwq.size;(try go_simp);first|rfl|((first|rw[if_neg (by omega)]|rw[if_pos (by omega)]);(try go_simp);rfl)|((fail)));clear hK K)))
    refine wpQuiet_nil ?_
    intro wA hxA
    obtain⟨hcA,hfA⟩:=hxA.cells
    have hsA:=hxA.size
    have hx2:=hx1.trans hxA
    have b1:=b0.ext hxA
    clear e0 l0 hxA hcA hfA hsA q1 q2 q3
    have e1:=b1.cell;have l1:=b1.lt
    go_wp2
    go_ret
    exact⟨ret_int HE1.out.symm,hx2⟩
end Go.Proofs.YtmpccllnpcbgcaaGreatDoor
