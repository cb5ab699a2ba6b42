/- Contract of outref2.MachineError. -/
import Derived.Test.YtmnafaaijglnfaaGreatDoorOm35
namespace Go.Proofs.YtmnafaaijglnfaaGreatDoor
open Go.RowKit
theorem firstI_pair (a:Int) (l:List Int):firstI (a::l)=firstI [a,firstI l]:=by
 by_cases h:a=0<;>simp[firstI,h]
theorem first_snocO (a:Int) {l:List Int} {k:Nat} (h:k < l.length):firstI (a::l.take (k+1))=firstI [firstI (a::l.take k),l[k]]:=by
 have:=firstI_take (l:=a::l) (k:=k+1) (by simpa using h)
 simpa using this
theorem first4 (f a b c:Int):firstI [f,a,b,c]=firstI [f,firstI [a,b,c]]:=firstI_pair f [a,b,c]
theorem mac_err (m:Mac):macErr m=firstI [firstI [firstI [nmErr m.name,insErr m.inst],seErr nameL m.facts,seErr pathL m.sets],pinErr m.pins]:=by
 unfold macErr
 simp only[firstI]
 by_cases h:nmErr m.name=0<;>by_cases h2:insErr m.inst=0<;>by_cases h3:seErr nameL m.facts=0<;>by_cases h4:seErr pathL m.sets=0<;>simp[h,h2,h3,h4]
set_option maxHeartbeats 16000000 in
set_option maxRecDepth 100000 in
theorem MachineError_any (m:Mac) (A:Option Addr) (n c:Nat) (Af:Option Addr) (nf cf:Nat) (As:Option Addr) (ns cs:Nat) (Ap:Option Addr) (np cp:Nat) (w:World) (hg:GoodN w) (hm:MacIn w m A n Af nf As ns Ap np cp) (hs:SmallM m) :
 Calls Tryz.prog 61 #[macV m A n c Af nf cf As ns cs Ap np cp] w fun e w'=>e=.returned (.int .i64 (macErr m))∧Ext w w':=by
 have HME:=Hy (mac_err m)
 have CN:=Hy (fun W=>NameOf_any m.name W hs.name)
 have CL1:=Hy (fun W (h:Ext w W)=>ListErrorF_any Af nf cf m.facts W (hg.toGood.ext h) hm.ef (hm.rf.ext h) hs.facts (by rw[<-hm.ef];exact hs.lf))
 have CL2:=Hy (fun W (h:Ext w W)=>ListErrorS_any As ns cs m.sets W (hg.toGood.ext h) hm.es (hm.rs.ext h) hs.sets (by rw[<-hm.es];exact hs.ls))
 have HG:=Hy hg;have HMI:=Hy hm;have HS:=Hy hs
 have hnl:n<=2097152:=by rw[<-hm.ei];exact hs.li
 have hpl:np<=2097152:=by rw[<-hm.ep];exact hs.lp
 have hcap:=hm.cap
 clear hg hm hs
 obtain⟨mn,mi,mf,ms,mp⟩:=m
 dsimp only[macV] at *
 generalize macErr ⟨mn,mi,mf,ms,mp⟩=E at *
 generalize seErr nameL mf=E1 at *
 generalize seErr pathL ms=E2 at *
 have HNM:=Hy (show nmErr mn=if nameL (bs mn)=true then 0 else 5 from rfl)
 generalize nmErr mn=F0 at *
 have CW:=Hy (show ∀ q W,Calls Tryz.prog 38 #[.bool (!q),.int .i64 5] W fun e w'=>e=.returned (.int .i64 (if q=true then 0 else 5))∧W=w' from fun q W=>(When_any (!q) 5 W).mono fun e w' h=>⟨h.1.trans (ret_int (by cases q<;>rfl)),h.2⟩)
 have CWG:=Hy (show ∀ q (z:Int) W,Calls Tryz.prog 38 #[.bool q,.int .i64 z] W fun e w'=>e=.returned (.int .i64 (if q=true then z else 0))∧W=w' from fun q z W=>When_any q z W)
 generalize nameL (bs mn)=Q0 at *
 have b0:=Blk.new w 96 #[.string mn,.slice A n c,.slice Af nf cf,.slice As ns cs,.slice Ap np cp]
 have hx0:Ext w (w.alloc (.cells #[.string mn,.slice A n c,.slice Af nf cf,.slice As ns cs,.slice Ap np cp] 96)):=(Ext.refl w).alloc _
 have e0:=b0.cell;have l0:=b0.lt
 go_enter Tryz.func61,Tryz.ntmps61
 go_wp2_with fail
 refine (CN.out _).mono ?_
 rintro e w1 ⟨rfl,hx1⟩
 go_wp2_with fail
 refine (CW.out Q0 _).mono ?_
 rw[<-HNM.out]
 rintro e w' ⟨rfl,rfl⟩
 have B1:=Hy (b0.ext hx1)
 have hx01:=hx0.trans hx1
 clear e0 l0 b0 hx0 hx1 HNM CN
 have e0:=B1.out.cell;have l0:=B1.out.lt
 go_wp2
 clear e0 l0
 go_loopw [3,16] (fun s3 i wr=>∃ k:Nat,k<=n∧i=.int .i64 k∧s3=.int .i64 (firstI (F0::(insErrs mi).take k))∧Hid (Blk wr w.heap.size 96 #[.string mn,.slice A n c,.slice Af nf cf,.slice As ns cs,.slice Ap np cp])∧Ext w wr) (fun _ i _=>n - (intOf i).toNat)
 case atStart=>exact⟨0,Nat.zero_le _,rfl,by simp[firstI],B1,hx01⟩
 case round =>
  clear B1 hx01
  obtain⟨k,hk,rfl,rfl,HB,hxr⟩:=hrel
  obtain⟨wo,rfl⟩:∃ wo:World,wo=wr:=⟨_,rfl⟩
  by_cases hlt:k < n
  ·have hk1:k < mi.length:=by rw[HMI.out.ei];exact hlt
   obtain⟨b,i0,rfl,hX⟩:=(HMI.out.ri.ext hxr) (fun e=>by have:mi=[]:=e;rw[this] at hk1;exact absurd hk1 (Nat.not_lt_zero _))
   dsimp only at hX
   obtain⟨A1,m1,c1,wt,hrow⟩:=hX k hk1
   have LD:=hrow.load
   have lx:=lt_of_cell (hrow 0 _ rfl)
   have hsm:=HS.out.inst _ (List.getElem_mem hk1)
   have hke:k < (insErrs mi).length:=by rw[insErrs_length];exact hk1
   have HDEF:=Hy (show (insErrs mi)[k]=_ from (insErrs_get mi k hke).trans (insAt_get hk1))
   have HTK:=Hy (first_snocO F0 hke)
   have HPREV:=Hy (show k=0∨∃ j,k=j+1∧wo.cell? ⟨b,i0+j * 7,none⟩=some (.string (mi.getD (k - 1) zeroI).name) from by
    rcases Nat.eq_zero_or_pos k with e|e
    ·exact .inl e
    ·obtain⟨j,rfl⟩:∃ j,k=j+1:=⟨k - 1,by omega⟩
     obtain⟨A2,m2,c2,wt2,hrow2⟩:=hX j (by omega)
     refine .inr ⟨j,rfl,?_⟩
     have e:mi.getD (j+1 - 1) zeroI=mi[j]'(by omega):=by simp[List.getD,List.getElem?_eq_getElem (show j < mi.length by omega)]
     rw[e]
     exact hrow2 0 _ rfl)
   have CNX:=Hy (fun W=>NameOf_any mi[k].name W hsm.1)
   have CVX:=Hy (show ∀ b cp W,Ext w W->VerS W b [mi[k].vv]->Calls Tryz.prog 10 #[.slice (some ⟨b,0,none⟩) 1 cp] W fun e w'=>e=.returned (.int .i64 mi[k].vv.err)∧Ext W w' from fun b cp W h hv=>by
    have:=VersionError_any b cp [mi[k].vv] W (HG.out.toGood.ext h) hv (fun v hv=>by rw[List.mem_singleton] at hv;rw[hv];exact hsm.2) (by simp)
    have e:firstI ([mi[k].vv].map V4.err)=mi[k].vv.err:=by
     simp only[List.map_cons,List.map_nil,firstI]
     split
     ·rename_i h;exact h.symm
     ·rfl
    rw[e] at this
    exact this)
   generalize (mi.getD (k - 1) zeroI).name=pn at *
   generalize (insErrs mi)[k]=IA at *
   clear hX hrow hsm hke
   generalize mi[k]=x at *
   obtain⟨xn,⟨v1,v2,v3,va⟩⟩:=x
   dsimp only[insV] at LD CVX CNX HDEF
   have HDEF:=Hy (show IA=firstI [if nameL (bs xn)=true then 0 else 5,V4.err ⟨v1,v2,v3,va⟩,if k=0 then 0 else insGap pn xn] from HDEF.out)
   generalize V4.err ⟨v1,v2,v3,va⟩=EV at *
   generalize nameL (bs xn)=Q at *
   generalize firstI (F0::(insErrs mi).take k)=F at *
   have hxa:Ext wo (wo.alloc (.cells #[.string xn,.int .i64 v1,.int .i64 v2,.int .i64 v3,.string va,.slice A1 m1 c1,.bool wt] 178)):=(Ext.refl wo).alloc _
   go_upto_region 4 with fail
   go_cut [4,5] (fun s4 s5 wx=>s4=.int .i64 k∧s5=.pointer (some ⟨wo.heap.size,0,none⟩)∧Hid (Blk wx wo.heap.size 178 #[.string xn,.int .i64 v1,.int .i64 v2,.int .i64 v3,.string va,.slice A1 m1 c1,.bool wt])∧Ext wo wx)
   case first=>as_aux_lemma =>
    go_wp2_with (refine wpList_load_at rfl _ _ rfl _ rfl _ LD ?_)
    go_meet
    case rel=>exact⟨rfl,rfl,Hy (Blk.new wo _ _),hxa⟩
   case rest =>
   clear LD hxa
   obtain⟨rfl,rfl,HX,hxA⟩:=hcut
   obtain⟨wA,rfl⟩:∃ wA:World,wA=wc:=⟨_,rfl⟩
   have hxwA:=hxr.trans hxA
   have BA:=Hy (HB.out.ext hxA)
   have e0:=BA.out.cell;have l0:=BA.out.lt;have e1:=HX.out.cell;have l1:=HX.out.lt
   obtain⟨X1,hX1⟩:∃ X,(if Q=true then (0:Int) else 5)=X:=⟨_,rfl⟩
   have CW1:=Hy (show ∀ W,Calls Tryz.prog 38 #[.bool (!Q),.int .i64 5] W fun e w'=>e=.returned (.int .i64 X1)∧W=w' from fun W=>by rw[<-hX1];exact CW.out Q W)
   rw[hX1] at HDEF
   clear hX1
   rcases HPREV.out with hk0|⟨j,rfl,hpc⟩
   ·subst hk0
    have CFI:=Hy (fun b cp W (h:∀ k (hk:k < [F,X1,EV,0].length),World.cell? W ⟨b,k,none⟩=some (.int .i64 [F,X1,EV,0][k]))=>First_any b cp [F,X1,EV,0] W h (by simp))
    rw[show firstI [F,X1,EV,0]=firstI (F0::(insErrs mi).take (0+1)) from by rw[HTK.out,HDEF.out,first4];simp] at CFI
    have CW2:=Hy (show ∀ W,Calls Tryz.prog 38 #[.bool false,.int .i64 7] W fun e w'=>e=.returned (.int .i64 0)∧W=w' from fun W=>CWG.out false 7 W)
    obtain⟨FN,hFN⟩:∃ FN,firstI (F0::(insErrs mi).take (0+1))=FN:=⟨_,rfl⟩
    rw[hFN] at CFI
    have HFN:=Hy hFN
    clear hFN
    go_upto_region 5 with fail
    refine wp_region_growT [28] [] (fun _=>True) (tops:=[_]) (by kernel_rfl) (by kernel_rfl) rfl ?_
    apply Exists.intro
    repeat (first|(apply growT_tail (by rfl);(try simp only[Act.put,List.setIfInBounds_toArray,List.set_cons_zero,List.set_cons_succ]))|(apply growT_skip;(focus exact rfl);(try simp only[Act.put,List.setIfInBounds_toArray,List.set_cons_zero,List.set_cons_succ]))|(apply growT_late (by rfl) (by rfl);(focus exact rfl);(focus (intro wq hq;first|(go_simp;done)|(go_simp;rfl)|(rcases hq with hq|hq;rotate_left;(focus ((try dsimp only at hq);go_simp;try rfl));(focus ((obtain⟨hqc,hqf⟩:=hq.ext.cells);have hqs:=hq.ext.size;go_simp;try rfl)))));(try simp only[Act.put,List.setIfInBounds_toArray,List.set_cons_zero,List.set_cons_succ]))|(apply growT_one (by rfl) (by rfl);(focus exact rfl);(focus (intro wq hwq;(obtain⟨hqc,hqf⟩:=hwq.ext.cells);have hqs:=hwq.ext.size;unfold Oper.quietAt;(try go_simp);first|rfl|(first|(go_at_call 19;exact CNX.out _)|(go_at_call 38;first|with_reducible exact callsExt (CW1.out _)|with_reducible exact callsExt (CW2.out _))|(go_at_call 10;have hb:=hwq.blkN 8 rfl rfl;exact CVX.out _ _ _ (hxwA.trans hwq.ext) (VerS.one (hb.cell 0) (hb.cell 1) (hb.cell 2) (hb.cell 3)))|(go_at_call 11;have hb:=hwq.blkN 26 rfl rfl;exact callsExt (CFI.out _ _ _ (by intro k hk;rw[hb.cell];match k,hk with|0,_=>rfl|1,_=>rfl|2,_=>rfl|3,_=>rfl))))));(try simp only[Act.put,List.setIfInBounds_toArray,List.set_cons_zero,List.set_cons_succ]))|(apply growT_new (by rfl) (by rfl);(focus exact rfl);(focus (intro wq;go_simp;first|exact⟨⟨rfl,rfl⟩,rfl⟩|exact⟨rfl,rfl⟩|rfl));intro b;(try simp only[Act.put,List.setIfInBounds_toArray,List.set_cons_zero,List.set_cons_succ])))
    refine growT_nil ?_
    intro wN hxN hFN
    refine wpTail_of_list (ops:=#[]) _ _ _ rfl ?_
    go_wp2_with fail
    refine OnlyNormal.intro ?_
    have BN:=Hy (BA.out.ext hxN)
    clear e0 l0 e1 l1
    go_wp2
    go_roundw
    case rel=>exact⟨1,by omega,rfl,by rw[<-HFN.out],BN,hxwA.trans hxN⟩
    case measure=>simp[intOf];omega
   ·have hpc2:=hxA.cell hpc
    have lp:=lt_of_cell hpc2
    obtain⟨X3,hX3⟩:∃ X,insGap pn xn=X:=⟨_,rfl⟩
    have CW2:=Hy (show ∀ W,Calls Tryz.prog 38 #[.bool (Op.bytesLess xn.toList pn.toList||xn.toList==pn.toList),.int .i64 7] W fun e w'=>e=.returned (.int .i64 X3)∧W=w' from fun W=>by rw[<-hX3];exact CWG.out _ 7 W)
    rw[if_neg (by omega),hX3] at HDEF
    have CFI:=Hy (fun b cp W (h:∀ k (hk:k < [F,X1,EV,X3].length),World.cell? W ⟨b,k,none⟩=some (.int .i64 [F,X1,EV,X3][k]))=>First_any b cp [F,X1,EV,X3] W h (by simp))
    rw[show firstI [F,X1,EV,X3]=firstI (F0::(insErrs mi).take (j+1+1)) from by rw[HTK.out,HDEF.out,first4]] at CFI
    obtain⟨FN,hFN⟩:∃ FN,firstI (F0::(insErrs mi).take (j+1+1))=FN:=⟨_,rfl⟩
    rw[hFN] at CFI
    have HFN:=Hy hFN
    clear hFN
    have hd:decide ((0:Int) < (j:Int)+1)=true:=decide_eq_true (by omega)
    have hmx:max ((j:Int)+1) 1=(j:Int)+1:=by omega
    have jw:IntKind.i64.wrap (j:Int)=(j:Int):=IntWalk.i64_in _ (by omega)
    have jl:(0:Int)<=(j:Int):=by omega
    have jn:(j:Int) < (n:Int):=by omega
    clear hpc hX3
    go_upto_region 5 with fail
    refine wp_region_growT [28] [] (fun _=>True) (tops:=[_]) (by kernel_rfl) (by kernel_rfl) rfl ?_
    apply Exists.intro
    repeat (first|(apply growT_tail (by rfl);(try simp only[Act.put,List.setIfInBounds_toArray,List.set_cons_zero,List.set_cons_succ]))|(apply growT_skip;(focus exact rfl);(try simp only[Act.put,List.setIfInBounds_toArray,List.set_cons_zero,List.set_cons_succ]))|(apply growT_late (by rfl) (by rfl);(focus exact rfl);(focus (intro wq hq;first|(go_simp;done)|(go_simp;rfl)|(rcases hq with hq|hq;rotate_left;(focus ((try dsimp only at hq);go_simp;try rfl));(focus ((obtain⟨hqc,hqf⟩:=hq.ext.cells);have hqs:=hq.ext.size;go_simp;try rfl)))));(try simp only[Act.put,List.setIfInBounds_toArray,List.set_cons_zero,List.set_cons_succ]))|(apply growT_one (by rfl) (by rfl);(focus exact rfl);(focus (intro wq hwq;(obtain⟨hqc,hqf⟩:=hwq.ext.cells);have hqs:=hwq.ext.size;unfold Oper.quietAt;(try go_simp);first|rfl|(first|(go_at_call 19;exact CNX.out _)|(go_at_call 38;first|with_reducible exact callsExt (CW1.out _)|with_reducible exact callsExt (CW2.out _))|(go_at_call 10;have hb:=hwq.blkN 8 rfl rfl;exact CVX.out _ _ _ (hxwA.trans hwq.ext) (VerS.one (hb.cell 0) (hb.cell 1) (hb.cell 2) (hb.cell 3)))|(go_at_call 11;have hb:=hwq.blkN 26 rfl rfl;exact callsExt (CFI.out _ _ _ (by intro k hk;rw[hb.cell];match k,hk with|0,_=>rfl|1,_=>rfl|2,_=>rfl|3,_=>rfl))))));(try simp only[Act.put,List.setIfInBounds_toArray,List.set_cons_zero,List.set_cons_succ]))|(apply growT_new (by rfl) (by rfl);(focus exact rfl);(focus (intro wq;go_simp;first|exact⟨⟨rfl,rfl⟩,rfl⟩|exact⟨rfl,rfl⟩|rfl));intro b;(try simp only[Act.put,List.setIfInBounds_toArray,List.set_cons_zero,List.set_cons_succ])))
    refine growT_nil ?_
    intro wN hxN hFN
    refine wpTail_of_list (ops:=#[]) _ _ _ rfl ?_
    go_wp2_with fail
    refine OnlyNormal.intro ?_
    have BN:=Hy (BA.out.ext hxN)
    clear e0 l0 e1 l1 jw hmx hpc2 lp
    go_wp2
    go_roundw
    case rel=>exact⟨j+1+1,by omega,by go_num,by rw[<-HFN.out],BN,hxwA.trans hxN⟩
    case measure=>simp[intOf];omega
  ·obtain rfl:k=n:=by omega
   have HIE:=Hy (show firstI (F0::(insErrs mi).take k)=firstI [F0,insErr mi] from by
    rw[List.take_of_length_le (by rw[insErrs_length];exact Nat.le_of_eq HMI.out.ei)];exact firstI_pair _ _)
   rw[HIE.out]
   generalize firstI [F0,insErr mi]=F1 at *
   have CFI:=Hy (fun b cp W (h:∀ k (hk:k < [F1,E1,E2].length),World.cell? W ⟨b,k,none⟩=some (.int .i64 [F1,E1,E2][k]))=>First_any b cp [F1,E1,E2] W h (by simp))
   generalize firstI [F1,E1,E2]=F2 at *
   have e0:=HB.out.cell;have l0:=HB.out.lt
   go_upto_region 7 with fail
   refine wp_region_growT [9] [] (fun _=>True) (tops:=[_]) (by kernel_rfl) (by kernel_rfl) rfl ?_
   apply Exists.intro
   repeat (first|(apply growT_tail (by rfl);(try simp only[Act.put,List.setIfInBounds_toArray,List.set_cons_zero,List.set_cons_succ]))|(apply growT_skip;(focus exact rfl);(try simp only[Act.put,List.setIfInBounds_toArray,List.set_cons_zero,List.set_cons_succ]))|(apply growT_late (by rfl) (by rfl);(focus exact rfl);(focus (intro wq hq;first|(go_simp;done)|(go_simp;rfl)|(rcases hq with hq|hq;rotate_left;(focus ((try dsimp only at hq);go_simp;try rfl));(focus ((obtain⟨hqc,hqf⟩:=hq.ext.cells);have hqs:=hq.ext.size;go_simp;try rfl)))));(try simp only[Act.put,List.setIfInBounds_toArray,List.set_cons_zero,List.set_cons_succ]))|(apply growT_one (by rfl) (by rfl);(focus exact rfl);(focus (intro wq hwq;(obtain⟨hqc,hqf⟩:=hwq.ext.cells);have hqs:=hwq.ext.size;unfold Oper.quietAt;(try go_simp);first|rfl|(first|(go_at_call 128;first|with_reducible exact CL1.out _ (hxr.trans hwq.ext)|with_reducible exact CL2.out _ (hxr.trans hwq.ext))|(go_at_call 11;have hb:=hwq.blkN 7 rfl rfl;exact callsExt (CFI.out _ _ _ (by intro k hk;rw[hb.cell];match k,hk with|0,_=>rfl|1,_=>rfl|2,_=>rfl))))));(try simp only[Act.put,List.setIfInBounds_toArray,List.set_cons_zero,List.set_cons_succ]))|(apply growT_new (by rfl) (by rfl);(focus exact rfl);(focus (intro wq;go_simp;first|exact⟨⟨rfl,rfl⟩,rfl⟩|exact⟨rfl,rfl⟩|rfl));intro b;(try simp only[Act.put,List.setIfInBounds_toArray,List.set_cons_zero,List.set_cons_succ])))
   refine growT_nil ?_
   intro wN hxN hFN
   refine wpTail_of_list (ops:=#[]) _ _ _ rfl ?_
   go_wp2_with fail
   refine OnlyNormal.intro ?_
   have B3:=Hy (HB.out.ext hxN)
   have hxr3:=hxr.trans hxN
   clear e0 l0 HB CFI CL1 CL2 HIE
   have e0:=B3.out.cell;have l0:=B3.out.lt
   go_wp2
   clear e0 l0
   go_loopw [3,62] (fun s3 i wr=>∃ q:Nat,q<=np∧i=.int .i64 q∧s3=.int .i64 (firstI (F2::(pinErrs mp).take q))∧Hid (Blk wr w.heap.size 96 #[.string mn,.slice A k c,.slice Af nf cf,.slice As ns cs,.slice Ap np cp])∧Ext w wr) (fun _ i _=>np - (intOf i).toNat)
   case atStart=>exact⟨0,Nat.zero_le _,rfl,by simp[firstI],B3,hxr3⟩
   case round =>
    clear B3 hxr3 hxr hxN
    obtain⟨q,hq,rfl,rfl,HB,hxr⟩:=hrel
    obtain⟨w4,rfl⟩:∃ w4:World,w4=wr:=⟨_,rfl⟩
    by_cases hlt:q < np
    ·have hq1:q < mp.length:=by rw[HMI.out.ep];exact hlt
     obtain⟨bp,i1,rfl,hX⟩:=(HMI.out.rp.ext hxr) (fun e=>by have:mp=[]:=e;rw[this] at hq1;exact absurd hq1 (Nat.not_lt_zero _))
     dsimp only at hX
     obtain⟨A1,c1,hrow⟩:=hX q hq1
     have LD:=hrow.load
     have lx:=lt_of_cell (hrow.row 0 _ rfl)
     have hsm:=HS.out.pins.each _ (List.getElem_mem hq1)
     have hke:q < (pinErrs mp).length:=by rw[pinErrs_length];exact hq1
     have HDEF:=Hy (show (pinErrs mp)[q]=_ from (pinErrs_get mp q hke).trans (pinAt_get hq1))
     have HTK:=Hy (first_snocO F2 hke)
     have CNX:=Hy (fun W=>NameOf_any mp[q].name W hsm.1)
     have CRX:=Hy (fun W (h:Ext w4 W)=>RangeError_any A1 mp[q].fr.length c1 mp[q].fr W (HG.out.ext (hxr.trans h)) rfl (hrow.has.ext h) hsm.2.1 hsm.2.2)
     have CFX:=Hy (fun W (h:Ext w4 W) (hc:W.cell? ⟨w4.heap.size,0,none⟩=some (.string mp[q].name)) =>
      ContainsFuncPn_any (some ⟨bp,i1,none⟩) q cp bp i1 130 #[.pointer (some ⟨w4.heap.size,0,none⟩)] (fun j=>(mp.getD j zeroN).name.toList==mp[q].name.toList) W (fun _=>rfl) (by omega) (enters_of Tryz.func130 (by kernel_rfl) rfl)
       (fun j hj=>by
         obtain⟨A2,c2,h2⟩:=hX j (by omega)
         refine⟨pinV mp[j] A2 c2,fun W' hw=>(h2.ext (h.trans hw)).load,fun W' hw=>?_⟩
         have e:mp.getD j zeroN=mp[j]'(by omega):=by simp[List.getD,List.getElem?_eq_getElem (show j < mp.length by omega)]
         rw[e]
         exact me1_any mp[j] A2 c2 w4.heap.size mp[q].name W' (hw.cell hc)))
     generalize anyF q (fun j=>(mp.getD j zeroN).name.toList==mp[q].name.toList)=GP at *
     generalize (pinErrs mp)[q]=IA at *
     clear hX hrow hsm hke
     generalize mp[q]=x at *
     obtain⟨xn,xf⟩:=x
     dsimp only[pinV] at LD CRX CNX CFX HDEF
     obtain⟨X1,hX1⟩:∃ X,(if nameL (bs xn)=true then (0:Int) else 5)=X:=⟨_,rfl⟩
     have CW1:=Hy (show ∀ W,Calls Tryz.prog 38 #[.bool (!nameL (bs xn)),.int .i64 5] W fun e w'=>e=.returned (.int .i64 X1)∧W=w' from fun W=>by rw[<-hX1];exact CW.out _ W)
     obtain⟨X2,hX2⟩:∃ X,(if GP=true then (6:Int) else 0)=X:=⟨_,rfl⟩
     have CW2:=Hy (show ∀ W,Calls Tryz.prog 38 #[.bool GP,.int .i64 6] W fun e w'=>e=.returned (.int .i64 X2)∧W=w' from fun W=>by rw[<-hX2];exact CWG.out GP 6 W)
     have HDEF:=Hy (show IA=firstI [X1,X2,rngErr xf] from by rw[<-hX1,<-hX2];exact HDEF.out)
     clear hX1 hX2
     generalize nameL (bs xn)=Q at *
     generalize rngErr xf=ER at *
     generalize xf.length=xl at *
     generalize firstI (F2::(pinErrs mp).take q)=F at *
     have CFI:=Hy (fun b cp W (h:∀ k (hk:k < [F,X1,X2,ER].length),World.cell? W ⟨b,k,none⟩=some (.int .i64 [F,X1,X2,ER][k]))=>First_any b cp [F,X1,X2,ER] W h (by simp))
     rw[show firstI [F,X1,X2,ER]=firstI (F2::(pinErrs mp).take (q+1)) from by rw[HTK.out,HDEF.out,first4]] at CFI
     obtain⟨FN,hFN⟩:∃ FN,firstI (F2::(pinErrs mp).take (q+1))=FN:=⟨_,rfl⟩
     rw[hFN] at CFI
     have HFN:=Hy hFN
     clear hFN
     go_upto_region 10 with fail
     go_cut [6,7] (fun s6 s7 wx=>s6=.int .i64 q∧s7=.pointer (some ⟨w4.heap.size,0,none⟩)∧Hid (Blk wx w4.heap.size 181 #[.string xn,.slice A1 xl c1])∧Ext w4 wx)
     case first=>as_aux_lemma =>
      go_wp2_with (refine wpList_load_at rfl _ _ rfl _ rfl _ LD ?_)
      go_meet
      case rel=>exact⟨rfl,rfl,Hy (Blk.new w4 _ _),(Ext.refl _).alloc _⟩
     case rest =>
     clear LD
     obtain⟨rfl,rfl,HX,hxA⟩:=hcut
     obtain⟨wA,rfl⟩:∃ wA:World,wA=wc:=⟨_,rfl⟩
     have BA:=Hy (HB.out.ext hxA)
     have e0:=BA.out.cell;have l0:=BA.out.lt;have e1:=HX.out.cell;have l1:=HX.out.lt
     have ec:=HX.out.cell 0
     have hqcp:q<=cp:=by omega
     go_upto_region 11 with fail
     refine wp_region_growT [18] [] (fun _=>True) (tops:=[_]) (by kernel_rfl) (by kernel_rfl) rfl ?_
     apply Exists.intro
     repeat (first|(apply growT_tail (by rfl);(try simp only[Act.put,List.setIfInBounds_toArray,List.set_cons_zero,List.set_cons_succ]))|(apply growT_skip;(focus exact rfl);(try simp only[Act.put,List.setIfInBounds_toArray,List.set_cons_zero,List.set_cons_succ]))|(apply growT_late (by rfl) (by rfl);(focus exact rfl);(focus (intro wq hq;first|(go_simp;done)|(go_simp;rfl)|(rcases hq with hq|hq;rotate_left;(focus ((try dsimp only at hq);go_simp;try rfl));(focus ((obtain⟨hqc,hqf⟩:=hq.ext.cells);have hqs:=hq.ext.size;go_simp;try rfl)))));(try simp only[Act.put,List.setIfInBounds_toArray,List.set_cons_zero,List.set_cons_succ]))|(apply growT_one (by rfl) (by rfl);(focus exact rfl);(focus (intro wq hwq;(obtain⟨hqc,hqf⟩:=hwq.ext.cells);have hqs:=hwq.ext.size;unfold Oper.quietAt;(try go_simp);first|rfl|(first|(go_at_call 19;exact CNX.out _)|(go_at_call 38;first|with_reducible exact callsExt (CW1.out _)|with_reducible exact callsExt (CW2.out _))|(go_at_call 129;exact CFX.out _ (hxA.trans hwq.ext) (hwq.ext.cell ec))|(go_at_call 29;exact CRX.out _ (hxA.trans hwq.ext))|(go_at_call 11;have hb:=hwq.blkN 16 rfl rfl;exact callsExt (CFI.out _ _ _ (by intro k hk;rw[hb.cell];match k,hk with|0,_=>rfl|1,_=>rfl|2,_=>rfl|3,_=>rfl))))));(try simp only[Act.put,List.setIfInBounds_toArray,List.set_cons_zero,List.set_cons_succ]))|(apply growT_new (by rfl) (by rfl);(focus exact rfl);(focus (intro wq;go_simp;first|exact⟨⟨rfl,rfl⟩,rfl⟩|exact⟨rfl,rfl⟩|rfl));intro b;(try simp only[Act.put,List.setIfInBounds_toArray,List.set_cons_zero,List.set_cons_succ])))
     refine growT_nil ?_
     intro wN hxN hFN
     refine wpTail_of_list (ops:=#[]) _ _ _ rfl ?_
     go_wp2_with fail
     refine OnlyNormal.intro ?_
     have BN:=Hy (BA.out.ext hxN)
     clear e0 l0 e1 l1 ec
     go_wp2
     go_roundw
     case rel=>exact⟨q+1,hlt,by go_num,by rw[<-HFN.out],BN,(hxr.trans hxA).trans hxN⟩
     case measure=>simp[intOf];omega
    ·obtain rfl:q=np:=by omega
     have HPE:=Hy (show firstI (F2::(pinErrs mp).take q)=E from by
      rw[List.take_of_length_le (by rw[pinErrs_length];exact Nat.le_of_eq HMI.out.ep),HME.out];exact firstI_pair _ _)
     rw[HPE.out]
     go_wp2
     go_ret
     exact⟨rfl,hxr⟩
end Go.Proofs.YtmnafaaijglnfaaGreatDoor
