/- The error of settings: the reference's and the program's. Printed by gen/seta.py. -/
import Derived.Test.YtmnafaaijglnfaaGreatDoorOm06
namespace Go.Proofs.YtmnafaaijglnfaaGreatDoor
open Go.RowKit
theorem same_ext {f:FuncId} {xs:Array Value} {w:World} {r:Ending} (h:Calls Tryz.prog f xs w fun e w'=>e=r∧w=w'):Calls Tryz.prog f xs w fun e w'=>e=r∧Ext w w' :=
 h.mono fun _ _ ⟨a,b⟩=>⟨a,b ▸ Ext.refl _⟩
set_option maxHeartbeats 4000000 in
theorem ListErrorF_any (A:Option Addr) (n c:Nat) (l:List Se) (w:World) (_hg:Good w) (hn:l.length=n) (hr:RdE w A l) (hs:SmallE l) (hl:n<=2097152) :
 Calls Tryz.prog 128 #[.slice A n c,.bool true] w fun e w'=>e=.returned (.int .i64 (seErr nameL l))∧Ext w w':=by
 have HN:=Hy hn
 clear hn
 rcases Nat.eq_zero_or_pos n with h0|h0
 ·subst h0
  have he:l=[]:=List.eq_nil_of_length_eq_zero HN.out
  have hR:seErr nameL l=0:=by rw[he];rfl
  have HR:=Hy hR
  clear he hR
  go_enter Tryz.func128,Tryz.ntmps128
  go_wp2
  go_loop [9] (fun i=>i=.int .i64 0) (fun i=>0)
  case atStart=>rfl
  case round =>
   subst hrel
   go_wp2
   go_ret
   exact⟨ret_int HR.out.symm,Ext.au⟩
 obtain⟨b,o,rfl,hX⟩:=hr (fun e=>by have:=HN.out;rw[e] at this;simp at this;omega)
 clear hr
 go_enter Tryz.func128,Tryz.ntmps128
 go_wp2
 go_loopw [9] (fun i wr=>∃ k:Nat,k<=n∧i=.int .i64 k∧(∀ x∈(seErrs nameL l).take k,x=0)∧Ext w wr) (fun i _=>n - (intOf i).toNat)
 case atStart=>exact⟨0,Nat.zero_le _,rfl,by simp,Ext.refl _⟩
 case round =>
  obtain⟨k,hk,rfl,hall,hxr⟩:=hrel
  have HALL:=Hy hall
  clear hall
  by_cases hlt:k < n
  ·have hk1:k < l.length:=by rw[HN.out];exact hlt
   have X:=hX.ext hxr
   have x0:=X.c0 k hk1
   have x1:=X.c1 k hk1
   have hz1:=hs l[k] (List.getElem_mem hk1)
   have HBAD:=Hy (show ¬ seOne nameL l[k]=0->seErr nameL l=seOne nameL l[k] from fun h=>by
    have e:=seAt_bad hk1 h
    rw[seErr_at hk1 HALL.out (by rw[e];exact h),e])
   have HGOOD:=Hy (show seAt nameL l k=0->∀ x∈(seErrs nameL l).take (k+1),x=0 from seErr_next hk1 HALL.out)
   have HGAPB:=Hy (show seAt nameL l k=7->seErr nameL l=7 from fun h=>by rw[seErr_at hk1 HALL.out (by rw[h];decide),h])
   have HGAP:=Hy (show (k=0∧(seOne nameL l[k]=0->seAt nameL l k=0))∨∃ j p,k=j+1∧w.cell? ⟨b,o+j * 2,none⟩=some (.string p.k)∧(seOne nameL l[k]=0->seAt nameL l k=seGap p l[k]) from by
    rcases Nat.eq_zero_or_pos k with e|e
    ·subst e
     exact .inl ⟨rfl,fun h=>(seAt_0 hk1).trans h⟩
    ·obtain⟨j,rfl⟩:∃ j,k=j+1:=⟨k - 1,by omega⟩
     exact .inr ⟨j,l[j],rfl,hX.c0 j (by omega),fun h=>seAt_gap hk1 h⟩)
   generalize l[k]=s at *
   obtain⟨sk,sv⟩:=s
   dsimp only at x0 x1 hz1
   obtain⟨hz1,hz2⟩:=hz1
   clear X
   have N1:=Hy (seOne_name (is:=nameL) (s:=⟨sk,sv⟩))
   have N2:=Hy (seOne_value (is:=nameL) (s:=⟨sk,sv⟩))
   have N3:=Hy (seOne_ok (is:=nameL) (s:=⟨sk,sv⟩))
   dsimp only at N1 N2 N3
   generalize hr1:nameL (bs sk)=r1 at *
   generalize hr2:valueL (bs sv)=r2 at *
   generalize seOne nameL ⟨sk,sv⟩=E at *
   go_wp2_with fail
   refine (NameOf_any sk _ hz1).mono ?_
   rw[hr1]
   clear hr1
   rintro e w1 ⟨rfl,hx1⟩
   have bS:=(Blk.new wr 227 #[.string sk,.string sv]).ext hx1
   have sc:=bS.cell
   have sl:=bS.lt
   cases r1
   ·have H5:=Hy (N1.out (by trivial))
    go_wp2
    go_ret
    exact⟨ret_int ((HBAD.out (by rw[H5.out];decide)).trans H5.out).symm,(hxr.trans Ext.au).trans hx1⟩
   go_wp2_with fail
   refine ((same_ext (ValueOf_any sv _ hz2))).mono ?_
   rw[hr2]
   clear hr2
   rintro e w2 ⟨rfl,hx2⟩
   have bT:=bS.ext hx2
   clear sc sl
   have sc:=bT.cell
   have sl:=bT.lt
   cases r2
   ·have H5:=Hy (N2.out (by trivial) (by trivial))
    go_wp2
    go_ret
    exact⟨ret_int ((HBAD.out (by rw[H5.out];decide)).trans H5.out).symm,((hxr.trans Ext.au).trans hx1).trans hx2⟩
   have H0:=Hy (N3.out (by trivial) (by trivial))
   have hxb:Ext w w2:=((hxr.trans Ext.au).trans hx1).trans hx2
   have hxc:Ext wr w2:=(Ext.trans Ext.au hx1).trans hx2
   clear x0 x1
   rcases HGAP.out with ⟨hk0,hz⟩|⟨j,p,rfl,y,hgp⟩
   ·subst hk0
    have HA:=Hy (HGOOD.out (hz H0.out))
    clear hz
    go_wp2_with fail
    refine wp_region_ext (by kernel_rfl) (by kernel_rfl) ?_
    repeat (first|go_big_quiet_skip|(refine wpQuiet_step (fun K hK=>?_);go_simp;first|(refine hK _ ?_;clear hK K)|(apply Exists.intro;refine⟨fun wq hwq=>?_,hK _ ?_⟩;(obtain⟨hqc,hqf⟩:=hwq.cells;have hqs:=hwq.size;(try go_simp);first|rfl|((first|rw[if_neg (by omega)]|rw[if_pos (by omega)]);(try go_simp);rfl)|((fail)));clear hK K)))
    refine wpQuiet_nil ?_
    intro wN hxN
    obtain⟨hcN,hfN⟩:=hxN.cells
    have hsN:=hxN.size
    go_wp2
    go_roundw
    case rel=>exact⟨1,by omega,rfl,HA.out,hxb.trans hxN⟩
    case measure=>simp[intOf];omega
   have y:=hxb.cell y
   have yl:=lt_of_cell y
   have HG:=Hy (hgp H0.out)
   clear hgp
   obtain⟨pk,pv⟩:=p
   dsimp only[seGap] at HG
   dsimp only at y
   have hd:decide ((0:Int) < (j:Int)+1)=true:=decide_eq_true (by omega)
   go_wp2_with fail
   have jw:IntKind.i64.wrap (j:Int)=(j:Int):=IntWalk.i64_in _ (by omega)
   have jl:(0:Int)<=(j:Int):=by omega
   have jn:(j:Int) < (n:Int):=by omega
   refine wp_region_ext (by kernel_rfl) (by kernel_rfl) ?_
   repeat (first|go_big_quiet_skip|(refine wpQuiet_step (fun K hK=>?_);go_simp;first|(refine hK _ ?_;clear hK K)|(apply Exists.intro;refine⟨fun wq hwq=>?_,hK _ ?_⟩;(obtain⟨hqc,hqf⟩:=hwq.cells;have hqs:=hwq.size;(try go_simp);first|rfl|((first|rw[if_neg (by omega)]|rw[if_pos (by omega)]);(try go_simp);rfl)|((fail)));clear hK K)))
   refine wpQuiet_nil ?_
   intro wN hxN
   obtain⟨hcN,hfN⟩:=hxN.cells
   have hsN:=hxN.size
   clear jw
   generalize (Op.bytesLess sk.toList pk.toList||sk.toList==pk.toList)=G at *
   cases G
   ·have HA:=Hy (HGOOD.out HG.out)
    go_wp2
    go_roundw
    case rel=>exact⟨j+1+1,by omega,by go_num,HA.out,hxb.trans hxN⟩
    case measure=>simp[intOf];omega
   ·have HA:=Hy (HGAPB.out HG.out)
    go_wp2
    go_ret
    exact⟨ret_int HA.out.symm,hxb.trans hxN⟩
  ·obtain rfl:k=n:=by omega
   go_wp2
   go_ret
   exact⟨ret_int (seErr_all (by rw[HN.out];exact HALL.out)).symm,hxr⟩
set_option maxHeartbeats 4000000 in
theorem ListErrorS_any (A:Option Addr) (n c:Nat) (l:List Se) (w:World) (hg:Good w) (hn:l.length=n) (hr:RdE w A l) (hs:SmallE l) (hl:n<=2097152) :
 Calls Tryz.prog 128 #[.slice A n c,.bool false] w fun e w'=>e=.returned (.int .i64 (seErr pathL l))∧Ext w w':=by
 have HN:=Hy hn
 clear hn
 rcases Nat.eq_zero_or_pos n with h0|h0
 ·subst h0
  have he:l=[]:=List.eq_nil_of_length_eq_zero HN.out
  have hR:seErr pathL l=0:=by rw[he];rfl
  have HR:=Hy hR
  clear he hR
  go_enter Tryz.func128,Tryz.ntmps128
  go_wp2
  go_loop [9] (fun i=>i=.int .i64 0) (fun i=>0)
  case atStart=>rfl
  case round =>
   subst hrel
   go_wp2
   go_ret
   exact⟨ret_int HR.out.symm,Ext.au⟩
 obtain⟨b,o,rfl,hX⟩:=hr (fun e=>by have:=HN.out;rw[e] at this;simp at this;omega)
 clear hr
 go_enter Tryz.func128,Tryz.ntmps128
 go_wp2
 go_loopw [9] (fun i wr=>∃ k:Nat,k<=n∧i=.int .i64 k∧(∀ x∈(seErrs pathL l).take k,x=0)∧Ext w wr) (fun i _=>n - (intOf i).toNat)
 case atStart=>exact⟨0,Nat.zero_le _,rfl,by simp,Ext.refl _⟩
 case round =>
  obtain⟨k,hk,rfl,hall,hxr⟩:=hrel
  have HALL:=Hy hall
  clear hall
  by_cases hlt:k < n
  ·have hk1:k < l.length:=by rw[HN.out];exact hlt
   have X:=hX.ext hxr
   have x0:=X.c0 k hk1
   have x1:=X.c1 k hk1
   have hz1:=hs l[k] (List.getElem_mem hk1)
   have HBAD:=Hy (show ¬ seOne pathL l[k]=0->seErr pathL l=seOne pathL l[k] from fun h=>by
    have e:=seAt_bad hk1 h
    rw[seErr_at hk1 HALL.out (by rw[e];exact h),e])
   have HGOOD:=Hy (show seAt pathL l k=0->∀ x∈(seErrs pathL l).take (k+1),x=0 from seErr_next hk1 HALL.out)
   have HGAPB:=Hy (show seAt pathL l k=7->seErr pathL l=7 from fun h=>by rw[seErr_at hk1 HALL.out (by rw[h];decide),h])
   have HGAP:=Hy (show (k=0∧(seOne pathL l[k]=0->seAt pathL l k=0))∨∃ j p,k=j+1∧w.cell? ⟨b,o+j * 2,none⟩=some (.string p.k)∧(seOne pathL l[k]=0->seAt pathL l k=seGap p l[k]) from by
    rcases Nat.eq_zero_or_pos k with e|e
    ·subst e
     exact .inl ⟨rfl,fun h=>(seAt_0 hk1).trans h⟩
    ·obtain⟨j,rfl⟩:∃ j,k=j+1:=⟨k - 1,by omega⟩
     exact .inr ⟨j,l[j],rfl,hX.c0 j (by omega),fun h=>seAt_gap hk1 h⟩)
   generalize l[k]=s at *
   obtain⟨sk,sv⟩:=s
   dsimp only at x0 x1 hz1
   obtain⟨hz1,hz2⟩:=hz1
   clear X
   have N1:=Hy (seOne_name (is:=pathL) (s:=⟨sk,sv⟩))
   have N2:=Hy (seOne_value (is:=pathL) (s:=⟨sk,sv⟩))
   have N3:=Hy (seOne_ok (is:=pathL) (s:=⟨sk,sv⟩))
   dsimp only at N1 N2 N3
   generalize hr1:pathL (bs sk)=r1 at *
   generalize hr2:valueL (bs sv)=r2 at *
   generalize seOne pathL ⟨sk,sv⟩=E at *
   go_wp2_with fail
   refine (PathOf_any sk _ (hg.ext (hxr.trans Ext.au)) hz1).mono ?_
   rw[hr1]
   clear hr1
   rintro e w1 ⟨rfl,hx1⟩
   have bS:=(Blk.new wr 227 #[.string sk,.string sv]).ext hx1
   have sc:=bS.cell
   have sl:=bS.lt
   cases r1
   ·have H5:=Hy (N1.out (by trivial))
    go_wp2
    go_ret
    exact⟨ret_int ((HBAD.out (by rw[H5.out];decide)).trans H5.out).symm,(hxr.trans Ext.au).trans hx1⟩
   go_wp2_with fail
   refine ((same_ext (ValueOf_any sv _ hz2))).mono ?_
   rw[hr2]
   clear hr2
   rintro e w2 ⟨rfl,hx2⟩
   have bT:=bS.ext hx2
   clear sc sl
   have sc:=bT.cell
   have sl:=bT.lt
   cases r2
   ·have H5:=Hy (N2.out (by trivial) (by trivial))
    go_wp2
    go_ret
    exact⟨ret_int ((HBAD.out (by rw[H5.out];decide)).trans H5.out).symm,((hxr.trans Ext.au).trans hx1).trans hx2⟩
   have H0:=Hy (N3.out (by trivial) (by trivial))
   have hxb:Ext w w2:=((hxr.trans Ext.au).trans hx1).trans hx2
   have hxc:Ext wr w2:=(Ext.trans Ext.au hx1).trans hx2
   clear x0 x1
   rcases HGAP.out with ⟨hk0,hz⟩|⟨j,p,rfl,y,hgp⟩
   ·subst hk0
    have HA:=Hy (HGOOD.out (hz H0.out))
    clear hz
    go_wp2_with fail
    refine wp_region_ext (by kernel_rfl) (by kernel_rfl) ?_
    repeat (first|go_big_quiet_skip|(refine wpQuiet_step (fun K hK=>?_);go_simp;first|(refine hK _ ?_;clear hK K)|(apply Exists.intro;refine⟨fun wq hwq=>?_,hK _ ?_⟩;(obtain⟨hqc,hqf⟩:=hwq.cells;have hqs:=hwq.size;(try go_simp);first|rfl|((first|rw[if_neg (by omega)]|rw[if_pos (by omega)]);(try go_simp);rfl)|((fail)));clear hK K)))
    refine wpQuiet_nil ?_
    intro wN hxN
    obtain⟨hcN,hfN⟩:=hxN.cells
    have hsN:=hxN.size
    go_wp2
    go_roundw
    case rel=>exact⟨1,by omega,rfl,HA.out,hxb.trans hxN⟩
    case measure=>simp[intOf];omega
   have y:=hxb.cell y
   have yl:=lt_of_cell y
   have HG:=Hy (hgp H0.out)
   clear hgp
   obtain⟨pk,pv⟩:=p
   dsimp only[seGap] at HG
   dsimp only at y
   have hd:decide ((0:Int) < (j:Int)+1)=true:=decide_eq_true (by omega)
   go_wp2_with fail
   have jw:IntKind.i64.wrap (j:Int)=(j:Int):=IntWalk.i64_in _ (by omega)
   have jl:(0:Int)<=(j:Int):=by omega
   have jn:(j:Int) < (n:Int):=by omega
   refine wp_region_ext (by kernel_rfl) (by kernel_rfl) ?_
   repeat (first|go_big_quiet_skip|(refine wpQuiet_step (fun K hK=>?_);go_simp;first|(refine hK _ ?_;clear hK K)|(apply Exists.intro;refine⟨fun wq hwq=>?_,hK _ ?_⟩;(obtain⟨hqc,hqf⟩:=hwq.cells;have hqs:=hwq.size;(try go_simp);first|rfl|((first|rw[if_neg (by omega)]|rw[if_pos (by omega)]);(try go_simp);rfl)|((fail)));clear hK K)))
   refine wpQuiet_nil ?_
   intro wN hxN
   obtain⟨hcN,hfN⟩:=hxN.cells
   have hsN:=hxN.size
   clear jw
   generalize (Op.bytesLess sk.toList pk.toList||sk.toList==pk.toList)=G at *
   cases G
   ·have HA:=Hy (HGOOD.out HG.out)
    go_wp2
    go_roundw
    case rel=>exact⟨j+1+1,by omega,by go_num,HA.out,hxb.trans hxN⟩
    case measure=>simp[intOf];omega
   ·have HA:=Hy (HGAPB.out HG.out)
    go_wp2
    go_ret
    exact⟨ret_int HA.out.symm,hxb.trans hxN⟩
  ·obtain rfl:k=n:=by omega
   go_wp2
   go_ret
   exact⟨ret_int (seErr_all (by rw[HN.out];exact HALL.out)).symm,hxr⟩
set_option maxHeartbeats 4000000 in
theorem faultF_any (A:Option Addr) (n c:Nat) (l:List Se) (w:World) (_hg:Good w) (hn:l.length=n) (hr:RdE w A l) (hs:SmallE l) (hl:n<=2097152) :
 Calls Tryz.prog 248 #[.slice A n c,.func (.func 18) #[] #[]] w fun e w'=>e=.returned (.int .i64 (seErr nameL l))∧Ext w w':=by
 have HN:=Hy hn
 clear hn
 rcases Nat.eq_zero_or_pos n with h0|h0
 ·subst h0
  have he:l=[]:=List.eq_nil_of_length_eq_zero HN.out
  have hR:seErr nameL l=0:=by rw[he];rfl
  have HR:=Hy hR
  clear he hR
  go_enter Tryz.func248,Tryz.ntmps248
  go_wp2
  go_loop [9] (fun i=>i=.int .i64 0) (fun i=>0)
  case atStart=>rfl
  case round =>
   subst hrel
   go_wp2
   go_ret
   exact⟨ret_int HR.out.symm,Ext.au⟩
 obtain⟨b,o,rfl,hX⟩:=hr (fun e=>by have:=HN.out;rw[e] at this;simp at this;omega)
 clear hr
 go_enter Tryz.func248,Tryz.ntmps248
 go_wp2
 go_loopw [9] (fun i wr=>∃ k:Nat,k<=n∧i=.int .i64 k∧(∀ x∈(seErrs nameL l).take k,x=0)∧Ext w wr) (fun i _=>n - (intOf i).toNat)
 case atStart=>exact⟨0,Nat.zero_le _,rfl,by simp,Ext.refl _⟩
 case round =>
  obtain⟨k,hk,rfl,hall,hxr⟩:=hrel
  have HALL:=Hy hall
  clear hall
  by_cases hlt:k < n
  ·have hk1:k < l.length:=by rw[HN.out];exact hlt
   have X:=hX.ext hxr
   have x0:=X.c0 k hk1
   have x1:=X.c1 k hk1
   have hz1:=hs l[k] (List.getElem_mem hk1)
   have HBAD:=Hy (show ¬ seOne nameL l[k]=0->seErr nameL l=seOne nameL l[k] from fun h=>by
    have e:=seAt_bad hk1 h
    rw[seErr_at hk1 HALL.out (by rw[e];exact h),e])
   have HGOOD:=Hy (show seAt nameL l k=0->∀ x∈(seErrs nameL l).take (k+1),x=0 from seErr_next hk1 HALL.out)
   have HGAPB:=Hy (show seAt nameL l k=7->seErr nameL l=7 from fun h=>by rw[seErr_at hk1 HALL.out (by rw[h];decide),h])
   have HGAP:=Hy (show (k=0∧(seOne nameL l[k]=0->seAt nameL l k=0))∨∃ j p,k=j+1∧w.cell? ⟨b,o+j * 2,none⟩=some (.string p.k)∧(seOne nameL l[k]=0->seAt nameL l k=seGap p l[k]) from by
    rcases Nat.eq_zero_or_pos k with e|e
    ·subst e
     exact .inl ⟨rfl,fun h=>(seAt_0 hk1).trans h⟩
    ·obtain⟨j,rfl⟩:∃ j,k=j+1:=⟨k - 1,by omega⟩
     exact .inr ⟨j,l[j],rfl,hX.c0 j (by omega),fun h=>seAt_gap hk1 h⟩)
   generalize l[k]=s at *
   obtain⟨sk,sv⟩:=s
   dsimp only at x0 x1 hz1
   obtain⟨hz1,hz2⟩:=hz1
   clear X
   have N1:=Hy (seOne_name (is:=nameL) (s:=⟨sk,sv⟩))
   have N2:=Hy (seOne_value (is:=nameL) (s:=⟨sk,sv⟩))
   have N3:=Hy (seOne_ok (is:=nameL) (s:=⟨sk,sv⟩))
   dsimp only at N1 N2 N3
   generalize hr1:nameL (bs sk)=r1 at *
   generalize hr2:valueL (bs sv)=r2 at *
   generalize seOne nameL ⟨sk,sv⟩=E at *
   go_wp2_with fail
   refine ((same_ext (IsName_any sk _ hz1))).mono ?_
   rw[hr1]
   clear hr1
   rintro e w1 ⟨rfl,hx1⟩
   have bS:=(Blk.new wr 227 #[.string sk,.string sv]).ext hx1
   have sc:=bS.cell
   have sl:=bS.lt
   cases r1
   ·have H5:=Hy (N1.out (by trivial))
    go_wp2
    go_ret
    exact⟨ret_int ((HBAD.out (by rw[H5.out];decide)).trans H5.out).symm,(hxr.trans Ext.au).trans hx1⟩
   go_wp2_with fail
   refine ((same_ext (IsValue_any sv _ hz2))).mono ?_
   rw[hr2]
   clear hr2
   rintro e w2 ⟨rfl,hx2⟩
   have bT:=bS.ext hx2
   clear sc sl
   have sc:=bT.cell
   have sl:=bT.lt
   cases r2
   ·have H5:=Hy (N2.out (by trivial) (by trivial))
    go_wp2
    go_ret
    exact⟨ret_int ((HBAD.out (by rw[H5.out];decide)).trans H5.out).symm,((hxr.trans Ext.au).trans hx1).trans hx2⟩
   have H0:=Hy (N3.out (by trivial) (by trivial))
   have hxb:Ext w w2:=((hxr.trans Ext.au).trans hx1).trans hx2
   have hxc:Ext wr w2:=(Ext.trans Ext.au hx1).trans hx2
   clear x0 x1
   rcases HGAP.out with ⟨hk0,hz⟩|⟨j,p,rfl,y,hgp⟩
   ·subst hk0
    have HA:=Hy (HGOOD.out (hz H0.out))
    clear hz
    go_wp2_with fail
    refine wp_region_ext (by kernel_rfl) (by kernel_rfl) ?_
    repeat (first|go_big_quiet_skip|(refine wpQuiet_step (fun K hK=>?_);go_simp;first|(refine hK _ ?_;clear hK K)|(apply Exists.intro;refine⟨fun wq hwq=>?_,hK _ ?_⟩;(obtain⟨hqc,hqf⟩:=hwq.cells;have hqs:=hwq.size;(try go_simp);first|rfl|((first|rw[if_neg (by omega)]|rw[if_pos (by omega)]);(try go_simp);rfl)|((fail)));clear hK K)))
    refine wpQuiet_nil ?_
    intro wN hxN
    obtain⟨hcN,hfN⟩:=hxN.cells
    have hsN:=hxN.size
    go_wp2
    go_roundw
    case rel=>exact⟨1,by omega,rfl,HA.out,hxb.trans hxN⟩
    case measure=>simp[intOf];omega
   have y:=hxb.cell y
   have yl:=lt_of_cell y
   have HG:=Hy (hgp H0.out)
   clear hgp
   obtain⟨pk,pv⟩:=p
   dsimp only[seGap] at HG
   dsimp only at y
   have hd:decide ((0:Int) < (j:Int)+1)=true:=decide_eq_true (by omega)
   go_wp2_with fail
   have jw:IntKind.i64.wrap (j:Int)=(j:Int):=IntWalk.i64_in _ (by omega)
   have jl:(0:Int)<=(j:Int):=by omega
   have jn:(j:Int) < (n:Int):=by omega
   refine wp_region_ext (by kernel_rfl) (by kernel_rfl) ?_
   repeat (first|go_big_quiet_skip|(refine wpQuiet_step (fun K hK=>?_);go_simp;first|(refine hK _ ?_;clear hK K)|(apply Exists.intro;refine⟨fun wq hwq=>?_,hK _ ?_⟩;(obtain⟨hqc,hqf⟩:=hwq.cells;have hqs:=hwq.size;(try go_simp);first|rfl|((first|rw[if_neg (by omega)]|rw[if_pos (by omega)]);(try go_simp);rfl)|((fail)));clear hK K)))
   refine wpQuiet_nil ?_
   intro wN hxN
   obtain⟨hcN,hfN⟩:=hxN.cells
   have hsN:=hxN.size
   clear jw
   generalize (Op.bytesLess sk.toList pk.toList||sk.toList==pk.toList)=G at *
   cases G
   ·have HA:=Hy (HGOOD.out HG.out)
    go_wp2
    go_roundw
    case rel=>exact⟨j+1+1,by omega,by go_num,HA.out,hxb.trans hxN⟩
    case measure=>simp[intOf];omega
   ·have HA:=Hy (HGAPB.out HG.out)
    go_wp2
    go_ret
    exact⟨ret_int HA.out.symm,hxb.trans hxN⟩
  ·obtain rfl:k=n:=by omega
   go_wp2
   go_ret
   exact⟨ret_int (seErr_all (by rw[HN.out];exact HALL.out)).symm,hxr⟩
set_option maxHeartbeats 4000000 in
theorem faultS_any (A:Option Addr) (n c:Nat) (l:List Se) (w:World) (hg:Good w) (hn:l.length=n) (hr:RdE w A l) (hs:SmallE l) (hl:n<=2097152) :
 Calls Tryz.prog 248 #[.slice A n c,.func (.func 20) #[] #[]] w fun e w'=>e=.returned (.int .i64 (seErr pathL l))∧Ext w w':=by
 have HN:=Hy hn
 clear hn
 rcases Nat.eq_zero_or_pos n with h0|h0
 ·subst h0
  have he:l=[]:=List.eq_nil_of_length_eq_zero HN.out
  have hR:seErr pathL l=0:=by rw[he];rfl
  have HR:=Hy hR
  clear he hR
  go_enter Tryz.func248,Tryz.ntmps248
  go_wp2
  go_loop [9] (fun i=>i=.int .i64 0) (fun i=>0)
  case atStart=>rfl
  case round =>
   subst hrel
   go_wp2
   go_ret
   exact⟨ret_int HR.out.symm,Ext.au⟩
 obtain⟨b,o,rfl,hX⟩:=hr (fun e=>by have:=HN.out;rw[e] at this;simp at this;omega)
 clear hr
 go_enter Tryz.func248,Tryz.ntmps248
 go_wp2
 go_loopw [9] (fun i wr=>∃ k:Nat,k<=n∧i=.int .i64 k∧(∀ x∈(seErrs pathL l).take k,x=0)∧Ext w wr) (fun i _=>n - (intOf i).toNat)
 case atStart=>exact⟨0,Nat.zero_le _,rfl,by simp,Ext.refl _⟩
 case round =>
  obtain⟨k,hk,rfl,hall,hxr⟩:=hrel
  have HALL:=Hy hall
  clear hall
  by_cases hlt:k < n
  ·have hk1:k < l.length:=by rw[HN.out];exact hlt
   have X:=hX.ext hxr
   have x0:=X.c0 k hk1
   have x1:=X.c1 k hk1
   have hz1:=hs l[k] (List.getElem_mem hk1)
   have HBAD:=Hy (show ¬ seOne pathL l[k]=0->seErr pathL l=seOne pathL l[k] from fun h=>by
    have e:=seAt_bad hk1 h
    rw[seErr_at hk1 HALL.out (by rw[e];exact h),e])
   have HGOOD:=Hy (show seAt pathL l k=0->∀ x∈(seErrs pathL l).take (k+1),x=0 from seErr_next hk1 HALL.out)
   have HGAPB:=Hy (show seAt pathL l k=7->seErr pathL l=7 from fun h=>by rw[seErr_at hk1 HALL.out (by rw[h];decide),h])
   have HGAP:=Hy (show (k=0∧(seOne pathL l[k]=0->seAt pathL l k=0))∨∃ j p,k=j+1∧w.cell? ⟨b,o+j * 2,none⟩=some (.string p.k)∧(seOne pathL l[k]=0->seAt pathL l k=seGap p l[k]) from by
    rcases Nat.eq_zero_or_pos k with e|e
    ·subst e
     exact .inl ⟨rfl,fun h=>(seAt_0 hk1).trans h⟩
    ·obtain⟨j,rfl⟩:∃ j,k=j+1:=⟨k - 1,by omega⟩
     exact .inr ⟨j,l[j],rfl,hX.c0 j (by omega),fun h=>seAt_gap hk1 h⟩)
   generalize l[k]=s at *
   obtain⟨sk,sv⟩:=s
   dsimp only at x0 x1 hz1
   obtain⟨hz1,hz2⟩:=hz1
   clear X
   have N1:=Hy (seOne_name (is:=pathL) (s:=⟨sk,sv⟩))
   have N2:=Hy (seOne_value (is:=pathL) (s:=⟨sk,sv⟩))
   have N3:=Hy (seOne_ok (is:=pathL) (s:=⟨sk,sv⟩))
   dsimp only at N1 N2 N3
   generalize hr1:pathL (bs sk)=r1 at *
   generalize hr2:valueL (bs sv)=r2 at *
   generalize seOne pathL ⟨sk,sv⟩=E at *
   go_wp2_with fail
   refine (IsPath_any sk _ (hg.ext (hxr.trans Ext.au)) hz1).mono ?_
   rw[hr1]
   clear hr1
   rintro e w1 ⟨rfl,hx1⟩
   have bS:=(Blk.new wr 227 #[.string sk,.string sv]).ext hx1
   have sc:=bS.cell
   have sl:=bS.lt
   cases r1
   ·have H5:=Hy (N1.out (by trivial))
    go_wp2
    go_ret
    exact⟨ret_int ((HBAD.out (by rw[H5.out];decide)).trans H5.out).symm,(hxr.trans Ext.au).trans hx1⟩
   go_wp2_with fail
   refine ((same_ext (IsValue_any sv _ hz2))).mono ?_
   rw[hr2]
   clear hr2
   rintro e w2 ⟨rfl,hx2⟩
   have bT:=bS.ext hx2
   clear sc sl
   have sc:=bT.cell
   have sl:=bT.lt
   cases r2
   ·have H5:=Hy (N2.out (by trivial) (by trivial))
    go_wp2
    go_ret
    exact⟨ret_int ((HBAD.out (by rw[H5.out];decide)).trans H5.out).symm,((hxr.trans Ext.au).trans hx1).trans hx2⟩
   have H0:=Hy (N3.out (by trivial) (by trivial))
   have hxb:Ext w w2:=((hxr.trans Ext.au).trans hx1).trans hx2
   have hxc:Ext wr w2:=(Ext.trans Ext.au hx1).trans hx2
   clear x0 x1
   rcases HGAP.out with ⟨hk0,hz⟩|⟨j,p,rfl,y,hgp⟩
   ·subst hk0
    have HA:=Hy (HGOOD.out (hz H0.out))
    clear hz
    go_wp2_with fail
    refine wp_region_ext (by kernel_rfl) (by kernel_rfl) ?_
    repeat (first|go_big_quiet_skip|(refine wpQuiet_step (fun K hK=>?_);go_simp;first|(refine hK _ ?_;clear hK K)|(apply Exists.intro;refine⟨fun wq hwq=>?_,hK _ ?_⟩;(obtain⟨hqc,hqf⟩:=hwq.cells;have hqs:=hwq.size;(try go_simp);first|rfl|((first|rw[if_neg (by omega)]|rw[if_pos (by omega)]);(try go_simp);rfl)|((fail)));clear hK K)))
    refine wpQuiet_nil ?_
    intro wN hxN
    obtain⟨hcN,hfN⟩:=hxN.cells
    have hsN:=hxN.size
    go_wp2
    go_roundw
    case rel=>exact⟨1,by omega,rfl,HA.out,hxb.trans hxN⟩
    case measure=>simp[intOf];omega
   have y:=hxb.cell y
   have yl:=lt_of_cell y
   have HG:=Hy (hgp H0.out)
   clear hgp
   obtain⟨pk,pv⟩:=p
   dsimp only[seGap] at HG
   dsimp only at y
   have hd:decide ((0:Int) < (j:Int)+1)=true:=decide_eq_true (by omega)
   go_wp2_with fail
   have jw:IntKind.i64.wrap (j:Int)=(j:Int):=IntWalk.i64_in _ (by omega)
   have jl:(0:Int)<=(j:Int):=by omega
   have jn:(j:Int) < (n:Int):=by omega
   refine wp_region_ext (by kernel_rfl) (by kernel_rfl) ?_
   repeat (first|go_big_quiet_skip|(refine wpQuiet_step (fun K hK=>?_);go_simp;first|(refine hK _ ?_;clear hK K)|(apply Exists.intro;refine⟨fun wq hwq=>?_,hK _ ?_⟩;(obtain⟨hqc,hqf⟩:=hwq.cells;have hqs:=hwq.size;(try go_simp);first|rfl|((first|rw[if_neg (by omega)]|rw[if_pos (by omega)]);(try go_simp);rfl)|((fail)));clear hK K)))
   refine wpQuiet_nil ?_
   intro wN hxN
   obtain⟨hcN,hfN⟩:=hxN.cells
   have hsN:=hxN.size
   clear jw
   generalize (Op.bytesLess sk.toList pk.toList||sk.toList==pk.toList)=G at *
   cases G
   ·have HA:=Hy (HGOOD.out HG.out)
    go_wp2
    go_roundw
    case rel=>exact⟨j+1+1,by omega,by go_num,HA.out,hxb.trans hxN⟩
    case measure=>simp[intOf];omega
   ·have HA:=Hy (HGAPB.out HG.out)
    go_wp2
    go_ret
    exact⟨ret_int HA.out.symm,hxb.trans hxN⟩
  ·obtain rfl:k=n:=by omega
   go_wp2
   go_ret
   exact⟨ret_int (seErr_all (by rw[HN.out];exact HALL.out)).symm,hxr⟩
end Go.Proofs.YtmnafaaijglnfaaGreatDoor
