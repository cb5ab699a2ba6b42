/- Contracts of outref2: VersionError. -/
import Derived.Test.YtmnafaaijglnfaaGreatDoorMg04
namespace Go.Proofs.YtmnafaaijglnfaaGreatDoor
open Go.RowKit
theorem In_num (n:Int) (w:World) :
 Calls Tryz.prog 58 #[.int .i64 n,.int .i64 0,.int .i64 999999] w fun e w'=>e=.returned (.bool (inNum n))∧w=w':=In_any n 0 999999 w
structure V4 where
 a1:Int
 a2:Int
 a3:Int
 a:ByteArray
def V4.err (v:V4):Int:=checkV v.a1 v.a2 v.a3 (bs v.a)
structure VerS (w:World) (b:Nat) (l:List V4):Prop where
 c0:∀ k (h:k < l.length),w.cell? ⟨b,k * 4,none⟩=some (.int .i64 l[k].a1)
 c1:∀ k (h:k < l.length),w.cell? ⟨b,k * 4+1,none⟩=some (.int .i64 l[k].a2)
 c2:∀ k (h:k < l.length),w.cell? ⟨b,k * 4+2,none⟩=some (.int .i64 l[k].a3)
 c3:∀ k (h:k < l.length),w.cell? ⟨b,k * 4+3,none⟩=some (.string l[k].a)
theorem VerS.ext {w w':World} {b:Nat} {l:List V4} (h:VerS w b l) (hx:Ext w w'):VerS w' b l :=
 ⟨fun k hk=>hx.cell (h.c0 k hk),fun k hk=>hx.cell (h.c1 k hk),fun k hk=>hx.cell (h.c2 k hk),fun k hk=>hx.cell (h.c3 k hk)⟩
theorem earlyWord_eq (l:Str):earlyWordL l=!((l==[])||decide (10 < l.length)||!(l.all wordB)||(l.all digitB&&decide (1 < l.length)&&(l.headD 0==48))):=by
 unfold earlyWordL numeralL eachL
 cases l with
 | nil=>simp
 | cons x r =>
   have h1:decide (0 < (x::r).length)=true:=by simp
   have h2:((x::r)==([]:Str))=false:=rfl
   rw[h1,h2]
   by_cases h10:(x::r:Str).length<=10
   ·rw[decide_eq_true h10,decide_eq_false (by omega:¬ 10 < (x::r:Str).length)]
    by_cases hx:x=48
    ·subst hx
     cases r with
     | nil=>decide
     | cons y t =>
       have h3:((48::y::t:Str) != [48])=true:=rfl
       have h4:decide (1 < (48::y::t:Str).length)=true:=by simp
       rw[h3,h4]
       generalize (48::y::t:Str).all digitB=a
       generalize (48::y::t:Str).all wordB=b
       cases a<;>cases b<;>rfl
    ·have h3:(((x::r:Str).headD 0)==48)=false:=by simpa using hx
     rw[h3]
     generalize (x::r:Str).all digitB=a
     generalize (x::r:Str).all wordB=b
     generalize ((x::r:Str) != [48])=c
     generalize decide (1 < (x::r:Str).length)=d
     cases a<;>cases b<;>cases c<;>cases d<;>rfl
   ·rw[decide_eq_false h10,decide_eq_true (by omega:10 < (x::r:Str).length)]
    simp
set_option maxHeartbeats 4000000 in
set_option maxRecDepth 100000 in
theorem VersionError_any (b c:Nat) (l:List V4) (w:World) (hg:Good w) (hv:VerS w b l) (hs:∀ v∈l,v.a.size<=2097152) (hl:l.length<=2097152) :
 Calls Tryz.prog 10 #[.slice (some ⟨b,0,none⟩) l.length c] w fun e w'=>e=.returned (.int .i64 (firstI (l.map V4.err)))∧Ext w w':=by
 go_enter Tryz.func10,Tryz.ntmps10
 go_wp2
 go_loopw [11] (fun i wr=>∃ k:Nat,k<=l.length∧i=.int .i64 k∧(∀ x∈(l.map V4.err).take k,x=0)∧Ext w wr) (fun i _=>l.length - (intOf i).toNat)
 case atStart=>exact⟨0,Nat.zero_le _,rfl,by simp,Ext.refl _⟩
 case round =>
  obtain⟨k,hk,rfl,hall,hxr⟩:=hrel
  have HALL:=Hy hall
  clear hall
  by_cases hlt:k < l.length
  ·have vr:=hv.ext hxr
   have c0:=vr.c0 k hlt
   have c1:=vr.c1 k hlt
   have c2:=vr.c2 k hlt
   have c3:=vr.c3 k hlt
   have hsz:=hs l[k] (List.getElem_mem hlt)
   have herr:firstI (l.map V4.err)=l[k].err∨l[k].err=0:=by
    by_cases h0:l[k].err=0
    ·exact .inr h0
    ·have:=firstI_at (l:=l.map V4.err) (k:=k) (by simpa using hlt) HALL.out (by simpa using h0)
     exact .inl (by simpa using this)
   have hnext:l[k].err=0->∀ x∈(l.map V4.err).take (k+1),x=0:=fun h0=>take_zero_succ (by simpa using hlt) HALL.out (by simpa using h0)
   have HERR:=Hy herr
   have HNEXT:=Hy hnext
   clear herr hnext vr
   generalize l[k]=v at *
   obtain⟨a1,a2,a3,a⟩:=v
   obtain⟨wo,rfl⟩:∃ wo:World,wo=wr:=⟨_,rfl⟩
   have hx0:Ext wo ((wo.alloc (.cells #[.int .i64 a1,.int .i64 a2,.int .i64 a3,.string a] 23)).alloc (.cells #[.int .i64 a1,.int .i64 a2,.int .i64 a3] 3)):=Ext.au
   have bad3:(inNum a1&&inNum a2&&inNum a3)=false->firstI (l.map V4.err)=3:=fun h=>by
    have h1:(V4.mk a1 a2 a3 a).err=3:=by unfold V4.err checkV;rw[if_pos h]
    rcases HERR.out with h2|h2
    ·rw[h2,h1]
    ·rw[h1] at h2;cases h2
   have bad2:(inNum a1&&inNum a2&&inNum a3)=true->(bs a).isEmpty=false->earlyL (bs a)=false->firstI (l.map V4.err)=2:=fun h he hl=>by
    have h1:(V4.mk a1 a2 a3 a).err=2:=by unfold V4.err checkV;rw[if_neg (by rw[h];decide),if_pos (by rw[he,hl];rfl)]
    rcases HERR.out with h2|h2
    ·rw[h2,h1]
    ·rw[h1] at h2;cases h2
   have good:(inNum a1&&inNum a2&&inNum a3)=true->((bs a).isEmpty=true∨earlyL (bs a)=true)->∀ x∈(l.map V4.err).take (k+1),x=0:=fun h he=>by
    refine HNEXT.out ?_
    show (V4.mk a1 a2 a3 a).err=0
    unfold V4.err checkV
    rw[if_neg (by rw[h];decide),if_neg]
    rcases he with he|he<;>simp[he]
   have BAD3:=Hy bad3
   have BAD2:=Hy bad2
   have GOOD:=Hy good
   clear bad3 bad2 good HERR HNEXT
   go_wp2
   go_loop [23] (fun i=>(i=.int .i64 0∨(i=.int .i64 1∧inNum a1=true)∨(i=.int .i64 2∧inNum a1=true∧inNum a2=true)∨(i=.int .i64 3∧inNum a1=true∧inNum a2=true∧inNum a3=true))) (fun i=>3 - (intOf i).toNat)
   case atStart=>exact .inl rfl
   case round =>
    rcases hrel with rfl|⟨rfl,h1⟩|⟨rfl,h1,h2⟩|⟨rfl,h1,h2,h3⟩
    ·go_wp2_with fail
     refine (In_num _ _).mono ?_
     rintro e w' ⟨rfl,rfl⟩
     cases h1:inNum a1
     ·go_wp2
      go_ret
      exact⟨ret_int (BAD3.out (by rw[h1];rfl)).symm,hxr.trans hx0⟩
     ·go_wp2
      go_round
      case rel=>exact .inr (.inl ⟨rfl,h1⟩)
      case measure=>decide
    ·go_wp2_with fail
     refine (In_num _ _).mono ?_
     rintro e w' ⟨rfl,rfl⟩
     cases h2:inNum a2
     ·go_wp2
      go_ret
      exact⟨ret_int (BAD3.out (by rw[h1,h2];rfl)).symm,hxr.trans hx0⟩
     ·go_wp2
      go_round
      case rel=>exact .inr (.inr (.inl ⟨rfl,h1,h2⟩))
      case measure=>decide
    ·go_wp2_with fail
     refine (In_num _ _).mono ?_
     rintro e w' ⟨rfl,rfl⟩
     cases h3:inNum a3
     ·go_wp2
      go_ret
      exact⟨ret_int (BAD3.out (by rw[h1,h2,h3];rfl)).symm,hxr.trans hx0⟩
     ·go_wp2
      go_round
      case rel=>exact .inr (.inr (.inr ⟨rfl,h1,h2,h3⟩))
      case measure=>decide
    ·have h123:(inNum a1&&inNum a2&&inNum a3)=true:=by rw[h1,h2,h3];rfl
     have H:=Hy h123
     clear h1 h2 h3 h123 c0 c1 c2 c3
     rcases Nat.eq_zero_or_pos a.size with hz|hz
     ·have hi:=emp_bool hz
      have hG:=GOOD.out H.out (.inl (by rw[bs_nil hz];rfl))
      have HG:=Hy hG
      clear hG
      go_wp2
      go_roundw
      case rel=>exact⟨k+1,by omega,by go_num,HG.out,hxr.trans hx0⟩
      case measure=>simp[intOf];omega
     have hi:=nemp_bool hz
     have hie:(bs a).isEmpty=false:=by rw[ByteArray.toList_eq] at hi;exact hi
     have HIE:=Hy hie
     clear hie
     by_cases h40:40 < a.size
     ·have hB:=BAD2.out H.out HIE.out (by unfold earlyL;rw[bs_length,decide_eq_false (by omega:¬ a.size<=40)];simp)
      have HB:=Hy hB
      clear hB
      go_wp2
      go_ret
      exact⟨ret_int HB.out.symm,hxr.trans hx0⟩
     go_wp2_with fail
     refine (split_any 46 a _ (hg.ext (hxr.trans hx0)) (by omega)).mono ?_
     rintro e w1 ⟨b1,xs,rfl,hb0,hst,hxs,hx1⟩
     have HXS:=Hy hxs
     have hcell:=hst.cell
     have HC:=Hy hcell
     have hlen:=pieces_le hxs
     clear hcell hxs
     have hxw:Ext w w1:=(hxr.trans hx0).trans hx1
     go_wp2
     go_loopw [42] (fun i wr=>∃ j:Nat,j<=xs.length∧i=.int .i64 j∧(xs.take j).all (fun x=>earlyWordL (bs x))=true∧Ext w1 wr) (fun i _=>xs.length - (intOf i).toNat)
     case atStart=>exact⟨0,Nat.zero_le _,rfl,by simp,Ext.refl _⟩
     case round =>
      obtain⟨j,hj,rfl,hall2,hxr2⟩:=hrel
      have HALL2:=Hy hall2
      clear hall2
      by_cases hlt2:j < xs.length
      ·have hk1:=hxr2.cell (HC.out j hlt2)
       have hsz2:=piece_le HXS.out hlt2
       have hne:=allS_false earlyWordL xs j hlt2
       have hsu:=allS_succ earlyWordL xs j hlt2 HALL2.out
       have HNE:=Hy hne
       have HSU:=Hy hsu
       clear hne hsu
       generalize xs[j]=x at *
       have hpl:=earlyWord_eq (bs x)
       have HPL:=Hy hpl
       have hbad:earlyWordL (bs x)=false->firstI (l.map V4.err)=2:=fun h=>BAD2.out H.out HIE.out (by
        unfold earlyL
        rw[<-HXS.out,HNE.out h];rfl)
       have HBAD:=Hy hbad
       clear hpl hbad
       rcases Nat.eq_zero_or_pos x.size with hxz|hxz
       ·have hi2:=emp_bool hxz
        have HP:=Hy (HBAD.out (by rw[bs_nil hxz];rfl))
        go_wp2
        go_ret
        exact⟨ret_int HP.out.symm,hxw.trans hxr2⟩
       have hi2:=nemp_bool hxz
       have e1:(bs x==([]:Str))=false:=by
        rw[beq_eq_false_iff_ne];intro e;have:=bs_length x;rw[e] at this;simp at this;omega
       by_cases h10:10 < x.size
       ·have HP:=Hy (HBAD.out (by rw[HPL.out,bs_length,decide_eq_true h10];simp))
        clear e1
        go_wp2
        go_ret
        exact⟨ret_int HP.out.symm,hxw.trans hxr2⟩
       have e2:decide (10 < x.size)=false:=decide_eq_false h10
       go_wp2_with fail
       refine (of_word x _ (by omega)).mono ?_
       rintro e w2 ⟨rfl,hx2⟩
       cases hw1:(bs x).all wordB
       ·have HP:=Hy (HBAD.out (by rw[HPL.out,hw1];simp))
        clear e1 e2 hw1
        go_wp2
        go_ret
        exact⟨ret_int HP.out.symm,(hxw.trans hxr2).trans hx2⟩
       go_wp2_with fail
       refine (of_digit x _ (by omega)).mono ?_
       rintro e w3 ⟨rfl,hx3⟩
       have hx5:=(hxr2.trans hx2).trans hx3
       cases hd1:(bs x).all digitB
       ·have HP:=Hy (HSU.out (by rw[HPL.out,e1,hw1,hd1,bs_length,e2];rfl))
        clear e1 e2 hw1 hd1
        go_wp2
        go_roundw
        case rel=>exact⟨j+1,by omega,by go_num,HP.out,hx5⟩
        case measure=>simp[intOf];omega
       have hq:earlyWordL (bs x)=!(decide (1 < x.size)&&(x[0]==48)):=by
        rw[HPL.out,e1,hw1,hd1,bs_length,e2,head_bs x hxz];simp
       have HQ:=Hy hq
       clear hq e1 e2 hw1 hd1
       by_cases h1:1 < x.size
       ·by_cases h48:x[0].toNat=48
        ·have hb:(((x[0].toNat:Nat):Int)==48)=true:=by rw[beq_iff_eq];omega
         have HP:=Hy (HBAD.out (by
          have:x[0]=48:=UInt8.toNat_inj.1 h48
          rw[HQ.out,this,decide_eq_true h1];rfl))
         clear h48
         go_wp2
         go_ret
         exact⟨ret_int HP.out.symm,hxw.trans hx5⟩
        ·have hb:(((x[0].toNat:Nat):Int)==48)=false:=by rw[beq_eq_false_iff_ne];omega
         have HP:=Hy (HSU.out (by
          have:(x[0]==48)=false:=by rw[beq_eq_false_iff_ne];intro e;rw[e] at h48;exact h48 rfl
          rw[HQ.out,this];simp))
         clear h48
         go_wp2
         go_roundw
         case rel=>exact⟨j+1,by omega,by go_num,HP.out,hx5⟩
         case measure=>simp[intOf];omega
       ·have HP:=Hy (HSU.out (by rw[HQ.out,decide_eq_false h1];rfl))
        go_wp2
        go_roundw
        case rel=>exact⟨j+1,by omega,by go_num,HP.out,hx5⟩
        case measure=>simp[intOf];omega
      ·obtain rfl:j=xs.length:=by omega
       have hG:=GOOD.out H.out (.inr (by
        unfold earlyL
        rw[<-HXS.out,allS_true earlyWordL xs HALL2.out,bs_length,decide_eq_true (by omega:a.size<=40)];rfl))
       have HG:=Hy hG
       clear hG
       go_wp2
       go_roundw
       case rel=>exact⟨k+1,by omega,by go_num,HG.out,hxw.trans hxr2⟩
       case measure=>simp[intOf];omega
  ·obtain rfl:k=l.length:=by omega
   go_wp2
   go_ret
   have hz:=HALL.out
   rw[List.take_of_length_le (by simp)] at hz
   exact⟨ret_int (firstI_zero hz).symm,hxr⟩
end Go.Proofs.YtmnafaaijglnfaaGreatDoor
