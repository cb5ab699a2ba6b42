/- Contracts of outref2: ValueOf, Number, VersionText. Contracts of outref2: VersionError. Contract of outref2.ReadVersion. Plain law: the reference's order of words is the program's. Contract of outref2.CompareOf, at right versions. Plain law: ranges, their errors, their texts, and what reads them; the reference's reading is the program's. Spans and ranges in memory; the struct equalities that the walks meet; slices.Equal over spans. Versions, spans and ranges among the arguments. Plain law: the program's reading of a condition, as it runs; its places only go on. A condition in memory. Contract of the program's reading of conditions in brackets, given what it calls. (Printed by gen/cndi.py.) Plain law: the reference's words of a condition's text, its reading as it runs, and the program's states that fit it. Plain law: the program's and the reference's reading of a condition answer alike. Plain law: the program's reading of a condition and the reference's go alike. Plain law: the program's and the reference's reading of a condition answer alike, the whole. The condition reader of the reference in memory: 'is', 'next'. The small map of outref2's group: made, asked. Contract of the reference's reading of conditions, all levels; plain: the parts of a condition, their errors. Contracts of ver.walk and outref2.CondParts, for whatever visits the parts. Plain law: what is read of a text as a condition has a bearable size. Contract of outref2.SameCond, at two conditions that are the same. Settings: plain words, and settings in memory. The order of versions is a total order. Plain words. Ranges as intervals of places: what two ranges have in common, span by span and by a scan over all ends. Plain words. Plain law: strictly ordered lists with the same members are one list; what a condition uses. -/
import Derived.Test.YtmpccllnpcbgcaaGreatDoorPk02
import Derived.Deep.RegionHeld3
import Derived.Deep.DeepCutAuto
import Derived.Deep.AppendLies
import Derived.Deep.RegionLaw
import Derived.MapKept
namespace Go.Proofs.YtmpccllnpcbgcaaGreatDoor
section
open Go.RowKit
set_option maxHeartbeats 1000000 in
theorem ValueOf_any (s:ByteArray) (w:World) (hs:s.size<=2097152) :
 Calls Tryz.prog 23 #[.string s] w fun e w'=>e=.returned (.bool (valueL (bs s)))∧w=w':=by
 go_enter Tryz.func23,Tryz.ntmps23
 go_wp2
 go_loop [6] (fun i=>∃ k:Nat,k<=s.size∧i=.int .i64 k∧(s.data.toList.take k).all valueB=true) (fun i=>s.size - (intOf i).toNat)
 case atStart=>exact⟨0,Nat.zero_le _,rfl,by simp⟩
 case round =>
  obtain⟨k,hk,rfl,hall⟩:=hrel
  have HALL:=Hy hall
  clear hall
  by_cases hlt:k < s.size
  ·have hfa:=all_false_of valueB s k hlt
   have hsu:=all_take_succ valueB s k hlt
   have HFA:=Hy hfa
   have HSU:=Hy hsu
   clear hfa hsu
   by_cases h1:s[k].toNat < 32
   ·have h1':((s[k].toNat:Nat):Int) < 32:=by omega
    have hv:valueB s[k]=false:=by simp[valueB];omega
    have HV:=Hy (HFA.out hv)
    clear hv h1
    go_wp2
    go_ret
    exact⟨ret_bool (by rw[valueL,show (bs s).all valueB=false from HV.out];rfl),rfl⟩
   ·have h1':¬ ((s[k].toNat:Nat):Int) < 32:=by omega
    by_cases h2:126 < s[k].toNat
    ·have h2':(126:Int) < ((s[k].toNat:Nat):Int):=by omega
     have hv:valueB s[k]=false:=by simp[valueB];omega
     have HV:=Hy (HFA.out hv)
     clear hv h1 h2
     go_wp2
     go_ret
     exact⟨ret_bool (by rw[valueL,show (bs s).all valueB=false from HV.out];rfl),rfl⟩
    ·have h2':¬ (126:Int) < ((s[k].toNat:Nat):Int):=by omega
     have hv:valueB s[k]=true:=by simp[valueB];omega
     have HV:=Hy hv
     clear hv h1 h2
     go_wp2
     go_round
     case rel=>exact⟨k+1,by omega,by go_num,by rw[HSU.out,HALL.out,HV.out];rfl⟩
     case measure=>simp[intOf];omega
  ·obtain rfl:k=s.size:=by omega
   go_wp2
   go_ret
   refine⟨ret_bool ?_,rfl⟩
   rw[take_size] at HALL
   rw[valueL,show (bs s).all valueB=true from HALL.out,bs_length]
   simp
   omega
theorem numOk_eq (l:Str):numOk l=((l != [])&&decide (l.length<=9)&&l.all digitB&&!(decide (1 < l.length)&&(l.headD 0==48))):=by
 unfold numOk eachL
 cases l with
 | nil=>simp
 | cons x r =>
   have h1:decide (0 < (x::r).length)=true:=by simp
   have h2:((x::r) != ([]:Str))=true:=rfl
   rw[h1,h2]
   by_cases hx:x=48
   ·subst hx
    cases r with
    | nil=>decide
    | cons y t =>
      have h3:((48::y::t:Str) != [48])=true:=rfl
      have h4:decide (1 < (48::y::t:Str).length)=true:=by simp
      rw[h3,h4]
      generalize (48::y::t:Str).all digitB=a
      generalize decide ((48::y::t:Str).length<=9)=b
      cases a<;>cases b<;>rfl
   ·have h3:(((x::r:Str).headD 0)==48)=false:=by simpa using hx
    rw[h3]
    generalize (x::r:Str).all digitB=a
    generalize decide ((x::r:Str).length<=9)=b
    generalize ((x::r:Str) != [48])=c
    generalize decide (1 < (x::r:Str).length)=d
    cases a<;>cases b<;>cases c<;>cases d<;>rfl
set_option maxHeartbeats 2000000 in
theorem Number_any (s:ByteArray) (w:World) (hg:GoodN w) (hs:s.size<=2097152) :
 Calls Tryz.prog 90 #[.string s,.int .i64 9] w fun e w'=>e=.returned (.tuple #[.int .i64 (numV (bs s)),.bool (numOk (bs s))])∧Ext w w':=by
 have hpl:=numOk_eq (bs s)
 have HPL:=Hy hpl
 clear hpl
 have hno:numOk (bs s)=false->numV (bs s)=0:=fun h=>by rw[numV,h];rfl
 have HNO:=Hy hno
 clear hno
 go_enter Tryz.func90,Tryz.ntmps90
 rcases Nat.eq_zero_or_pos s.size with hz|hz
 ·have hi:=emp_bool hz
  have hp:numOk (bs s)=false:=by rw[HPL.out,bs_nil hz];rfl
  have HP:=Hy hp
  clear hp
  go_wp2
  go_ret2
  exact⟨by rw[HNO.out HP.out,HP.out];rfl,Ext.refl _⟩
 have hi:=nemp_bool hz
 have e1:(bs s != ([]:Str))=true:=by
  rw[bne_iff_ne];intro e;have:=bs_length s;rw[e] at this;simp at this;omega
 by_cases h9:9 < s.size
 ·have hp:numOk (bs s)=false:=by rw[HPL.out,bs_length,decide_eq_false (by omega:¬ s.size<=9)];simp
  have HP:=Hy hp
  clear hp e1
  go_wp2
  go_ret2
  exact⟨by rw[HNO.out HP.out,HP.out];rfl,Ext.refl _⟩
 have e2:decide (s.size<=9)=true:=decide_eq_true (by omega)
 go_wp2_with fail
 refine (of_digit s _ hs).mono ?_
 rintro e w1 ⟨rfl,hx1⟩
 cases hd:(bs s).all digitB
 ·have hp:numOk (bs s)=false:=by rw[HPL.out,hd];simp
  have HP:=Hy hp
  clear hp hd e1 e2
  go_wp2
  go_ret2
  exact⟨by rw[HNO.out HP.out,HP.out];rfl,hx1⟩
 have hq:numOk (bs s)=!(decide (1 < s.size)&&(s[0]==48)):=by
  rw[HPL.out,e1,hd,bs_length,e2,head_bs s hz];simp
 have HQ:=Hy hq
 have hV:numOk (bs s)=true->numV (bs s)=(decVal (bs s):Nat)∧Lib.atoiAll (bs s)=.ok ((decVal (bs s):Nat):Int):=fun h =>
  ⟨by rw[numV,if_pos h],atoi_digits _ hd (by rw[bs_length];exact hz) (by rw[bs_length];omega)⟩
 have HV:=Hy hV
 clear hq hV hd e1 e2
 by_cases h1:1 < s.size
 ·by_cases h48:s[0].toNat=48
  ·have h48':((s[0].toNat:Nat):Int)=48:=by omega
   have hp:numOk (bs s)=false:=by
    have:s[0]=48:=UInt8.toNat_inj.1 h48
    rw[HQ.out,this,decide_eq_true h1];rfl
   have HP:=Hy hp
   have hb:(((s[0].toNat:Nat):Int)==48)=true:=by rw[beq_iff_eq];exact h48'
   have HB:=Hy hb
   clear hp h48 h48' hb
   have hb:=HB.out
   go_wp2
   go_ret2
   exact⟨by rw[HNO.out HP.out,HP.out];rfl,hx1⟩
  ·have hb:(((s[0].toNat:Nat):Int)==48)=false:=by rw[beq_eq_false_iff_ne];omega
   have hp:numOk (bs s)=true:=by
    have:(s[0]==48)=false:=by rw[beq_eq_false_iff_ne];intro e;rw[e] at h48;exact h48 rfl
    rw[HQ.out,this];simp
   have HP:=Hy hp
   clear hp h48
   go_wp2_with fail
   refine (atoi_any s _ (hg.ext hx1) hs).mono ?_
   rintro e w2 ⟨v,ev,rfl,hx2,hv,hev⟩
   obtain⟨rfl,rfl⟩:=hv _ (HV.out HP.out).2
   clear hv hev
   go_wp2_with fail
   refine wp_region_ext (by kernel_rfl) (by kernel_rfl) ?_
   repeat (first|go_big_quiet_skip|(refine wpQuiet_step (fun K hK=>?_);go_simp;first|(refine hK _ ?_;clear hK K)|(apply Exists.intro;refine⟨fun wq hwq=>?_,hK _ ?_⟩;(obtain⟨hqc,hqf⟩:=hwq.cells;have hqs:=hwq.size;(try go_simp);first|rfl|((first|rw[if_neg (by omega)]|rw[if_pos (by omega)]);(try go_simp);rfl)|((fail)));clear hK K)))
   refine wpQuiet_nil ?_
   intro wN hxN
   obtain⟨hcN,hfN⟩:=hxN.cells
   have hsN:=hxN.size
   go_wp2
   go_ret2
   exact⟨by rw[(HV.out HP.out).1,HP.out];rfl,(hx1.trans hx2).trans hxN⟩
 ·have hp:numOk (bs s)=true:=by rw[HQ.out,decide_eq_false h1];rfl
  have HP:=Hy hp
  clear hp
  go_wp2_with fail
  refine (atoi_any s _ (hg.ext hx1) hs).mono ?_
  rintro e w2 ⟨v,ev,rfl,hx2,hv,hev⟩
  obtain⟨rfl,rfl⟩:=hv _ (HV.out HP.out).2
  clear hv hev
  go_wp2_with fail
  refine wp_region_ext (by kernel_rfl) (by kernel_rfl) ?_
  repeat (first|go_big_quiet_skip|(refine wpQuiet_step (fun K hK=>?_);go_simp;first|(refine hK _ ?_;clear hK K)|(apply Exists.intro;refine⟨fun wq hwq=>?_,hK _ ?_⟩;(obtain⟨hqc,hqf⟩:=hwq.cells;have hqs:=hwq.size;(try go_simp);first|rfl|((first|rw[if_neg (by omega)]|rw[if_pos (by omega)]);(try go_simp);rfl)|((fail)));clear hK K)))
  refine wpQuiet_nil ?_
  intro wN hxN
  obtain⟨hcN,hfN⟩:=hxN.cells
  have hsN:=hxN.size
  go_wp2
  go_ret2
  exact⟨by rw[(HV.out HP.out).1,HP.out];rfl,(hx1.trans hx2).trans hxN⟩
end
section
open Go.RowKit
theorem In_num (n:Int) (w:World) :
 Calls Tryz.prog 70 #[.int .i64 n,.int .i64 0,.int .i64 999999] w fun e w'=>e=.returned (.bool (inNum n))∧w=w':=In_any n 0 999999 w
structure V4 where
 a1:Int
 a2:Int
 a3:Int
 a:ByteArray
def V4.err (v:V4):Int:=checkV v.a1 v.a2 v.a3 (bs v.a)
structure VerS (w:World) (b:Nat) (l:List V4):Prop where
 c0:∀ k (h:k < l.length),w.cell? ⟨b,k * 4,none⟩=some (.int .i64 l[k].a1)
 c1:∀ k (h:k < l.length),w.cell? ⟨b,k * 4+1,none⟩=some (.int .i64 l[k].a2)
 c2:∀ k (h:k < l.length),w.cell? ⟨b,k * 4+2,none⟩=some (.int .i64 l[k].a3)
 c3:∀ k (h:k < l.length),w.cell? ⟨b,k * 4+3,none⟩=some (.string l[k].a)
theorem VerS.ext {w w':World} {b:Nat} {l:List V4} (h:VerS w b l) (hx:Ext w w'):VerS w' b l :=
 ⟨fun k hk=>hx.cell (h.c0 k hk),fun k hk=>hx.cell (h.c1 k hk),fun k hk=>hx.cell (h.c2 k hk),fun k hk=>hx.cell (h.c3 k hk)⟩
theorem earlyWord_eq (l:Str):earlyWordL l=!((l==[])||decide (10 < l.length)||!(l.all wordB)||(l.all digitB&&decide (1 < l.length)&&(l.headD 0==48))):=by
 unfold earlyWordL numeralL eachL
 cases l with
 | nil=>simp
 | cons x r =>
   have h1:decide (0 < (x::r).length)=true:=by simp
   have h2:((x::r)==([]:Str))=false:=rfl
   rw[h1,h2]
   by_cases h10:(x::r:Str).length<=10
   ·rw[decide_eq_true h10,decide_eq_false (by omega:¬ 10 < (x::r:Str).length)]
    by_cases hx:x=48
    ·subst hx
     cases r with
     | nil=>decide
     | cons y t =>
       have h3:((48::y::t:Str) != [48])=true:=rfl
       have h4:decide (1 < (48::y::t:Str).length)=true:=by simp
       rw[h3,h4]
       generalize (48::y::t:Str).all digitB=a
       generalize (48::y::t:Str).all wordB=b
       cases a<;>cases b<;>rfl
    ·have h3:(((x::r:Str).headD 0)==48)=false:=by simpa using hx
     rw[h3]
     generalize (x::r:Str).all digitB=a
     generalize (x::r:Str).all wordB=b
     generalize ((x::r:Str) != [48])=c
     generalize decide (1 < (x::r:Str).length)=d
     cases a<;>cases b<;>cases c<;>cases d<;>rfl
   ·rw[decide_eq_false h10,decide_eq_true (by omega:10 < (x::r:Str).length)]
    simp
set_option maxHeartbeats 4000000 in
set_option maxRecDepth 100000 in
theorem VersionError_any (b c:Nat) (l:List V4) (w:World) (hg:Good w) (hv:VerS w b l) (hs:∀ v∈l,v.a.size<=2097152) (hl:l.length<=2097152) :
 Calls Tryz.prog 10 #[.slice (some ⟨b,0,none⟩) l.length c] w fun e w'=>e=.returned (.int .i64 (firstI (l.map V4.err)))∧Ext w w':=by
 go_enter Tryz.func10,Tryz.ntmps10
 go_wp2
 go_loopw [11] (fun i wr=>∃ k:Nat,k<=l.length∧i=.int .i64 k∧(∀ x∈(l.map V4.err).take k,x=0)∧Ext w wr) (fun i _=>l.length - (intOf i).toNat)
 case atStart=>exact⟨0,Nat.zero_le _,rfl,by simp,Ext.refl _⟩
 case round =>
  obtain⟨k,hk,rfl,hall,hxr⟩:=hrel
  have HALL:=Hy hall
  clear hall
  by_cases hlt:k < l.length
  ·have vr:=hv.ext hxr
   have c0:=vr.c0 k hlt
   have c1:=vr.c1 k hlt
   have c2:=vr.c2 k hlt
   have c3:=vr.c3 k hlt
   have hsz:=hs l[k] (List.getElem_mem hlt)
   have herr:firstI (l.map V4.err)=l[k].err∨l[k].err=0:=by
    by_cases h0:l[k].err=0
    ·exact .inr h0
    ·have:=firstI_at (l:=l.map V4.err) (k:=k) (by simpa using hlt) HALL.out (by simpa using h0)
     exact .inl (by simpa using this)
   have hnext:l[k].err=0->∀ x∈(l.map V4.err).take (k+1),x=0:=fun h0=>take_zero_succ (by simpa using hlt) HALL.out (by simpa using h0)
   have HERR:=Hy herr
   have HNEXT:=Hy hnext
   clear herr hnext vr
   generalize l[k]=v at *
   obtain⟨a1,a2,a3,a⟩:=v
   obtain⟨wo,rfl⟩:∃ wo:World,wo=wr:=⟨_,rfl⟩
   have hx0:Ext wo ((wo.alloc (.cells #[.int .i64 a1,.int .i64 a2,.int .i64 a3,.string a] 23)).alloc (.cells #[.int .i64 a1,.int .i64 a2,.int .i64 a3] 3)):=Ext.au
   have bad3:(inNum a1&&inNum a2&&inNum a3)=false->firstI (l.map V4.err)=3:=fun h=>by
    have h1:(V4.mk a1 a2 a3 a).err=3:=by unfold V4.err checkV;rw[if_pos h]
    rcases HERR.out with h2|h2
    ·rw[h2,h1]
    ·rw[h1] at h2;cases h2
   have bad2:(inNum a1&&inNum a2&&inNum a3)=true->(bs a).isEmpty=false->earlyL (bs a)=false->firstI (l.map V4.err)=2:=fun h he hl=>by
    have h1:(V4.mk a1 a2 a3 a).err=2:=by unfold V4.err checkV;rw[if_neg (by rw[h];decide),if_pos (by rw[he,hl];rfl)]
    rcases HERR.out with h2|h2
    ·rw[h2,h1]
    ·rw[h1] at h2;cases h2
   have good:(inNum a1&&inNum a2&&inNum a3)=true->((bs a).isEmpty=true∨earlyL (bs a)=true)->∀ x∈(l.map V4.err).take (k+1),x=0:=fun h he=>by
    refine HNEXT.out ?_
    show (V4.mk a1 a2 a3 a).err=0
    unfold V4.err checkV
    rw[if_neg (by rw[h];decide),if_neg]
    rcases he with he|he<;>simp[he]
   have BAD3:=Hy bad3
   have BAD2:=Hy bad2
   have GOOD:=Hy good
   clear bad3 bad2 good HERR HNEXT
   go_wp2
   go_loop [23] (fun i=>(i=.int .i64 0∨(i=.int .i64 1∧inNum a1=true)∨(i=.int .i64 2∧inNum a1=true∧inNum a2=true)∨(i=.int .i64 3∧inNum a1=true∧inNum a2=true∧inNum a3=true))) (fun i=>3 - (intOf i).toNat)
   case atStart=>exact .inl rfl
   case round =>
    rcases hrel with rfl|⟨rfl,h1⟩|⟨rfl,h1,h2⟩|⟨rfl,h1,h2,h3⟩
    ·go_wp2_with fail
     refine (In_num _ _).mono ?_
     rintro e w' ⟨rfl,rfl⟩
     cases h1:inNum a1
     ·go_wp2
      go_ret
      exact⟨ret_int (BAD3.out (by rw[h1];rfl)).symm,hxr.trans hx0⟩
     ·go_wp2
      go_round
      case rel=>exact .inr (.inl ⟨rfl,h1⟩)
      case measure=>decide
    ·go_wp2_with fail
     refine (In_num _ _).mono ?_
     rintro e w' ⟨rfl,rfl⟩
     cases h2:inNum a2
     ·go_wp2
      go_ret
      exact⟨ret_int (BAD3.out (by rw[h1,h2];rfl)).symm,hxr.trans hx0⟩
     ·go_wp2
      go_round
      case rel=>exact .inr (.inr (.inl ⟨rfl,h1,h2⟩))
      case measure=>decide
    ·go_wp2_with fail
     refine (In_num _ _).mono ?_
     rintro e w' ⟨rfl,rfl⟩
     cases h3:inNum a3
     ·go_wp2
      go_ret
      exact⟨ret_int (BAD3.out (by rw[h1,h2,h3];rfl)).symm,hxr.trans hx0⟩
     ·go_wp2
      go_round
      case rel=>exact .inr (.inr (.inr ⟨rfl,h1,h2,h3⟩))
      case measure=>decide
    ·have h123:(inNum a1&&inNum a2&&inNum a3)=true:=by rw[h1,h2,h3];rfl
     have H:=Hy h123
     clear h1 h2 h3 h123 c0 c1 c2 c3
     rcases Nat.eq_zero_or_pos a.size with hz|hz
     ·have hi:=emp_bool hz
      have hG:=GOOD.out H.out (.inl (by rw[bs_nil hz];rfl))
      have HG:=Hy hG
      clear hG
      go_wp2
      go_roundw
      case rel=>exact⟨k+1,by omega,by go_num,HG.out,hxr.trans hx0⟩
      case measure=>simp[intOf];omega
     have hi:=nemp_bool hz
     have hie:(bs a).isEmpty=false:=by rw[ByteArray.toList_eq] at hi;exact hi
     have HIE:=Hy hie
     clear hie
     by_cases h40:40 < a.size
     ·have hB:=BAD2.out H.out HIE.out (by unfold earlyL;rw[bs_length,decide_eq_false (by omega:¬ a.size<=40)];simp)
      have HB:=Hy hB
      clear hB
      go_wp2
      go_ret
      exact⟨ret_int HB.out.symm,hxr.trans hx0⟩
     go_wp2_with fail
     refine (split_any 46 a _ (hg.ext (hxr.trans hx0)) (by omega)).mono ?_
     rintro e w1 ⟨b1,xs,rfl,hb0,hst,hxs,hx1⟩
     have HXS:=Hy hxs
     have hcell:=hst.cell
     have HC:=Hy hcell
     have hlen:=pieces_le hxs
     clear hcell hxs
     have hxw:Ext w w1:=(hxr.trans hx0).trans hx1
     go_wp2
     go_loopw [42] (fun i wr=>∃ j:Nat,j<=xs.length∧i=.int .i64 j∧(xs.take j).all (fun x=>earlyWordL (bs x))=true∧Ext w1 wr) (fun i _=>xs.length - (intOf i).toNat)
     case atStart=>exact⟨0,Nat.zero_le _,rfl,by simp,Ext.refl _⟩
     case round =>
      obtain⟨j,hj,rfl,hall2,hxr2⟩:=hrel
      have HALL2:=Hy hall2
      clear hall2
      by_cases hlt2:j < xs.length
      ·have hk1:=hxr2.cell (HC.out j hlt2)
       have hsz2:=piece_le HXS.out hlt2
       have hne:=allS_false earlyWordL xs j hlt2
       have hsu:=allS_succ earlyWordL xs j hlt2 HALL2.out
       have HNE:=Hy hne
       have HSU:=Hy hsu
       clear hne hsu
       generalize xs[j]=x at *
       have hpl:=earlyWord_eq (bs x)
       have HPL:=Hy hpl
       have hbad:earlyWordL (bs x)=false->firstI (l.map V4.err)=2:=fun h=>BAD2.out H.out HIE.out (by
        unfold earlyL
        rw[<-HXS.out,HNE.out h];rfl)
       have HBAD:=Hy hbad
       clear hpl hbad
       rcases Nat.eq_zero_or_pos x.size with hxz|hxz
       ·have hi2:=emp_bool hxz
        have HP:=Hy (HBAD.out (by rw[bs_nil hxz];rfl))
        go_wp2
        go_ret
        exact⟨ret_int HP.out.symm,hxw.trans hxr2⟩
       have hi2:=nemp_bool hxz
       have e1:(bs x==([]:Str))=false:=by
        rw[beq_eq_false_iff_ne];intro e;have:=bs_length x;rw[e] at this;simp at this;omega
       by_cases h10:10 < x.size
       ·have HP:=Hy (HBAD.out (by rw[HPL.out,bs_length,decide_eq_true h10];simp))
        clear e1
        go_wp2
        go_ret
        exact⟨ret_int HP.out.symm,hxw.trans hxr2⟩
       have e2:decide (10 < x.size)=false:=decide_eq_false h10
       go_wp2_with fail
       refine (of_word x _ (by omega)).mono ?_
       rintro e w2 ⟨rfl,hx2⟩
       cases hw1:(bs x).all wordB
       ·have HP:=Hy (HBAD.out (by rw[HPL.out,hw1];simp))
        clear e1 e2 hw1
        go_wp2
        go_ret
        exact⟨ret_int HP.out.symm,(hxw.trans hxr2).trans hx2⟩
       go_wp2_with fail
       refine (of_digit x _ (by omega)).mono ?_
       rintro e w3 ⟨rfl,hx3⟩
       have hx5:=(hxr2.trans hx2).trans hx3
       cases hd1:(bs x).all digitB
       ·have HP:=Hy (HSU.out (by rw[HPL.out,e1,hw1,hd1,bs_length,e2];rfl))
        clear e1 e2 hw1 hd1
        go_wp2
        go_roundw
        case rel=>exact⟨j+1,by omega,by go_num,HP.out,hx5⟩
        case measure=>simp[intOf];omega
       have hq:earlyWordL (bs x)=!(decide (1 < x.size)&&(x[0]==48)):=by
        rw[HPL.out,e1,hw1,hd1,bs_length,e2,head_bs x hxz];simp
       have HQ:=Hy hq
       clear hq e1 e2 hw1 hd1
       by_cases h1:1 < x.size
       ·by_cases h48:x[0].toNat=48
        ·have hb:(((x[0].toNat:Nat):Int)==48)=true:=by rw[beq_iff_eq];omega
         have HP:=Hy (HBAD.out (by
          have:x[0]=48:=UInt8.toNat_inj.1 h48
          rw[HQ.out,this,decide_eq_true h1];rfl))
         clear h48
         go_wp2
         go_ret
         exact⟨ret_int HP.out.symm,hxw.trans hx5⟩
        ·have hb:(((x[0].toNat:Nat):Int)==48)=false:=by rw[beq_eq_false_iff_ne];omega
         have HP:=Hy (HSU.out (by
          have:(x[0]==48)=false:=by rw[beq_eq_false_iff_ne];intro e;rw[e] at h48;exact h48 rfl
          rw[HQ.out,this];simp))
         clear h48
         go_wp2
         go_roundw
         case rel=>exact⟨j+1,by omega,by go_num,HP.out,hx5⟩
         case measure=>simp[intOf];omega
       ·have HP:=Hy (HSU.out (by rw[HQ.out,decide_eq_false h1];rfl))
        go_wp2
        go_roundw
        case rel=>exact⟨j+1,by omega,by go_num,HP.out,hx5⟩
        case measure=>simp[intOf];omega
      ·obtain rfl:j=xs.length:=by omega
       have hG:=GOOD.out H.out (.inr (by
        unfold earlyL
        rw[<-HXS.out,allS_true earlyWordL xs HALL2.out,bs_length,decide_eq_true (by omega:a.size<=40)];rfl))
       have HG:=Hy hG
       clear hG
       go_wp2
       go_roundw
       case rel=>exact⟨k+1,by omega,by go_num,HG.out,hxw.trans hxr2⟩
       case measure=>simp[intOf];omega
  ·obtain rfl:k=l.length:=by omega
   go_wp2
   go_ret
   have hz:=HALL.out
   rw[List.take_of_length_le (by simp)] at hz
   exact⟨ret_int (firstI_zero hz).symm,hxr⟩
end
section
open Go.RowKit
theorem VerS.one {w:World} {b:Nat} {a1 a2 a3:Int} {a:ByteArray} (h0:w.cell? ⟨b,0,none⟩=some (.int .i64 a1)) (h1:w.cell? ⟨b,1,none⟩=some (.int .i64 a2)) (h2:w.cell? ⟨b,2,none⟩=some (.int .i64 a3)) (h3:w.cell? ⟨b,3,none⟩=some (.string a)):VerS w b [⟨a1,a2,a3,a⟩]:=by
 constructor
 all_goals intro k hk
 all_goals obtain rfl:k=0:=by simpa using hk
 ·exact h0
 ·exact h1
 ·exact h2
 ·exact h3
theorem err_one (a1 a2 a3:Int) (a:ByteArray):firstI ([(⟨a1,a2,a3,a⟩:V4)].map V4.err)=checkV a1 a2 a3 (bs a):=by
 show firstI [checkV a1 a2 a3 (bs a)]=_
 unfold firstI
 split
 ·rename_i h;rw[h];rfl
 ·rfl
set_option maxHeartbeats 2000000 in
theorem ReadVersion_any (s:ByteArray) (w:World) (hg:GoodN w) (hs:s.size<=2097152) :
 Calls Tryz.prog 27 #[.string s] w (ParsePost (bs s) w):=by
 go_enter Tryz.func27,Tryz.ntmps27
 go_wp2_with fail
 refine (cut_ex 45 s _ (hg.toGood.ext Ext.au) hs).mono ?_
 rintro e w1 ⟨nb,eb,fl,rfl,hcut,hsn,hse,hx1⟩
 have HCUT:=Hy hcut
 clear hcut
 go_wp2_with fail
 refine (split_any 46 nb _ ((hg.toGood.ext Ext.au).ext hx1) (by omega)).mono ?_
 rintro e w2 ⟨b,xs,rfl,hb0,hst,hxs,hx2⟩
 have hxx:Ext w w2:=(Ext.trans Ext.au hx1).trans hx2
 have hR:=((Blk.new w 23 #[.int .i64 0,.int .i64 0,.int .i64 0,.string ⟨#[]⟩]).ext hx1).ext hx2
 have rc:=hR.cell
 have rf:=hR.free
 have rl:=hR.lt
 by_cases h3:xs.length=3
 ·obtain⟨x,y,z,rfl⟩:=three h3
  have hsp:splitC 46 (cutC 45 (bs s)).1=[bs x,bs y,bs z]:=by rw[HCUT.out,<-hxs];rfl
  have HSP:=Hy hsp
  have c0:w2.cell? ⟨b,0,none⟩=some (.string x):=hst.cell 0 (by simp)
  have c1:w2.cell? ⟨b,1,none⟩=some (.string y):=hst.cell 1 (by simp)
  have c2:w2.cell? ⟨b,2,none⟩=some (.string z):=hst.cell 2 (by simp)
  have sx:x.size<=nb.size:=piece_le hxs (k:=0) (by simp)
  have sy:y.size<=nb.size:=piece_le hxs (k:=1) (by simp)
  have sz:z.size<=nb.size:=piece_le hxs (k:=2) (by simp)
  have hbl:=hst.lt
  clear h3 hxs hst hsp
  have htail:(cutC 45 (bs s)).2.2=fl∧(cutC 45 (bs s)).2.1=bs eb:=by rw[HCUT.out];exact⟨rfl,rfl⟩
  have HT:=Hy htail
  clear htail
  by_cases ht:fl=true∧eb.size=0
  ·obtain⟨rfl,he0⟩:=ht
   have hi:=emp_bool he0
   have hp:parseV (bs s)=((0,0,0,[]),8):=parse_tail HSP.out (by rw[HT.out.1,HT.out.2,bs_nil he0];rfl)
   have HP:=Hy hp
   clear hp
   go_wp2
   refine bodyPost_ret (v:=.tuple #[verVal' 0 0 0 ⟨#[]⟩,.int .i64 8]) (by simp[results,Tryz.results27,go_sem,rc]) rfl (post_parse0 HP.out ?_)
   exact Ext.ad
  have hT2:((cutC 45 (bs s)).2.2&&(cutC 45 (bs s)).2.1.isEmpty)=false:=by
   rw[HT.out.1,HT.out.2]
   cases fl
   ·rfl
   ·rcases Nat.eq_zero_or_pos eb.size with h0|h0
    ·exact absurd ⟨rfl,h0⟩ ht
    ·have:=nemp_bool h0
     rw[ByteArray.toList_eq] at this
     rw[this];rfl
  have HT2:=Hy hT2
  clear hT2
  have hq:fl=false∨(fl=true∧0 < eb.size):=by
   cases fl
   ·exact .inl rfl
   ·exact .inr ⟨rfl,Nat.pos_of_ne_zero fun h0=>ht ⟨rfl,h0⟩⟩
  clear ht
  rcases hq with rfl|⟨rfl,hq0⟩
  rotate_left
  ·have hi:=nemp_bool hq0
   go_wp2
   go_loopw [33] (fun i wr=>((i=.int .i64 0∧Blk wr w2.heap.size 130 #[.int .i64 0,.int .i64 0,.int .i64 0])∨(i=.int .i64 1∧numOk (bs x)=true∧Blk wr w2.heap.size 130 #[.int .i64 (numV (bs x)),.int .i64 0,.int .i64 0])∨(i=.int .i64 2∧numOk (bs x)=true∧numOk (bs y)=true∧Blk wr w2.heap.size 130 #[.int .i64 (numV (bs x)),.int .i64 (numV (bs y)),.int .i64 0])∨(i=.int .i64 3∧numOk (bs x)=true∧numOk (bs y)=true∧numOk (bs z)=true∧Blk wr w2.heap.size 130 #[.int .i64 (numV (bs x)),.int .i64 (numV (bs y)),.int .i64 (numV (bs z))]))∧Ext w2 wr) (fun i _=>3 - (intOf i).toNat)
   case atStart=>exact⟨.inl ⟨rfl,Blk.new w2 _ _⟩,(Ext.refl w2).alloc _⟩
   case round =>
    obtain⟨hi,hxr⟩:=hrel
    have rr:=hR.ext hxr
    have d0:=hxr.cell c0
    have d1:=hxr.cell c1
    have d2:=hxr.cell c2
    have gr:=((hg.ext Ext.au).ext hx1).ext (hx2.trans hxr)
    clear rc rf rl c0 c1 c2
    rcases hi with ⟨rfl,hA⟩|⟨rfl,o0,hA⟩|⟨rfl,o0,o1,hA⟩|⟨rfl,o0,o1,o2,hA⟩
    ·skip
     go_wp2_with fail
     refine (Number_any x _ gr (by omega)).mono ?_
     rintro e w3 ⟨rfl,hx3⟩
     have hA3:=hA.ext hx3
     have ac:=hA3.cell
     have af:=hA3.free
     have rr3:=rr.ext hx3
     have rc:=rr3.cell
     have rf:=rr3.free
     cases hk:numOk (bs x)
     ·have HP:=Hy (parse_num HSP.out HT2.out (by rw[hk];simp))
      clear hk ac af
      go_wp2
      refine bodyPost_ret (v:=.tuple #[verVal' 0 0 0 ⟨#[]⟩,.int .i64 8]) (by simp[results,Tryz.results27,go_sem,rc]) rfl (post_parse0 HP.out ?_)
      have hx4:Ext w w3:=(hxx.trans hxr).trans hx3
      exact Ext.ad
     ·have OK:=Hy hk
      clear hk rc rf
      go_wp2
      go_roundw
      case rel=>exact⟨.inr (.inl ⟨rfl,OK.out,hA3.set 0 _⟩),Ext.setCell (hxr.trans hx3) (Nat.le_refl _) _⟩
      case measure=>decide
    ·have O0:=Hy o0;clear o0
     go_wp2_with fail
     refine (Number_any y _ gr (by omega)).mono ?_
     rintro e w3 ⟨rfl,hx3⟩
     have hA3:=hA.ext hx3
     have ac:=hA3.cell
     have af:=hA3.free
     have rr3:=rr.ext hx3
     have rc:=rr3.cell
     have rf:=rr3.free
     cases hk:numOk (bs y)
     ·have HP:=Hy (parse_num HSP.out HT2.out (by rw[hk,O0.out];simp))
      clear hk ac af
      go_wp2
      refine bodyPost_ret (v:=.tuple #[verVal' 0 0 0 ⟨#[]⟩,.int .i64 8]) (by simp[results,Tryz.results27,go_sem,rc]) rfl (post_parse0 HP.out ?_)
      have hx4:Ext w w3:=(hxx.trans hxr).trans hx3
      exact Ext.ad
     ·have OK:=Hy hk
      clear hk rc rf
      go_wp2
      go_roundw
      case rel=>exact⟨.inr (.inr (.inl ⟨rfl,O0.out,OK.out,hA3.set 1 _⟩)),Ext.setCell (hxr.trans hx3) (Nat.le_refl _) _⟩
      case measure=>decide
    ·have O0:=Hy o0;have O1:=Hy o1;clear o0 o1
     go_wp2_with fail
     refine (Number_any z _ gr (by omega)).mono ?_
     rintro e w3 ⟨rfl,hx3⟩
     have hA3:=hA.ext hx3
     have ac:=hA3.cell
     have af:=hA3.free
     have rr3:=rr.ext hx3
     have rc:=rr3.cell
     have rf:=rr3.free
     cases hk:numOk (bs z)
     ·have HP:=Hy (parse_num HSP.out HT2.out (by rw[hk,O0.out,O1.out];simp))
      clear hk ac af
      go_wp2
      refine bodyPost_ret (v:=.tuple #[verVal' 0 0 0 ⟨#[]⟩,.int .i64 8]) (by simp[results,Tryz.results27,go_sem,rc]) rfl (post_parse0 HP.out ?_)
      have hx4:Ext w w3:=(hxx.trans hxr).trans hx3
      exact Ext.ad
     ·have OK:=Hy hk
      clear hk rc rf
      go_wp2
      go_roundw
      case rel=>exact⟨.inr (.inr (.inr (⟨rfl,O0.out,O1.out,OK.out,hA3.set 2 _⟩))),Ext.setCell (hxr.trans hx3) (Nat.le_refl _) _⟩
      case measure=>decide
    ·have O0:=Hy o0;have O1:=Hy o1;have O2:=Hy o2;clear o0 o1 o2
     have ac:=hA.cell
     have rc:=rr.cell
     have rf:=rr.free
     have rl:=rr.lt
     have hp:=parse_ok HSP.out HT2.out O0.out O1.out O2.out
     rw[HT.out.2] at hp
     have HP:=Hy hp
     clear hp
     go_wp2_with fail
     refine (VersionError_any _ _ [⟨numV (bs x),numV (bs y),numV (bs z),eb⟩] _ (gr.toGood.ext Ext.au) ?_ ?_ (by simp)).mono ?_
     ·exact VerS.one (by rw[World.cell?_alloc_at _ _ _ _ (by simp)];rfl) (by rw[World.cell?_alloc_at _ _ _ _ (by simp)];rfl) (by rw[World.cell?_alloc_at _ _ _ _ (by simp)];rfl) (by rw[World.cell?_alloc_at _ _ _ _ (by simp)];rfl)
     ·intro v hv
      rw[List.mem_singleton] at hv
      subst hv
      show eb.size<=2097152
      omega
     rw[err_one]
     rintro e w3 ⟨rfl,hx3⟩
     have hx4:Ext w w3:=Ext.trans (Ext.trans (hxx.trans hxr) Ext.au) hx3
     have rr3:=((rr.alloc _).alloc _).ext hx3
     have rc3:=rr3.cell
     have rf3:=rr3.free
     obtain⟨hc3,hf3⟩:=hx3.cells
     clear ac rc rf
     have vb:=((Blk.new wr 23 #[.int .i64 (numV (bs x)),.int .i64 (numV (bs y)),.int .i64 (numV (bs z)),.string eb]).alloc _).ext hx3
     have vc:=vb.cell
     by_cases h5:checkV (numV (bs x)) (numV (bs y)) (numV (bs z)) (bs eb)=0
     ·have H5:=Hy h5
      rw[h5]
      clear h5
      go_wp2
      refine bodyPost_ret (v:=.tuple #[verVal' (numV (bs x)) (numV (bs y)) (numV (bs z)) eb,.int .i64 0]) (by simp[results,Tryz.results27,go_sem,rc3]) rfl (post_parse1 (by rw[HP.out,if_pos H5.out]) (by rw[bs_length];exact hse) ?_)
      exact Ext.ad
     ·have H5:=Hy h5
      go_wp2
      refine bodyPost_ret (v:=.tuple #[verVal' 0 0 0 ⟨#[]⟩,.int .i64 (checkV (numV (bs x)) (numV (bs y)) (numV (bs z)) (bs eb))]) (by simp[results,Tryz.results27,go_sem,rc3]) rfl (post_parse0 (by rw[HP.out,if_neg H5.out]) ?_)
      exact Ext.ad
  ·go_wp2
   go_loopw [33] (fun i wr=>((i=.int .i64 0∧Blk wr w2.heap.size 130 #[.int .i64 0,.int .i64 0,.int .i64 0])∨(i=.int .i64 1∧numOk (bs x)=true∧Blk wr w2.heap.size 130 #[.int .i64 (numV (bs x)),.int .i64 0,.int .i64 0])∨(i=.int .i64 2∧numOk (bs x)=true∧numOk (bs y)=true∧Blk wr w2.heap.size 130 #[.int .i64 (numV (bs x)),.int .i64 (numV (bs y)),.int .i64 0])∨(i=.int .i64 3∧numOk (bs x)=true∧numOk (bs y)=true∧numOk (bs z)=true∧Blk wr w2.heap.size 130 #[.int .i64 (numV (bs x)),.int .i64 (numV (bs y)),.int .i64 (numV (bs z))]))∧Ext w2 wr) (fun i _=>3 - (intOf i).toNat)
   case atStart=>exact⟨.inl ⟨rfl,Blk.new w2 _ _⟩,(Ext.refl w2).alloc _⟩
   case round =>
    obtain⟨hi,hxr⟩:=hrel
    have rr:=hR.ext hxr
    have d0:=hxr.cell c0
    have d1:=hxr.cell c1
    have d2:=hxr.cell c2
    have gr:=((hg.ext Ext.au).ext hx1).ext (hx2.trans hxr)
    clear rc rf rl c0 c1 c2
    rcases hi with ⟨rfl,hA⟩|⟨rfl,o0,hA⟩|⟨rfl,o0,o1,hA⟩|⟨rfl,o0,o1,o2,hA⟩
    ·skip
     go_wp2_with fail
     refine (Number_any x _ gr (by omega)).mono ?_
     rintro e w3 ⟨rfl,hx3⟩
     have hA3:=hA.ext hx3
     have ac:=hA3.cell
     have af:=hA3.free
     have rr3:=rr.ext hx3
     have rc:=rr3.cell
     have rf:=rr3.free
     cases hk:numOk (bs x)
     ·have HP:=Hy (parse_num HSP.out HT2.out (by rw[hk];simp))
      clear hk ac af
      go_wp2
      refine bodyPost_ret (v:=.tuple #[verVal' 0 0 0 ⟨#[]⟩,.int .i64 8]) (by simp[results,Tryz.results27,go_sem,rc]) rfl (post_parse0 HP.out ?_)
      have hx4:Ext w w3:=(hxx.trans hxr).trans hx3
      exact Ext.ad
     ·have OK:=Hy hk
      clear hk rc rf
      go_wp2
      go_roundw
      case rel=>exact⟨.inr (.inl ⟨rfl,OK.out,hA3.set 0 _⟩),Ext.setCell (hxr.trans hx3) (Nat.le_refl _) _⟩
      case measure=>decide
    ·have O0:=Hy o0;clear o0
     go_wp2_with fail
     refine (Number_any y _ gr (by omega)).mono ?_
     rintro e w3 ⟨rfl,hx3⟩
     have hA3:=hA.ext hx3
     have ac:=hA3.cell
     have af:=hA3.free
     have rr3:=rr.ext hx3
     have rc:=rr3.cell
     have rf:=rr3.free
     cases hk:numOk (bs y)
     ·have HP:=Hy (parse_num HSP.out HT2.out (by rw[hk,O0.out];simp))
      clear hk ac af
      go_wp2
      refine bodyPost_ret (v:=.tuple #[verVal' 0 0 0 ⟨#[]⟩,.int .i64 8]) (by simp[results,Tryz.results27,go_sem,rc]) rfl (post_parse0 HP.out ?_)
      have hx4:Ext w w3:=(hxx.trans hxr).trans hx3
      exact Ext.ad
     ·have OK:=Hy hk
      clear hk rc rf
      go_wp2
      go_roundw
      case rel=>exact⟨.inr (.inr (.inl ⟨rfl,O0.out,OK.out,hA3.set 1 _⟩)),Ext.setCell (hxr.trans hx3) (Nat.le_refl _) _⟩
      case measure=>decide
    ·have O0:=Hy o0;have O1:=Hy o1;clear o0 o1
     go_wp2_with fail
     refine (Number_any z _ gr (by omega)).mono ?_
     rintro e w3 ⟨rfl,hx3⟩
     have hA3:=hA.ext hx3
     have ac:=hA3.cell
     have af:=hA3.free
     have rr3:=rr.ext hx3
     have rc:=rr3.cell
     have rf:=rr3.free
     cases hk:numOk (bs z)
     ·have HP:=Hy (parse_num HSP.out HT2.out (by rw[hk,O0.out,O1.out];simp))
      clear hk ac af
      go_wp2
      refine bodyPost_ret (v:=.tuple #[verVal' 0 0 0 ⟨#[]⟩,.int .i64 8]) (by simp[results,Tryz.results27,go_sem,rc]) rfl (post_parse0 HP.out ?_)
      have hx4:Ext w w3:=(hxx.trans hxr).trans hx3
      exact Ext.ad
     ·have OK:=Hy hk
      clear hk rc rf
      go_wp2
      go_roundw
      case rel=>exact⟨.inr (.inr (.inr (⟨rfl,O0.out,O1.out,OK.out,hA3.set 2 _⟩))),Ext.setCell (hxr.trans hx3) (Nat.le_refl _) _⟩
      case measure=>decide
    ·have O0:=Hy o0;have O1:=Hy o1;have O2:=Hy o2;clear o0 o1 o2
     have ac:=hA.cell
     have rc:=rr.cell
     have rf:=rr.free
     have rl:=rr.lt
     have hp:=parse_ok HSP.out HT2.out O0.out O1.out O2.out
     rw[HT.out.2] at hp
     have HP:=Hy hp
     clear hp
     go_wp2_with fail
     refine (VersionError_any _ _ [⟨numV (bs x),numV (bs y),numV (bs z),eb⟩] _ (gr.toGood.ext Ext.au) ?_ ?_ (by simp)).mono ?_
     ·exact VerS.one (by rw[World.cell?_alloc_at _ _ _ _ (by simp)];rfl) (by rw[World.cell?_alloc_at _ _ _ _ (by simp)];rfl) (by rw[World.cell?_alloc_at _ _ _ _ (by simp)];rfl) (by rw[World.cell?_alloc_at _ _ _ _ (by simp)];rfl)
     ·intro v hv
      rw[List.mem_singleton] at hv
      subst hv
      show eb.size<=2097152
      omega
     rw[err_one]
     rintro e w3 ⟨rfl,hx3⟩
     have hx4:Ext w w3:=Ext.trans (Ext.trans (hxx.trans hxr) Ext.au) hx3
     have rr3:=((rr.alloc _).alloc _).ext hx3
     have rc3:=rr3.cell
     have rf3:=rr3.free
     obtain⟨hc3,hf3⟩:=hx3.cells
     clear ac rc rf
     have vb:=((Blk.new wr 23 #[.int .i64 (numV (bs x)),.int .i64 (numV (bs y)),.int .i64 (numV (bs z)),.string eb]).alloc _).ext hx3
     have vc:=vb.cell
     by_cases h5:checkV (numV (bs x)) (numV (bs y)) (numV (bs z)) (bs eb)=0
     ·have H5:=Hy h5
      rw[h5]
      clear h5
      go_wp2
      refine bodyPost_ret (v:=.tuple #[verVal' (numV (bs x)) (numV (bs y)) (numV (bs z)) eb,.int .i64 0]) (by simp[results,Tryz.results27,go_sem,rc3]) rfl (post_parse1 (by rw[HP.out,if_pos H5.out]) (by rw[bs_length];exact hse) ?_)
      exact Ext.ad
     ·have H5:=Hy h5
      go_wp2
      refine bodyPost_ret (v:=.tuple #[verVal' 0 0 0 ⟨#[]⟩,.int .i64 (checkV (numV (bs x)) (numV (bs y)) (numV (bs z)) (bs eb))]) (by simp[results,Tryz.results27,go_sem,rc3]) rfl (post_parse0 (by rw[HP.out,if_neg H5.out]) ?_)
      exact Ext.ad
 ·have b3:((xs.length:Int) != 3)=true:=by rw[bne_iff_ne];omega
  have hp:parseV (bs s)=((0,0,0,[]),8):=parse_count (by rw[HCUT.out,<-hxs,List.length_map];exact h3)
  have HP:=Hy hp
  clear hp h3 hxs hst
  go_wp2
  refine bodyPost_ret (v:=.tuple #[verVal' 0 0 0 ⟨#[]⟩,.int .i64 8]) (by simp[results,Tryz.results27,go_sem,rc]) rfl (post_parse0 HP.out ?_)
  exact Ext.ad
end
section
theorem compareInt_lt {a b:Nat} (h:a < b):Lib.compareInt a b=-1:=by unfold Lib.compareInt;rw[if_pos (by omega)]
theorem compareInt_gt {a b:Nat} (h:b < a):Lib.compareInt a b=1:=by unfold Lib.compareInt;rw[if_neg (by omega),if_pos (by omega)]
theorem compareInt_self (a:Nat):Lib.compareInt a a=0:=by unfold Lib.compareInt;rw[if_neg (by omega),if_neg (by omega)]
theorem compareBytes_self:∀ l:Str,Lib.compareBytes l l=0
 | []=>rfl
 | a::l=>by
   unfold Lib.compareBytes
   rw[if_neg (by simp),if_neg (by simp)]
   exact compareBytes_self l
theorem cmp_digits:∀ (x y:Str),x.all digitB=true->y.all digitB=true->x.length=y.length->Lib.compareBytes x y=Lib.compareInt (decVal x) (decVal y)
 | [],[],_,_,_=>rfl
 | a::x,b::y,hx,hy,hl=>by
   simp only[List.all_cons,Bool.and_eq_true] at hx hy
   simp only[List.length_cons,Nat.add_right_cancel_iff] at hl
   have ha:=digit_bounds hx.1
   have hb:=digit_bounds hy.1
   have lx:=decVal_lt x hx.2
   have ly:=decVal_lt y hy.2
   rw[decVal_cons,decVal_cons]
   unfold Lib.compareBytes
   by_cases h1:a < b
   ·rw[if_pos h1]
    have h2:a.toNat < b.toNat:=UInt8.lt_iff_toNat_lt.1 h1
    have h3:(a.toNat - 48+1) * 10 ^ x.length<=(b.toNat - 48) * 10 ^ y.length:=by rw[<-hl];exact Nat.mul_le_mul_right _ (by omega)
    rw[Nat.add_mul,Nat.one_mul] at h3
    rw[compareInt_lt (by omega)]
   ·rw[if_neg h1]
    by_cases h2:b < a
    ·rw[if_pos h2]
     have h2':b.toNat < a.toNat:=UInt8.lt_iff_toNat_lt.1 h2
     have h3:(b.toNat - 48+1) * 10 ^ y.length<=(a.toNat - 48) * 10 ^ x.length:=by rw[<-hl];exact Nat.mul_le_mul_right _ (by omega)
     rw[Nat.add_mul,Nat.one_mul] at h3
     rw[compareInt_gt (by omega)]
    ·rw[if_neg h2,cmp_digits x y hx.2 hy.2 hl]
     have h3:a=b:=by
      apply UInt8.toNat_inj.1
      rw[UInt8.lt_iff_toNat_lt] at h1 h2
      omega
     subst h3
     rw[hl]
     generalize (a.toNat - 48) * 10 ^ y.length=m
     rcases Nat.lt_trichotomy (decVal x) (decVal y) with g|g|g
     ·rw[compareInt_lt g,compareInt_lt (by omega)]
     ·rw[g,compareInt_self,compareInt_self]
     ·rw[compareInt_gt g,compareInt_gt (by omega)]
theorem decVal_ge:∀ (y:Str),y.all digitB=true->1 < y.length->y.headD 0≠48->10 ^ (y.length - 1)<=decVal y
 | [],_,h,_=>by simp at h
 | b::y,h,hl,h0=>by
   simp only[List.all_cons,Bool.and_eq_true] at h
   have hb:=digit_bounds h.1
   have h1:b.toNat≠48:=fun e=>h0 (UInt8.toNat_inj.1 e)
   rw[decVal_cons]
   have:1 * 10 ^ y.length<=(b.toNat - 48) * 10 ^ y.length:=Nat.mul_le_mul_right _ (by omega)
   simp only[List.length_cons,Nat.add_sub_cancel]
   omega
def refWord (x y:Str):Int :=
 if (x.all digitB&&y.all digitB)=true then Lib.compareInt (decVal x) (decVal y) else if x.all digitB=true then -1 else if y.all digitB=true then 1 else Lib.compareBytes x y
theorem word_parts {x:Str} (h:earlyWordL x=true):x≠[]∧x.length<=10∧numeralL x=x.all digitB∧(x.all digitB=true->1 < x.length->x.headD 0≠48):=by
 rw[earlyWord_eq] at h
 simp only[Bool.not_eq_true',Bool.or_eq_false_iff,beq_eq_false_iff_ne,decide_eq_false_iff_not,Bool.not_eq_false',Bool.and_eq_false_iff] at h
 obtain⟨⟨⟨h1,h2⟩,h3⟩,h4⟩:=h
 have h5:0 < x.length:=List.length_pos_iff.2 h1
 refine⟨h1,by omega,?_,fun hd hl=>?_⟩
 ·unfold numeralL eachL
  rw[decide_eq_true h5,decide_eq_true (by omega:x.length<=10)];simp
 ·rcases h4 with (h4|h4)|h4
  ·rw[hd] at h4;cases h4
  ·exact absurd hl h4
  ·exact h4
theorem cmp_shorter {x y:Str} (hx:x.all digitB=true) (hy:y.all digitB=true) (h0:0 < x.length) (hl:x.length < y.length) (hh:y.headD 0≠48):decVal x < decVal y:=by
 have h1:=decVal_lt x hx
 have h2:=decVal_ge y hy (by omega) hh
 have h3:(10:Nat) ^ x.length<=10 ^ (y.length - 1):=Nat.pow_le_pow_right (by decide) (by omega)
 omega
theorem word_same {x y:Str} (hx:earlyWordL x=true) (hy:earlyWordL y=true):refWord x y=cmpWordL x y:=by
 obtain⟨x0,x1,x2,x3⟩:=word_parts hx
 obtain⟨y0,y1,y2,y3⟩:=word_parts hy
 have hx0:0 < x.length:=List.length_pos_iff.2 x0
 have hy0:0 < y.length:=List.length_pos_iff.2 y0
 unfold refWord cmpWordL
 rw[x2,y2]
 by_cases h:(x.all digitB&&y.all digitB)=true
 ·rw[if_pos h,if_pos h]
  simp only[Bool.and_eq_true] at h
  by_cases hl:x.length=y.length
  ·rw[if_pos hl,cmp_digits x y h.1 h.2 hl]
  ·rw[if_neg hl]
   rcases Nat.lt_or_gt_of_ne hl with hlt|hgt
   ·rw[compareInt_lt hlt,compareInt_lt (cmp_shorter h.1 h.2 hx0 hlt (y3 h.2 (by omega)))]
   ·rw[compareInt_gt hgt,compareInt_gt (cmp_shorter h.2 h.1 hy0 hgt (x3 h.1 (by omega)))]
 ·rw[if_neg h,if_neg h]
theorem cmpWord_self (x:Str):cmpWordL x x=0:=by
 unfold cmpWordL
 by_cases h:(numeralL x&&numeralL x)=true
 ·rw[if_pos h,if_pos rfl,compareBytes_self]
 ·rw[if_neg h]
  have h1:¬ numeralL x=true:=fun e=>h (by rw[e];rfl)
  rw[if_neg h1,if_neg h1,compareBytes_self]
theorem cmpWords_self:∀ l:List Str,cmpWordsL cmpWordL l l=0
 | []=>rfl
 | x::l=>by
   unfold cmpWordsL
   rw[if_pos (cmpWord_self x)]
   exact cmpWords_self l
theorem cmpEarly_both {a b:Str} (ha:a≠[]) (hb:b≠[]):cmpEarlyL a b=cmpWordsL cmpWordL (splitC 46 a) (splitC 46 b):=by
 unfold cmpEarlyL
 by_cases h:a=b
 ·rw[if_pos h,h,cmpWords_self]
 ·rw[if_neg h,if_neg ha,if_neg hb]
theorem cmpEarly_left {a b:Str} (ha:a=[]):cmpEarlyL a b=if b=[] then 0 else 1:=by
 subst ha
 cases b with
 | nil=>rfl
 | cons x r=>simp[cmpEarlyL]
theorem cmpEarly_right {a b:Str} (ha:a≠[]) (hb:b=[]):cmpEarlyL a b=-1:=by
 unfold cmpEarlyL
 rw[if_neg (by rw[hb];exact ha),if_neg ha,if_pos hb]
end
section
open Go.RowKit
theorem order_split (x y z e:Int):firstI [x,y,z,e]=if firstI [x,y,z]=0 then e else firstI [x,y,z]:=by
 simp only[firstI]
 by_cases hx:x=0
 ·by_cases hy:y=0
  ·by_cases hz:z=0
   ·by_cases he:e=0
    ·simp[hx,hy,hz,he]
    ·simp[hx,hy,hz,he]
   ·simp[hx,hy,hz]
  ·simp[hx,hy]
 ·simp[hx]
theorem early_of {a1 a2 a3:Int} {a:ByteArray} (h:checkV a1 a2 a3 (bs a)=0) (h0:0 < a.size):earlyL (bs a)=true:=by
 rcases (checkV_ok h).2.2.2 with e|e
 ·have:=bs_length a;rw[e] at this;simp at this;omega
 ·exact e
theorem words_of {a:ByteArray} {xs:List ByteArray} (h:earlyL (bs a)=true) (hx:xs.map bs=splitC 46 (bs a)) {k:Nat} (hk:k < xs.length):earlyWordL (bs xs[k])=true:=by
 unfold earlyL at h
 rw[Bool.and_eq_true] at h
 exact List.all_eq_true.1 h.1 _ (by rw[<-hx];exact List.mem_map.2 ⟨_,List.getElem_mem hk,rfl⟩)
def digL (l:Str):Bool:=l.all digitB
theorem of_digitD (s:ByteArray) (w:World) (hs:s.size<=2097152) :
 Calls Tryz.prog 72 #[.string s,.string ⟨#[48,49,50,51,52,53,54,55,56,57]⟩] w fun e w'=>e=.returned (.bool (digL (bs s)))∧Ext w w':=of_digit s w hs
theorem min_cmp (n m:Nat):Lib.compareInt (min 1 (n:Int)) (min 1 (m:Int))=if n=0 then (if m=0 then 0 else -1) else (if m=0 then 1 else 0):=by
 unfold Lib.compareInt
 by_cases hn:n=0
 ·by_cases hm:m=0
  ·subst hn hm;rfl
  ·rw[if_pos hn,if_neg hm,if_pos (by omega)]
 ·by_cases hm:m=0
  ·rw[if_neg hn,if_pos hm,if_neg (by omega),if_pos (by omega)]
  ·rw[if_neg hn,if_neg hm,if_neg (by omega),if_neg (by omega)]
set_option maxHeartbeats 4000000 in
set_option maxRecDepth 100000 in
theorem CompareOf_any (a1 a2 a3 b1 b2 b3:Int) (a b:ByteArray) (w:World) (hg:GoodN w) (ha:a.size<=2097152) (hb:b.size<=2097152) (oA:checkV a1 a2 a3 (bs a)=0) (oB:checkV b1 b2 b3 (bs b)=0) :
 Calls Tryz.prog 25 #[.agg #[.int .i64 a1,.int .i64 a2,.int .i64 a3,.string a],.agg #[.int .i64 b1,.int .i64 b2,.int .i64 b3,.string b]] w
  fun e w'=>e=.returned (.int .i64 (orderL a1 a2 a3 (bs a) b1 b2 b3 (bs b)))∧Ext w w':=by
 have os:orderL a1 a2 a3 (bs a) b1 b2 b3 (bs b)=_:=order_split _ _ _ _
 have OS:=Hy os
 have OA:=Hy oA
 have OB:=Hy oB
 clear os oA oB
 go_enter Tryz.func25,Tryz.ntmps25
 go_wp2_with fail
 refine wp_region_ext_tail 15 (by kernel_rfl) (by kernel_rfl) ?_
 simp only[List.take_succ_cons,List.take_zero,List.drop_succ_cons,List.drop_zero]
 repeat (first|go_big_quiet_skip|(refine wpQuiet_step (fun K hK=>?_);go_simp;first|(refine hK _ ?_;clear hK K)|(apply Exists.intro;refine⟨fun wq hwq=>?_,hK _ ?_⟩;(obtain⟨hqc,hqf⟩:=hwq.cells;have hqs:=hwq.size;(try go_simp);first|rfl|((first|rw[if_neg (by omega)]|rw[if_pos (by omega)]);(try go_simp);rfl)|(((go_at_call 85;exact (compareInt_any _ _ _).mono (fun e w'' h=>⟨h.1,h.2 ▸ hwq⟩)))));clear hK K)))
 refine wpQuiet_nil ?_
 intro wN hxN
 obtain⟨hcN,hfN⟩:=hxN.cells
 have hsN:=hxN.size
 go_wp2_with fail
 refine (Or_any _ _ [Lib.compareInt a1 b1,Lib.compareInt a2 b2,Lib.compareInt a3 b3] _ ?_ (by simp)).mono ?_
 ·intro k hk
  rw[World.cell?_alloc_at _ _ _ _ rfl]
  match k,hk with
  | 0,_=>rfl
  | 1,_=>rfl
  | 2,_=>rfl
 rintro e w' ⟨rfl,rfl⟩
 have hgN:GoodN wN:=hg.ext (Ext.trans Ext.au hxN)
 have hxw:Ext w wN:=Ext.trans Ext.au hxN
 have q1:w.heap.size+1 < wN.heap.size:=by simp at hsN;omega
 have q2:w.heap.size < wN.heap.size:=by omega
 clear hsN
 by_cases h0:firstI [Lib.compareInt a1 b1,Lib.compareInt a2 b2,Lib.compareInt a3 b3]=0
 rotate_left
 ·have HF:=Hy h0
  have hb2:(firstI [Lib.compareInt a1 b1,Lib.compareInt a2 b2,Lib.compareInt a3 b3] != 0)=true:=by rw[bne_iff_ne];exact h0
  have hfin:=OS.out
  rw[if_neg h0] at hfin
  have HFIN:=Hy hfin
  clear hfin h0
  generalize firstI [Lib.compareInt a1 b1,Lib.compareInt a2 b2,Lib.compareInt a3 b3]=r at *
  go_wp2
  go_ret
  exact⟨ret_int HFIN.out.symm,hxw.alloc _⟩
 have oe:=OS.out
 rw[if_pos h0] at oe
 have OE0:=Hy oe
 rw[h0]
 clear oe h0
 rcases Nat.eq_zero_or_pos a.size with za|za
 ·have hi:=emp_bool za
  have hfin:orderL a1 a2 a3 (bs a) b1 b2 b3 (bs b)=Lib.compareInt (min 1 (b.size:Int)) (min 1 (a.size:Int)):=by
   rw[OE0.out,cmpEarly_left (bs_nil za),min_cmp,if_pos za]
   by_cases zb:b.size=0
   ·rw[if_pos zb,if_pos (bs_nil zb)]
   ·rw[if_neg zb,if_neg (fun e=>zb (by rw[<-bs_length,e];rfl))];simp[za]
  have HFIN:=Hy hfin
  clear hfin za
  go_wp2_with (go_at_call 85;refine (compareInt_any _ _ _).mono ?_;rintro e w' ⟨rfl,rfl⟩)
  go_ret
  exact⟨ret_int HFIN.out.symm,hxw.alloc _⟩
 have hia:=nemp_bool za
 have na:¬ bs a=[]:=fun e=>by have:=bs_length a;rw[e] at this;simp at this;omega
 have NA:=Hy na
 clear na
 rcases Nat.eq_zero_or_pos b.size with zb|zb
 ·have hi:=emp_bool zb
  have hfin:orderL a1 a2 a3 (bs a) b1 b2 b3 (bs b)=Lib.compareInt (min 1 (b.size:Int)) (min 1 (a.size:Int)):=by
   rw[OE0.out,cmpEarly_right NA.out (bs_nil zb),min_cmp,if_pos zb,if_neg (by omega)]
  have HFIN:=Hy hfin
  clear hfin zb
  go_wp2_with (go_at_call 85;refine (compareInt_any _ _ _).mono ?_;rintro e w' ⟨rfl,rfl⟩)
  go_ret
  exact⟨ret_int HFIN.out.symm,hxw.alloc _⟩
 have hib:=nemp_bool zb
 have nb:¬ bs b=[]:=fun e=>by have:=bs_length b;rw[e] at this;simp at this;omega
 have oe:=OE0.out
 rw[cmpEarly_both NA.out nb] at oe
 have OE:=Hy oe
 have EA:=Hy (early_of OA.out za)
 have EB:=Hy (early_of OB.out zb)
 clear oe nb
 have hgM:GoodN (wN.alloc (.cells #[.int .i64 (Lib.compareInt a1 b1),.int .i64 (Lib.compareInt a2 b2),.int .i64 (Lib.compareInt a3 b3)] 3)):=hgN.ext Ext.au
 have hx6:Ext w (wN.alloc (.cells #[.int .i64 (Lib.compareInt a1 b1),.int .i64 (Lib.compareInt a2 b2),.int .i64 (Lib.compareInt a3 b3)] 3)):=hxw.alloc _
 have s1:(wN.alloc (.cells #[.int .i64 (Lib.compareInt a1 b1),.int .i64 (Lib.compareInt a2 b2),.int .i64 (Lib.compareInt a3 b3)] 3)).cell? ⟨w.heap.size,3,none⟩=some (.string a):=by
  rw[World.cell?_alloc_past _ _ _ q2,hcN _ _ (by simp<;>omega)]
  go_simp
 have s2:(wN.alloc (.cells #[.int .i64 (Lib.compareInt a1 b1),.int .i64 (Lib.compareInt a2 b2),.int .i64 (Lib.compareInt a3 b3)] 3)).cell? ⟨w.heap.size+1,3,none⟩=some (.string b):=by
  rw[World.cell?_alloc_past _ _ _ q1,hcN _ _ (by simp<;>omega)]
  go_simp
 go_wp2_with fail
 generalize (wN.alloc (.cells #[.int .i64 (Lib.compareInt a1 b1),.int .i64 (Lib.compareInt a2 b2),.int .i64 (Lib.compareInt a3 b3)] 3))=W6 at *
 clear hxN hcN hfN hxw hgN q1 q2
 go_region_held3 (fun w'=>w'.cell? ⟨w.heap.size,3,none⟩=some (.string a)∧w'.cell? ⟨w.heap.size+1,3,none⟩=some (.string b))
  (first
    | exact⟨hy1.cell s1,hy1.cell s2⟩
    | exact⟨hy2.cell (hy1.cell s1),hy2.cell (hy1.cell s2)⟩
    | go_keep)
  (first
    | (go_at_call 71;with_reducible refine (split_any 46 a _ (hgM.toGood.ext ((Ext.refl _).drew)) ha).mono ?_;rintro e w1 ⟨p1,xs,rfl,hp1,hst1,hxs,hy1⟩)
    | (go_at_call 71;with_reducible refine (split_any 46 b _ ((hgM.toGood.ext ((Ext.refl _).drew)).ext hy1) hb).mono ?_;rintro e w2 ⟨p2,ys,rfl,hp2,hst2,hys,hy2⟩))
 have hl1:=pieces_le hxs
 have hl2:=pieces_le hys
 have HXS:=Hy hxs
 have HYS:=Hy hys
 have hc1:=(hst1.ext hy2).cell
 have hc2:=hst2.cell
 have HC1:=Hy hc1
 have HC2:=Hy hc2
 have hx:Ext w w2:=(hx6.trans ((Ext.refl W6).drew.trans hy1)).trans hy2
 have hgw:GoodN w2:=hg.ext hx
 clear hxs hys hc1 hc2 hst1 hst2 s1 s2 hy1 hy2 hgM hx6 hp1 hp2
 go_wp2
 go_loopw [64] (fun i wr=>∃ k:Nat,i=.int .i64 k∧k<=xs.length∧k<=ys.length∧(∀ j (h1:j < xs.length) (h2:j < ys.length),j < k->cmpWordL (bs xs[j]) (bs ys[j])=0)∧Ext w2 wr) (fun i _=>xs.length - (intOf i).toNat)
 case atStart=>exact⟨0,rfl,Nat.zero_le _,Nat.zero_le _,fun j _ _ h=>absurd h (by omega),Ext.refl _⟩
 case round =>
  obtain⟨k,rfl,hk1,hk2,hall,hxr⟩:=hrel
  have HALL:=Hy hall
  clear hall
  by_cases hlt:k < xs.length∧k < ys.length
  ·obtain⟨hlt1,hlt2⟩:=hlt
   have hm:(k:Int) < min (xs.length:Int) (ys.length:Int):=by omega
   have d1:=hxr.cell (HC1.out k hlt1)
   have d2:=hxr.cell (HC2.out k hlt2)
   have g1:=lt_of_cell d1
   have g2:=lt_of_cell d2
   have z1:=piece_le HXS.out hlt1
   have z2:=piece_le HYS.out hlt2
   have ew1:=words_of EA.out HXS.out hlt1
   have ew2:=words_of EB.out HYS.out hlt2
   have hw:=word_same ew1 ew2
   have hmiss:=fun h:refWord (bs xs[k]) (bs ys[k])=0=>(word_same ew1 ew2).symm.trans h
   have hhit:=fun h:refWord (bs xs[k]) (bs ys[k])≠0=>cmpWords_hit HXS.out HYS.out hlt1 hlt2 (fun j hj=>HALL.out j (by omega) (by omega) hj) (by rw[<-word_same ew1 ew2];exact h)
   obtain⟨x0,x1,_,_⟩:=word_parts ew1
   obtain⟨y0,y1,_,_⟩:=word_parts ew2
   have zx:0 < xs[k].size:=by rw[<-bs_length];exact List.length_pos_iff.2 x0
   have zy:0 < ys[k].size:=by rw[<-bs_length];exact List.length_pos_iff.2 y0
   rw[bs_length] at x1 y1
   have hstep:cmpWordL (bs xs[k]) (bs ys[k])=0->∀ j (h1:j < xs.length) (h2:j < ys.length),j < k+1->cmpWordL (bs xs[j]) (bs ys[j])=0:=fun h j h1 h2 h3=>by
    by_cases hj:j=k
    ·subst hj;exact h
    ·exact HALL.out j h1 h2 (by omega)
   have HW:=Hy hw
   have HHIT:=Hy hhit
   have HSTEP:=Hy hstep
   clear hw hmiss hhit hstep ew1 ew2 x0 y0
   generalize xs[k]=x at *
   generalize ys[k]=y at *
   go_wp2_with fail
   refine wp_region_ext (by kernel_rfl) (by kernel_rfl) ?_
   repeat (first|go_big_quiet_skip|(refine wpQuiet_step (fun K hK=>?_);go_simp;first|(refine hK _ ?_;clear hK K)|(apply Exists.intro;refine⟨fun wq hwq=>?_,hK _ ?_⟩;(obtain⟨hqc,hqf⟩:=hwq.cells;have hqs:=hwq.size;(try go_simp);first|rfl|((first|rw[if_neg (by omega)]|rw[if_pos (by omega)]);(try go_simp);rfl)|((go_at_call 72;refine (of_digitD _ _ ?_).mono (fun e w'' h=>⟨h.1,hwq.trans h.2⟩);omega)));clear hK K)))
   refine wpQuiet_nil ?_
   intro wN hxN
   obtain⟨hcN,hfN⟩:=hxN.cells
   have hsN:=hxN.size
   have d3:=hxN.cell d1
   have d4:=hxN.cell d2
   go_wp2_with fail
   refine (atoi_any x _ (hgw.ext (hxr.trans hxN)) (by omega)).mono ?_
   rintro e w3 ⟨v1,ev1,rfl,hx3,hv1,_⟩
   have hv1:=Hy hv1
   have d5:=hx3.cell d3
   have d6:=hx3.cell d4
   go_wp2_with fail
   refine (atoi_any y _ ((hgw.ext (hxr.trans hxN)).ext hx3) (by omega)).mono ?_
   rintro e w4 ⟨v2,ev2,rfl,hx4,hv2,_⟩
   have hv2:=Hy hv2
   have d7:=hx4.cell d5
   have d8:=hx4.cell d6
   have g3:=lt_of_cell d7
   have g4:=lt_of_cell d8
   have hxz4:=((hxN.trans hx3).trans hx4)
   clear d1 d2 d3 d4 d5 d6 hcN hfN hsN hx3 hx4 hxN
   go_wp2_with fail
   refine wp_region_ext (by kernel_rfl) (by kernel_rfl) ?_
   repeat (first|go_big_quiet_skip|(refine wpQuiet_step (fun K hK=>?_);go_simp;first|(refine hK _ ?_;clear hK K)|(apply Exists.intro;refine⟨fun wq hwq=>?_,hK _ ?_⟩;(obtain⟨hqc,hqf⟩:=hwq.cells;have hqs:=hwq.size;(try go_simp);first|rfl|((first|rw[if_neg (by omega)]|rw[if_pos (by omega)]);(try go_simp);rfl)|((go_at_call 87;exact (compare_any x y _).mono (fun e w'' h=>⟨h.1,h.2 ▸ hwq⟩))));clear hK K)))
   refine wpQuiet_nil ?_
   intro wN hxN
   obtain⟨hcN,hfN⟩:=hxN.cells
   have hsN:=hxN.size
   have hxz:=hxz4.trans hxN
   clear hcN hfN hsN
   cases hp:digL (bs x)
   ·cases hq:digL (bs y)
    ·have HV:=Hy (show refWord (bs x) (bs y)=Lib.compareBytes (bs x) (bs y) by unfold refWord;rw[show (bs x).all digitB=_ from hp,show (bs y).all digitB=_ from hq];rfl)
     by_cases hz:Lib.compareBytes (bs x) (bs y)=0
     ·have hz2:(Lib.compareBytes (bs x) (bs y) != 0)=false:=by rw[hz];rfl
      have HZ:=Hy hz
      clear hz
      go_wp2
      go_roundw
      case rel =>
       exact⟨k+1,by go_num,by omega,by omega,HSTEP.out (by rw[<-HW.out,HV.out];exact HZ.out),hxr.trans hxz⟩
      case measure=>simp[intOf];omega
     ·have hz2:(Lib.compareBytes (bs x) (bs y) != 0)=true:=by rw[bne_iff_ne];exact hz
      have HNZ:=Hy hz
      clear hz
      go_wp2
      go_ret
      refine⟨ret_int ?_,(hx.trans hxr).trans hxz⟩
      rw[OE.out,HHIT.out (by rw[HV.out];exact HNZ.out),<-HW.out,HV.out]
    ·have HV:=Hy (show refWord (bs x) (bs y)=1 by unfold refWord;rw[show (bs x).all digitB=_ from hp,show (bs y).all digitB=_ from hq];rfl)
     have HNZ:=Hy (show (1:Int)≠0 by decide)
     go_wp2
     go_ret
     refine⟨ret_int ?_,(hx.trans hxr).trans hxz⟩
     rw[OE.out,HHIT.out (by rw[HV.out];exact HNZ.out),<-HW.out,HV.out]
   ·cases hq:digL (bs y)
    ·have HV:=Hy (show refWord (bs x) (bs y)=-1 by unfold refWord;rw[show (bs x).all digitB=_ from hp,show (bs y).all digitB=_ from hq];rfl)
     have HNZ:=Hy (show (-1:Int)≠0 by decide)
     go_wp2
     go_ret
     refine⟨ret_int ?_,(hx.trans hxr).trans hxz⟩
     rw[OE.out,HHIT.out (by rw[HV.out];exact HNZ.out),<-HW.out,HV.out]
    ·have hu1:=(hv1.out _ (atoi_digits _ hp (by rw[bs_length];exact zx) (by rw[bs_length];omega))).1
     have hu2:=(hv2.out _ (atoi_digits _ hq (by rw[bs_length];exact zy) (by rw[bs_length];omega))).1
     have HV:=Hy (show refWord (bs x) (bs y)=Lib.compareInt v1 v2 by unfold refWord;rw[show (bs x).all digitB=_ from hp,show (bs y).all digitB=_ from hq,hu1,hu2];rfl)
     clear hu1 hu2
     by_cases hz:Lib.compareInt v1 v2=0
     ·have hz2:(Lib.compareInt v1 v2 != 0)=false:=by rw[hz];rfl
      have HZ:=Hy hz
      clear hz
      go_wp2_with (go_at_call 85;refine (compareInt_any _ _ _).mono ?_;rintro e w' ⟨rfl,rfl⟩)
      go_roundw
      case rel =>
       exact⟨k+1,by go_num,by omega,by omega,HSTEP.out (by rw[<-HW.out,HV.out];exact HZ.out),hxr.trans hxz⟩
      case measure=>simp[intOf];omega
     ·have hz2:(Lib.compareInt v1 v2 != 0)=true:=by rw[bne_iff_ne];exact hz
      have HNZ:=Hy hz
      clear hz
      go_wp2_with (go_at_call 85;refine (compareInt_any _ _ _).mono ?_;rintro e w' ⟨rfl,rfl⟩)
      go_ret
      refine⟨ret_int ?_,(hx.trans hxr).trans hxz⟩
      rw[OE.out,HHIT.out (by rw[HV.out];exact HNZ.out),<-HW.out,HV.out]
  ·have hm:¬ (k:Int) < min (xs.length:Int) (ys.length:Int):=by omega
   have hfin:orderL a1 a2 a3 (bs a) b1 b2 b3 (bs b)=Lib.compareInt xs.length ys.length:=by
    rw[OE.out,cmpWords_all HXS.out HYS.out (fun j h1 h2=>HALL.out j h1 h2 (by omega))]
   have HFIN:=Hy hfin
   clear hfin
   go_wp2_with (go_at_call 85;refine (compareInt_any _ _ _).mono ?_;rintro e w' ⟨rfl,rfl⟩)
   go_ret
   exact⟨ret_int HFIN.out.symm,hx.trans hxr⟩
end
section
theorem compareInt_neg (a b:Int):Lib.compareInt b a=- Lib.compareInt a b:=by
 unfold Lib.compareInt
 (repeat' split)<;>omega
theorem compareBytes_neg:∀ a b:Str,Lib.compareBytes b a=- Lib.compareBytes a b
 | [],[]=>rfl
 | [],_::_=>rfl
 | _::_,[]=>rfl
 | x::a,y::b=>by
   unfold Lib.compareBytes
   rcases Nat.lt_trichotomy x.toNat y.toNat with h|h|h
   ·have h1:x < y:=UInt8.lt_iff_toNat_lt.2 h
    have h2:¬ y < x:=fun e=>by have:=UInt8.lt_iff_toNat_lt.1 e;omega
    rw[if_pos h1,if_neg h2,if_pos h1];rfl
   ·have h1:¬ x < y:=fun e=>by have:=UInt8.lt_iff_toNat_lt.1 e;omega
    have h2:¬ y < x:=fun e=>by have:=UInt8.lt_iff_toNat_lt.1 e;omega
    rw[if_neg h1,if_neg h2,if_neg h2,if_neg h1]
    exact compareBytes_neg a b
   ·have h1:y < x:=UInt8.lt_iff_toNat_lt.2 h
    have h2:¬ x < y:=fun e=>by have:=UInt8.lt_iff_toNat_lt.1 e;omega
    rw[if_pos h1,if_neg h2,if_pos h1]
    try rfl
theorem cmpWord_neg (a b:Str):cmpWordL b a=- cmpWordL a b:=by
 unfold cmpWordL
 cases numeralL a<;>cases numeralL b
 ·exact compareBytes_neg a b
 ·rfl
 ·rfl
 ·simp only[Bool.and_self,if_true]
  by_cases h:a.length=b.length
  ·rw[if_pos h,if_pos h.symm,compareBytes_neg]
  ·rw[if_neg h,if_neg (Ne.symm h),compareInt_neg]
theorem cmpWords_neg {f:Str->Str->Int} (hf:∀ a b,f b a=- f a b):∀ xs ys:List Str,cmpWordsL f ys xs=- cmpWordsL f xs ys
 | [],[]=>compareInt_neg _ _
 | [],_::_=>compareInt_neg _ _
 | _::_,[]=>compareInt_neg _ _
 | x::xs,y::ys=>by
   unfold cmpWordsL
   rw[hf x y]
   by_cases h:f x y=0
   ·rw[if_pos h,if_pos (by omega),cmpWords_neg hf xs ys]
   ·rw[if_neg h,if_neg (by omega)]
theorem cmpEarly_neg (a b:Str):cmpEarlyL b a=- cmpEarlyL a b:=by
 unfold cmpEarlyL
 by_cases h:a=b
 ·rw[if_pos h,if_pos h.symm];rfl
 ·rw[if_neg h,if_neg (Ne.symm h)]
  by_cases ha:a=[]
  ·by_cases hb:b=[]
   ·exact absurd (ha.trans hb.symm) h
   ·rw[if_neg hb,if_pos ha,if_pos ha]
  ·by_cases hb:b=[]
   ·rw[if_pos hb,if_neg ha,if_pos hb];rfl
   ·rw[if_neg hb,if_neg ha,if_neg ha,if_neg hb]
    exact cmpWords_neg cmpWord_neg _ _
theorem first4_neg (a b c d:Int):firstI [-a,-b,-c,-d]=- firstI [a,b,c,d]:=by
 simp only[firstI]
 by_cases h1:a=0
 ·rw[if_pos h1,if_pos (by omega)]
  by_cases h2:b=0
  ·rw[if_pos h2,if_pos (by omega)]
   by_cases h3:c=0
   ·rw[if_pos h3,if_pos (by omega)]
    by_cases h4:d=0
    ·rw[if_pos h4,if_pos (by omega)];rfl
    ·rw[if_neg h4,if_neg (by omega)]
   ·rw[if_neg h3,if_neg (by omega)]
  ·rw[if_neg h2,if_neg (by omega)]
 ·rw[if_neg h1,if_neg (by omega)]
theorem order_neg (a1 a2 a3:Int) (a:Str) (b1 b2 b3:Int) (b:Str):orderL b1 b2 b3 b a1 a2 a3 a=- orderL a1 a2 a3 a b1 b2 b3 b:=by
 unfold orderL
 rw[compareInt_neg a1,compareInt_neg a2,compareInt_neg a3,cmpEarly_neg a,first4_neg]
deriving instance DecidableEq for V4
def zeroV:V4:=⟨0,0,0,⟨#[]⟩⟩
def V4.ord (u v:V4):Int:=orderL u.a1 u.a2 u.a3 (bs u.a) v.a1 v.a2 v.a3 (bs v.a)
def V4.text (v:V4):Str:=textL v.a1 v.a2 v.a3 (bs v.a)
theorem zero_err:zeroV.err=0:=by decide
def pV (l:Str):V4 × Int:=(⟨(parseV l).1.1,(parseV l).1.2.1,(parseV l).1.2.2.1,⟨(parseV l).1.2.2.2.toArray⟩⟩,(parseV l).2)
def nV (v:V4) (part:Int):V4 × Int:=(⟨(nextV v.a1 v.a2 v.a3 (bs v.a) part).1.1,(nextV v.a1 v.a2 v.a3 (bs v.a) part).1.2.1,(nextV v.a1 v.a2 v.a3 (bs v.a) part).1.2.2,⟨#[]⟩⟩,(nextV v.a1 v.a2 v.a3 (bs v.a) part).2)
structure Sp where
 hf:Bool
 ht:Bool
 f:V4
 t:V4
deriving instance DecidableEq for Sp
def zeroS:Sp:=⟨false,false,zeroV,zeroV⟩
def spErr (s:Sp):Int :=
 if (!s.hf&&decide (s.f≠zeroV)||!s.ht&&decide (s.t≠zeroV))=true then 2
 else if s.f.err≠0 then s.f.err else if s.t.err≠0 then s.t.err
 else if (s.hf&&s.ht&&decide (0<=s.f.ord s.t))=true then 7 else 0
def gapErr (p s:Sp):Int:=if (!p.ht||!s.hf||decide (0<=p.t.ord s.f))=true then 7 else 0
def errAt (l:List Sp) (k:Nat):Int :=
 if spErr (l.getD k zeroS)≠0 then spErr (l.getD k zeroS) else if k=0 then 0 else gapErr (l.getD (k - 1) zeroS) (l.getD k zeroS)
def errsOf (l:List Sp):List Int:=(List.range l.length).map (errAt l)
def rngErr (l:List Sp):Int:=if 10 < l.length then 4 else firstI (errsOf l)
theorem errs_length (l:List Sp):(errsOf l).length=l.length:=by simp[errsOf]
theorem errs_get (l:List Sp) (k:Nat) (h:k < (errsOf l).length):(errsOf l)[k]=errAt l k:=by simp[errsOf]
theorem firstI_ne {l:List Int} (h:firstI l=0):∀ x∈l,x=0:=by
 induction l with
 | nil=>intro x hx;cases hx
 | cons e r ih =>
   unfold firstI at h
   by_cases he:e=0
   ·rw[if_pos he] at h
    intro x hx
    rcases List.mem_cons.1 hx with rfl|hx
    ·exact he
    ·exact ih h x hx
   ·rw[if_neg he] at h
    exact absurd h he
theorem err_sp {l:List Sp} {k:Nat} (hk:k < l.length) (h:errAt l k=0):spErr l[k]=0:=by
 unfold errAt at h
 have e:l.getD k zeroS=l[k]:=by simp[List.getD,List.getElem?_eq_getElem hk]
 rw[e] at h
 by_cases h1:spErr l[k]≠0
 ·rw[if_pos h1] at h;exact absurd h h1
 ·exact Classical.not_not.1 h1
def rowL (l:Str):Bool:=!l.contains 32
structure It where
 sign:UInt8
 first:Str
 last:Str
def itemL (s:Str):It × Bool :=
 if s=[42] then (⟨42,[],[]⟩,true)
 else if Lib.hasPrefix s [62,61]=true then
  (if (cutC 32 (s.drop 2)).2.2=true then
    (⟨98,(cutC 32 (s.drop 2)).1,Lib.trimPrefix (cutC 32 (s.drop 2)).2.1 [60]⟩,Lib.hasPrefix (cutC 32 (s.drop 2)).2.1 [60]&&rowL (cutC 32 (s.drop 2)).1&&rowL (Lib.trimPrefix (cutC 32 (s.drop 2)).2.1 [60]))
  else (⟨62,s.drop 2,[]⟩,rowL (s.drop 2)))
 else if (!s.isEmpty&&[60,61,94,126].contains (s.headD 0))=true then (⟨s.headD 0,s.drop 1,[]⟩,rowL (s.drop 1))
 else (⟨94,s,[]⟩,rowL s)
def early0 (v:V4) (x:Str):V4:={ v with a:=⟨x.toArray⟩ }
def behindL (v:V4) (sign:UInt8):V4 × Int :=
 if sign=61 then (if bs v.a≠[] then (early0 v (bs v.a++[46,48]),(early0 v (bs v.a++[46,48])).err) else (early0 (nV v 2).1 [48],(nV v 2).2))
 else if sign=94∧v.a1≠0 then nV v 0 else nV v 1
def spanL (it:It):Sp × Int :=
 if it.sign=42 then (zeroS,0)
 else if (pV it.first).2≠0 then (zeroS,(pV it.first).2)
 else if it.sign=62 then (⟨true,false,(pV it.first).1,zeroV⟩,0)
 else if it.sign=60 then (⟨false,true,zeroV,(pV it.first).1⟩,0)
 else if it.sign=98 then (⟨true,true,(pV it.first).1,(pV it.last).1⟩,(pV it.last).2)
 else (⟨true,true,(pV it.first).1,(behindL (pV it.first).1 it.sign).1⟩,(behindL (pV it.first).1 it.sign).2)
def wrongL (l:Str):Bool:=decide ((pV l).2=8)
def synL (s:Str):Bool:=!(itemL s).2||((itemL s).1.sign != 42&&wrongL (itemL s).1.first)||((itemL s).1.sign==98&&wrongL (itemL s).1.last)
def spansOf (q:List (Sp × Int)):List Sp × Int :=
 if firstI (q.map (·.2))≠0 then ([],firstI (q.map (·.2))) else if rngErr (q.map (·.1))≠0 then ([],rngErr (q.map (·.1))) else (q.map (·.1),0)
def parseR (s:Str):List Sp × Int :=
 if 1000 < s.length then ([],4) else if s=[110,111,110,101] then ([],0)
 else if (Lib.split s [44,32]).any synL=true then ([],8) else spansOf ((Lib.split s [44,32]).map fun p=>spanL (itemL p).1)
def shortK (w:Str):UInt8 × Str:=if (!w.isEmpty&&[61,94,126].contains (w.headD 0))=true then (w.headD 0,w.drop 1) else (94,w)
def shortL (w:Str):Sp × Int :=
 if w=[42] then (zeroS,0)
 else if (pV (shortK w).2).2≠0 then (zeroS,(pV (shortK w).2).2)
 else (⟨true,true,(pV (shortK w).2).1,(behindL (pV (shortK w).2).1 (shortK w).1).1⟩,(behindL (pV (shortK w).2).1 (shortK w).1).2)
def refItem (t:Str):Sp × Int :=
 match splitC 32 t with
 | [x] =>
   if Lib.hasPrefix x [62,61]=true then (⟨true,false,(pV (x.drop 2)).1,zeroV⟩,(pV (x.drop 2)).2)
   else if Lib.hasPrefix x [60]=true then (⟨false,true,zeroV,(pV (x.drop 1)).1⟩,(pV (x.drop 1)).2)
   else shortL x
 | [x,y] =>
   if (Lib.hasPrefix x [62,61]&&Lib.hasPrefix y [60])=true then
    (⟨true,true,(pV (x.drop 2)).1,(pV (y.drop 1)).1⟩,if (pV (x.drop 2)).2=8∨(pV (y.drop 1)).2=8 then 8 else firstI [(pV (x.drop 2)).2,(pV (y.drop 1)).2])
   else (zeroS,8)
 | _=>(zeroS,8)
def readR (s:Str):List Sp × Int :=
 if 1000 < s.length then ([],4) else if s=[110,111,110,101] then ([],0)
 else if (Lib.split s [44,32]).any (fun p=>decide ((refItem p).2=8))=true then ([],8) else spansOf ((Lib.split s [44,32]).map refItem)
theorem next_err_ne8 (v:V4) (part:Int) (h:v.err=0):(nV v part).2≠8:=by
 have h':checkV v.a1 v.a2 v.a3 (bs v.a)=0:=h
 unfold nV nextV
 rw[if_pos h']
 dsimp only
 split
 ·decide
 ·split
  ·show (0:Int)≠8
   decide
  ·decide
theorem check_ne8 (a b c:Int) (e:Str):checkV a b c e≠8:=by
 unfold checkV
 split
 ·decide
 ·split<;>decide
theorem parseV_ok' {l:Str} {r:(Int × Int × Int × Str) × Int} (hr:parseV l=r) (h:r.2=0):checkV r.1.1 r.1.2.1 r.1.2.2.1 r.1.2.2.2=0:=by
 unfold parseV at hr
 split at hr
 ·split at hr
  ·subst hr;exact absurd h (by decide)
  ·split at hr
   ·subst hr;exact absurd h (by decide)
   ·split at hr
    ·rename_i h3
     subst hr
     exact h3
    ·rename_i h3
     subst hr
     exact absurd h h3
 ·subst hr;exact absurd h (by decide)
theorem parseV_ok {l:Str} (h:(parseV l).2=0):checkV (parseV l).1.1 (parseV l).1.2.1 (parseV l).1.2.2.1 (parseV l).1.2.2.2=0:=parseV_ok' rfl h
theorem pV_err {l:Str} (h:(pV l).2=0):(pV l).1.err=0:=by
 have:=parseV_ok h
 unfold V4.err pV
 dsimp only
 rw[bs_mk]
 exact this
theorem behind_ne8 (v:V4) (s:UInt8) (h:v.err=0):(behindL v s).2≠8:=by
 unfold behindL
 split
 ·split
  ·exact check_ne8 _ _ _ _
  ·exact next_err_ne8 v 2 h
 ·split
  ·exact next_err_ne8 v 0 h
  ·exact next_err_ne8 v 1 h
theorem pV_nil:(pV []).2=8:=by decide
def Same (p:Str):Prop:=(synL p=true->(refItem p).2=8)∧(synL p=false->(refItem p).2≠8∧(refItem p).2=(spanL (itemL p).1).2∧((refItem p).2=0->(refItem p).1=(spanL (itemL p).1).1))
theorem prefix2_app {p r:Str} (h:Lib.hasPrefix p [62,61]=true):Lib.hasPrefix (p++r) [62,61]=true:=by
 match p,h with
 | [],h=>cases h
 | [_],h=>simp[Lib.hasPrefix,List.isPrefixOf] at h
 | a::b::t,h=>simpa [Lib.hasPrefix,List.isPrefixOf] using h
theorem prefix2_cons {p r:Str} (h:Lib.hasPrefix p [62,61]=false):Lib.hasPrefix (p++32::r) [62,61]=false:=by
 match p,h with
 | [],_=>rfl
 | [a],_=>simp[Lib.hasPrefix,List.isPrefixOf]
 | a::b::t,h=>simpa [Lib.hasPrefix,List.isPrefixOf] using h
theorem prefix_drop {p:Str} (h:Lib.hasPrefix p [62,61]=true):∃ t,p=62::61::t:=by
 match p,h with
 | [],h=>cases h
 | [_],h=>simp[Lib.hasPrefix,List.isPrefixOf] at h
 | a::b::t,h =>
   have h1:62=a∧61=b:=by simpa [Lib.hasPrefix,List.isPrefixOf] using h
   exact⟨t,by rw[<-h1.1,<-h1.2]⟩
theorem prefix1 {p:Str} (h:Lib.hasPrefix p [60]=true):∃ t,p=60::t:=by
 match p,h with
 | [],h=>cases h
 | a::t,h =>
   have h1:60=a:=by simpa [Lib.hasPrefix,List.isPrefixOf] using h
   exact⟨t,by rw[<-h1]⟩
theorem rowL_none {l:Str} (h:(32:UInt8) ∉ l):rowL l=true:=by simp[rowL,h]
theorem rowL_app (a r:Str):rowL (a++32::r)=false:=by simp[rowL]
theorem row_drop {l:Str} (n:Nat) (h:(32:UInt8) ∉ l):(32:UInt8) ∉ l.drop n:=fun e=>h (List.mem_of_mem_drop e)
theorem same_one (p:Str) (hp:(32:UInt8) ∉ p):Same p:=by
 have hs:splitC 32 p=[p]:=splitC_none 32 p hp
 unfold Same synL refItem
 rw[hs]
 dsimp only
 by_cases h0:p=[42]
 ·subst h0
  have:itemL [42]=(⟨42,[],[]⟩,true):=by rw[itemL,if_pos rfl]
  rw[this]
  refine⟨fun h=>by simp at h,fun _=>?_⟩
  have h1:shortL [42]=(zeroS,0):=by rw[shortL,if_pos rfl]
  rw[if_neg (by decide),if_neg (by decide),h1]
  exact⟨by decide,by rw[spanL,if_pos rfl],fun _=>by rw[spanL,if_pos rfl]⟩
 by_cases h1:Lib.hasPrefix p [62,61]=true
 ·have hc:=cutC_none 32 (p.drop 2) (row_drop 2 hp)
  have hi:itemL p=(⟨62,p.drop 2,[]⟩,true):=by
   rw[itemL,if_neg h0,if_pos h1,hc,if_neg (by simp),rowL_none (row_drop 2 hp)]
  rw[hi,if_pos h1]
  have e1:((62:UInt8)==98)=false:=by decide
  have e2:((62:UInt8) != 42)=true:=by decide
  dsimp only
  rw[e1,e2]
  simp only[Bool.not_true,Bool.false_or,Bool.true_and,Bool.false_and,Bool.or_false,wrongL,decide_eq_true_eq,decide_eq_false_iff_not]
  refine⟨fun h=>h,fun h=>⟨h,?_,?_⟩⟩
  ·unfold spanL
   dsimp only
   rw[if_neg (by decide)]
   by_cases h2:(pV (p.drop 2)).2=0
   ·rw[if_neg (by simpa using h2),if_pos rfl,h2]
   ·rw[if_pos h2]
  ·intro h2
   unfold spanL
   dsimp only
   rw[if_neg (by decide),if_neg (by simpa using h2),if_pos rfl]
 have h1f:Lib.hasPrefix p [62,61]=false:=by simpa using h1
 rw[if_neg h1]
 by_cases h2:Lib.hasPrefix p [60]=true
 ·obtain⟨t,rfl⟩:=prefix1 h2
  have hi:itemL (60::t)=(⟨60,t,[]⟩,true):=by
   rw[itemL,if_neg h0,if_neg h1,if_pos (by simp)]
   rw[show (60::t:Str).drop 1=t from rfl,rowL_none (fun e=>hp (by simp[e]))]
   rfl
  rw[hi,if_pos h2]
  have e1:((60:UInt8)==98)=false:=by decide
  have e2:((60:UInt8) != 42)=true:=by decide
  dsimp only
  rw[e1,e2]
  simp only[Bool.not_true,Bool.false_or,Bool.true_and,Bool.false_and,Bool.or_false,wrongL,decide_eq_true_eq,decide_eq_false_iff_not,List.drop_succ_cons,List.drop_zero]
  refine⟨fun h=>h,fun h=>⟨h,?_,?_⟩⟩
  ·unfold spanL
   dsimp only
   rw[if_neg (by decide)]
   by_cases h3:(pV t).2=0
   ·rw[if_neg (by simpa using h3),if_neg (by decide),if_pos rfl,h3]
   ·rw[if_pos h3]
  ·intro h3
   unfold spanL
   dsimp only
   rw[if_neg (by decide),if_neg (by simpa using h3),if_neg (by decide),if_pos rfl]
 rw[if_neg h2]
 -- a span that is one word
 have hk:itemL p=(⟨(shortK p).1,(shortK p).2,[]⟩,true)∧(shortK p).1≠42∧(shortK p).1≠62∧(shortK p).1≠60∧(shortK p).1≠98:=by
  rw[itemL,if_neg h0,if_neg h1]
  cases p with
  | nil=>exact⟨rfl,by decide,by decide,by decide,by decide⟩
  | cons c t =>
    have hc:c≠60:=fun e=>h2 (by rw[e];rfl)
    have hr:rowL t=true:=rowL_none (fun e=>hp (by simp[e]))
    have hr2:rowL (c::t)=true:=rowL_none hp
    unfold shortK
    simp only[List.isEmpty_cons,Bool.not_false,Bool.true_and,List.headD_cons,List.drop_succ_cons,List.drop_zero]
    by_cases h3:([61,94,126]:Str).contains c=true
    ·have h4:([60,61,94,126]:Str).contains c=true:=by
      simp only[List.contains_cons,List.contains_nil,Bool.or_false,Bool.or_eq_true] at h3 ⊢
      exact .inr h3
     rw[if_pos h4,if_pos h3,hr]
     have h5:c=61∨c=94∨c=126:=by simpa using h3
     refine⟨rfl,?_⟩
     rcases h5 with rfl|rfl|rfl<;>(dsimp only;decide)
    ·have h4:¬ ([60,61,94,126]:Str).contains c=true:=by
      simp only[List.contains_cons,List.contains_nil,Bool.or_false,Bool.or_eq_true,beq_iff_eq] at h3 ⊢
      exact fun e=>e.elim hc h3
     rw[if_neg h4,if_neg h3,hr2]
     dsimp only
     exact⟨rfl,by decide,by decide,by decide,by decide⟩
 obtain⟨hi,k1,k2,k3,k4⟩:=hk
 rw[hi,shortL,if_neg h0]
 generalize (shortK p).1=kc at *
 generalize (shortK p).2=kw at *
 have e1:(kc==98)=false:=by simpa using k4
 have e2:(kc != 42)=true:=by simpa using k1
 dsimp only
 rw[e1,e2]
 simp only[Bool.not_true,Bool.false_or,Bool.true_and,Bool.false_and,Bool.or_false,wrongL,decide_eq_true_eq,decide_eq_false_iff_not]
 unfold spanL
 dsimp only
 rw[if_neg k1]
 by_cases h3:(pV kw).2=0
 ·rw[if_neg (by simpa using h3),if_neg (by simpa using h3),if_neg k2,if_neg k3,if_neg k4]
  exact⟨(fun h=>by (rw[h3] at h;exact absurd h (by decide))),fun _=>⟨behind_ne8 _ _ (pV_err h3),rfl,fun _=>rfl⟩⟩
 ·rw[if_pos h3,if_pos h3]
  exact⟨fun h=>h,fun h=>⟨h,rfl,fun _=>rfl⟩⟩
theorem same_more (a r:Str) (ha:(32:UInt8) ∉ a):Same (a++32::r):=by
 have hs:splitC 32 (a++32::r)=a::splitC 32 r:=splitC_app 32 r a ha
 have hn:¬ a++32::r=[42]:=by
  intro e
  cases a with
  | nil=>simp at e
  | cons x t=>simp at e
 unfold Same synL refItem
 rw[hs]
 by_cases h1:Lib.hasPrefix a [62,61]=true
 ·obtain⟨f,rfl⟩:=prefix_drop h1
  have hf:(32:UInt8) ∉ f:=fun e=>ha (by simp[e])
  have hcut:cutC 32 ((62::61::f++32::r:Str).drop 2)=(f,r,true):=cutC_app 32 f r hf
  have hi:itemL (62::61::f++32::r)=(⟨98,f,Lib.trimPrefix r [60]⟩,Lib.hasPrefix r [60]&&rowL (Lib.trimPrefix r [60])):=by
   rw[itemL,if_neg hn,if_pos (prefix2_app h1),hcut]
   dsimp only
   rw[if_pos rfl,rowL_none hf,Bool.and_true]
  rw[hi]
  dsimp only
  have e1:((98:UInt8)==98)=true:=rfl
  have e2:((98:UInt8) != 42)=true:=by decide
  rw[e1,e2]
  simp only[Bool.true_and]
  by_cases h2:Lib.hasPrefix r [60]=true
  ·obtain⟨t,rfl⟩:=prefix1 h2
   have htr:Lib.trimPrefix (60::t) [60]=t:=by rw[Lib.trimPrefix,if_pos h2];rfl
   rw[htr,h2]
   rcases first_cut 32 t with ht|⟨u,v,hu,rfl⟩
   ·have hsr:splitC 32 (60::t)=[60::t]:=splitC_none 32 _ (by simpa using ht)
    rw[hsr,rowL_none ht]
    dsimp only
    rw[if_pos (by rw[h1];rfl)]
    simp only[List.drop_succ_cons,List.drop_zero,Bool.and_true,Bool.not_true,Bool.false_or,wrongL]
    unfold spanL
    dsimp only
    rw[if_neg (show ¬ (98:UInt8)=42 by decide)]
    refine⟨fun h=>?_,fun h=>?_⟩
    ·simp only[Bool.or_eq_true,decide_eq_true_eq] at h
     rw[if_pos h]
    ·simp only[Bool.or_eq_false_iff,decide_eq_false_iff_not] at h
     rw[if_neg (by rintro (e|e);exact h.1 e;exact h.2 e)]
     by_cases h3:(pV f).2=0
     ·have hfi:firstI [(pV f).2,(pV t).2]=(pV t).2:=by
       rw[firstI,if_pos h3,firstI]
       by_cases h4:(pV t).2=0
       ·rw[if_pos h4,h4];rfl
       ·rw[if_neg h4]
      rw[hfi,if_neg (by simpa using h3),if_neg (show ¬ (98:UInt8)=62 by decide),if_neg (show ¬ (98:UInt8)=60 by decide),if_pos rfl]
      exact⟨h.2,rfl,fun _=>rfl⟩
     ·have hfi:firstI [(pV f).2,(pV t).2]=(pV f).2:=by rw[firstI,if_neg h3]
      rw[hfi,if_pos h3]
      exact⟨h.1,rfl,fun e=>absurd e h3⟩
   ·have hsr:splitC 32 (60::(u++32::v))=(60::u)::splitC 32 v:=splitC_app 32 v (60::u) (by simpa using hu)
    rw[hsr,rowL_app]
    refine⟨fun _=>?_,fun h=>by simp at h⟩
    cases hv:splitC 32 v with
    | nil=>exact absurd hv (splitC_ne 32 v)
    | cons q qs=>rfl
  ·have h2f:Lib.hasPrefix r [60]=false:=by simpa using h2
   rw[h2f]
   refine⟨fun _=>?_,fun h=>by simp at h⟩
   cases hr:splitC 32 r with
   | nil=>exact absurd hr (splitC_ne 32 r)
   | cons q qs =>
     cases qs with
     | nil =>
       dsimp only
       have hq:q=r:=by
        rcases first_cut 32 r with h|⟨u,v,hu,rfl⟩
        ·rw[splitC_none 32 r h] at hr;injection hr with e;exact e.symm
        ·rw[splitC_app 32 v u hu] at hr
         injection hr with _ e
         exact absurd e (splitC_ne 32 v)
       rw[hq,h2f,Bool.and_false,if_neg (by decide)]
     | cons _ _=>rfl
 ·have h1f:Lib.hasPrefix a [62,61]=false:=by simpa using h1
  have hbad:(itemL (a++32::r)).2=false:=by
   rw[itemL,if_neg hn,if_neg (by rw[prefix2_cons h1f];decide)]
   cases a with
   | nil=>rw[if_neg (by simp)];exact rowL_app [] r
   | cons c t =>
     split
     ·exact rowL_app t r
     ·exact rowL_app (c::t) r
  rw[hbad]
  refine⟨fun _=>?_,fun h=>by simp at h⟩
  cases hr:splitC 32 r with
  | nil=>exact absurd hr (splitC_ne 32 r)
  | cons q qs =>
    cases qs with
    | nil =>
      dsimp only
      rw[h1f,Bool.false_and,if_neg (by decide)]
    | cons _ _=>rfl
theorem same_any (p:Str):Same p:=by
 rcases first_cut 32 p with h|⟨a,r,ha,rfl⟩
 ·exact same_one p h
 ·exact same_more a r ha
theorem syn_iff (p:Str):synL p=decide ((refItem p).2=8):=by
 obtain⟨h1,h2⟩:=same_any p
 cases h:synL p
 ·rw[decide_eq_false (h2 h).1]
 ·rw[decide_eq_true (h1 h)]
theorem spansOf_congr {ps:List Str} (f g:Str->Sp × Int) (h2:∀ p∈ps,(f p).2=(g p).2) (h1:∀ p∈ps,(f p).2=0->(f p).1=(g p).1):spansOf (ps.map f)=spansOf (ps.map g):=by
 have e2:(ps.map f).map (·.2)=(ps.map g).map (·.2):=by
  rw[List.map_map,List.map_map]
  exact List.map_congr_left h2
 unfold spansOf
 rw[e2]
 by_cases h0:firstI ((ps.map g).map (·.2))≠0
 ·rw[if_pos h0,if_pos h0]
 ·have h0':=Classical.not_not.1 h0
  have e1:(ps.map f).map (·.1)=(ps.map g).map (·.1):=by
   rw[List.map_map,List.map_map]
   refine List.map_congr_left fun p hp=>h1 p hp ?_
   rw[h2 p hp]
   exact firstI_ne h0' _ (by rw[List.map_map];exact List.mem_map.2 ⟨p,hp,rfl⟩)
  rw[if_neg h0,if_neg h0,e1]
theorem read_same (s:Str):readR s=parseR s:=by
 unfold readR parseR
 have hany:(Lib.split s [44,32]).any (fun p=>decide ((refItem p).2=8))=(Lib.split s [44,32]).any synL:=by
  congr 1
  funext p
  exact (syn_iff p).symm
 rw[hany]
 by_cases h0:1000 < s.length
 ·rw[if_pos h0,if_pos h0]
 rw[if_neg h0,if_neg h0]
 by_cases h1:s=[110,111,110,101]
 ·rw[if_pos h1,if_pos h1]
 rw[if_neg h1,if_neg h1]
 by_cases h2:(Lib.split s [44,32]).any synL=true
 ·rw[if_pos h2,if_pos h2]
 rw[if_neg h2,if_neg h2]
 have h3:∀ p∈Lib.split s [44,32],synL p=false:=fun p hp=>by
  cases h:synL p
  ·rfl
  ·exact absurd (List.any_eq_true.2 ⟨p,hp,h⟩) h2
 exact spansOf_congr _ _ (fun p hp=>((same_any p).2 (h3 p hp)).2.1) (fun p hp=>((same_any p).2 (h3 p hp)).2.2)
end
section
open Go.RowKit
abbrev verV (v:V4):Value:=.agg #[.int .i64 v.a1,.int .i64 v.a2,.int .i64 v.a3,.string v.a]
abbrev spV (s:Sp):Value:=.agg #[.bool s.hf,.bool s.ht,.int .i64 s.f.a1,.int .i64 s.f.a2,.int .i64 s.f.a3,.string s.f.a,.int .i64 s.t.a1,.int .i64 s.t.a2,.int .i64 s.t.a3,.string s.t.a]
theorem str_eq (a b:ByteArray):(a.toList=b.toList)=(a=b):=by
 rw[ByteArray.toList_eq,ByteArray.toList_eq]
 exact propext ⟨fun h=>bs_inj h,fun h=>by rw[h]⟩
theorem run_eqv (d:Nat) (u v:V4) (w:World):(Op.equalIn (d+2) 23 (verV u) (verV v)).run Tryz.prog w=.ok (decide (u=v)) w:=by
 obtain⟨u1,u2,u3,u⟩:=u
 obtain⟨v1,v2,v3,v⟩:=v
 dsimp only[verV]
 rw[run_equalIn_agg w (d+1) 23 _ _ (by kernel_rfl) (by kernel_rfl)]
 go_simp
 simp only[str_eq]
 by_cases h1:u1=v1<;>by_cases h2:u2=v2<;>by_cases h3:u3=v3<;>by_cases h4:u=v<;>simp[h1,h2,h3,h4]
theorem run_neqv (u v:V4) (w:World):(binOp .neq 23 (verV u) (verV v)).run Tryz.prog w=.ok (.bool (!decide (u=v))) w:=by
 rw[run_neq_struct,run_eqv 9998]
 rfl
structure SpS (w:World) (b o:Nat) (l:List Sp):Prop where
 c0:∀ k (h:k < l.length),w.cell? ⟨b,o+k * 10,none⟩=some (.bool l[k].hf)
 c1:∀ k (h:k < l.length),w.cell? ⟨b,o+k * 10+1,none⟩=some (.bool l[k].ht)
 c2:∀ k (h:k < l.length),w.cell? ⟨b,o+k * 10+2,none⟩=some (.int .i64 l[k].f.a1)
 c3:∀ k (h:k < l.length),w.cell? ⟨b,o+k * 10+3,none⟩=some (.int .i64 l[k].f.a2)
 c4:∀ k (h:k < l.length),w.cell? ⟨b,o+k * 10+4,none⟩=some (.int .i64 l[k].f.a3)
 c5:∀ k (h:k < l.length),w.cell? ⟨b,o+k * 10+5,none⟩=some (.string l[k].f.a)
 c6:∀ k (h:k < l.length),w.cell? ⟨b,o+k * 10+6,none⟩=some (.int .i64 l[k].t.a1)
 c7:∀ k (h:k < l.length),w.cell? ⟨b,o+k * 10+7,none⟩=some (.int .i64 l[k].t.a2)
 c8:∀ k (h:k < l.length),w.cell? ⟨b,o+k * 10+8,none⟩=some (.int .i64 l[k].t.a3)
 c9:∀ k (h:k < l.length),w.cell? ⟨b,o+k * 10+9,none⟩=some (.string l[k].t.a)
theorem SpS.ext {w w':World} {b o:Nat} {l:List Sp} (h:SpS w b o l) (hx:Ext w w'):SpS w' b o l :=
 ⟨fun k hk=>hx.cell (h.c0 k hk),fun k hk=>hx.cell (h.c1 k hk),fun k hk=>hx.cell (h.c2 k hk),fun k hk=>hx.cell (h.c3 k hk),fun k hk=>hx.cell (h.c4 k hk),
   fun k hk=>hx.cell (h.c5 k hk),fun k hk=>hx.cell (h.c6 k hk),fun k hk=>hx.cell (h.c7 k hk),fun k hk=>hx.cell (h.c8 k hk),fun k hk=>hx.cell (h.c9 k hk)⟩
def RdS (w:World) (A:Option Addr) (l:List Sp):Prop:=l≠[]->∃ b o,A=some ⟨b,o,none⟩∧SpS w b o l
theorem RdS.ext {w w':World} {A:Option Addr} {l:List Sp} (h:RdS w A l) (hx:Ext w w'):RdS w' A l:=fun hn=>by
 obtain⟨b,o,e,k⟩:=h hn
 exact⟨b,o,e,k.ext hx⟩
end
section
open Go.ChangeShapes Go.WideShapes Go.ChangeAt Go.RowKit Go.WideElems Go.Joins
set_option maxRecDepth 100000 in
theorem opens_ver:Opens 23 (fun _ (v:V4) cs=>cs=[.int .i64 v.a1,.int .i64 v.a2,.int .i64 v.a3,.string v.a]) (fun v=>v.a.size+4):=fun H enc W fuel cs x h=>by
 obtain⟨y0,y1,y2,y3,n,rfl,hl,h0,h1,h2,h3⟩:=trod_struct4 Tryz.underlying23 h
 have hc:Tryz.prog.cellsOf 23=4:=by kernel_rfl
 have ci:Tryz.prog.cellsOf 3=1:=by kernel_rfl
 have cst:Tryz.prog.cellsOf 9=1:=by kernel_rfl
 rw[hc] at hl
 match cs,hl with
 | [c0,c1,c2,c3],_ =>
   dsimp only at h0 h1 h2 h3
   rw[ci] at h0 h1 h2
   rw[cst] at h3
   obtain⟨a1,e1,b1⟩:=opens_int Tryz.underlying3 H enc W n _ _ h0
   obtain⟨a2,e2,b2⟩:=opens_int Tryz.underlying3 H enc W n _ _ h1
   obtain⟨a3,e3,b3⟩:=opens_int Tryz.underlying3 H enc W n _ _ h2
   obtain⟨a,e4,b4⟩:=opens_string Tryz.underlying9 H enc W n _ _ h3
   simp at e1 e2 e3 e4
   subst e1 e2 e3 e4
   exact⟨⟨a1,a2,a3,a⟩,rfl,by dsimp only at b1 b2 b3 b4 ⊢;simp only[Rows.uptoBulk,Rows.uptoBulkAll];omega⟩
set_option maxRecDepth 100000 in
theorem opens_span:Opens 147 (fun _ (s:Sp) cs=>cs=[.bool s.hf,.bool s.ht,.int .i64 s.f.a1,.int .i64 s.f.a2,.int .i64 s.f.a3,.string s.f.a,.int .i64 s.t.a1,.int .i64 s.t.a2,.int .i64 s.t.a3,.string s.t.a]) (fun s=>s.f.a.size+s.t.a.size+10):=fun H enc W fuel cs x h=>by
 obtain⟨y0,y1,y2,y3,n,rfl,hl,h0,h1,h2,h3⟩:=trod_struct4 Tryz.underlying147 h
 have hc:Tryz.prog.cellsOf 147=10:=by kernel_rfl
 have cb:Tryz.prog.cellsOf 4=1:=by kernel_rfl
 have cv:Tryz.prog.cellsOf 23=4:=by kernel_rfl
 rw[hc] at hl
 match cs,hl with
 | [c0,c1,c2,c3,c4,c5,c6,c7,c8,c9],_ =>
   dsimp only at h0 h1 h2 h3
   rw[cb] at h0 h1
   rw[cv] at h2 h3
   obtain⟨hf,e1,b1⟩:=opens_bool Tryz.underlying4 H enc W n _ _ h0
   obtain⟨ht,e2,b2⟩:=opens_bool Tryz.underlying4 H enc W n _ _ h1
   obtain⟨f,e3,b3⟩:=opens_ver H enc W n _ _ h2
   obtain⟨t,e4,b4⟩:=opens_ver H enc W n _ _ h3
   simp at e1 e2 e3 e4
   obtain⟨rfl,rfl,rfl,rfl⟩:=e3
   obtain⟨rfl,rfl,rfl,rfl⟩:=e4
   subst e1 e2
   exact⟨⟨hf,ht,f,t⟩,rfl,by dsimp only at b1 b2 b3 b4 ⊢;simp only[Rows.uptoBulk,Rows.uptoBulkAll];omega⟩
instance:Inhabited V4:=⟨⟨0,0,0,⟨#[]⟩⟩⟩
instance:Inhabited Sp:=⟨⟨false,false,default,default⟩⟩
theorem rowOf_spans {W:World} {A:Option Addr} {l:List Sp} (h:RowOf (fun _ (s:Sp) cs=>cs=[.bool s.hf,.bool s.ht,.int .i64 s.f.a1,.int .i64 s.f.a2,.int .i64 s.f.a3,.string s.f.a,.int .i64 s.t.a1,.int .i64 s.t.a2,.int .i64 s.t.a3,.string s.t.a]) 10 W A l):RdS W A l:=fun hne=>by
 obtain⟨b,o,rfl,hc⟩:=h hne
 refine⟨b,o,rfl,?_,?_,?_,?_,?_,?_,?_,?_,?_,?_⟩<;>intro k hk<;>obtain⟨ecs,rfl,_,hj⟩:=hc k hk
 ·exact hj 0 (by omega)
 ·exact hj 1 (by omega)
 ·exact hj 2 (by omega)
 ·exact hj 3 (by omega)
 ·exact hj 4 (by omega)
 ·exact hj 5 (by omega)
 ·exact hj 6 (by omega)
 ·exact hj 7 (by omega)
 ·exact hj 8 (by omega)
 ·exact hj 9 (by omega)
set_option maxRecDepth 100000 in
theorem opens_range:Opens 42 (fun W (l:List Sp) cs=>∃ A c,cs=[.slice A l.length c]∧RdS W A l) (fun l=>(l.map fun s=>s.f.a.size+s.t.a.size+10).sum+1):=fun H enc W fuel cs x h=>by
 obtain⟨l,⟨A,c,e,hr⟩,hb⟩:=opens_struct1 Tryz.underlying42 rfl (by kernel_rfl) (opens_slice (sz:=10) Tryz.underlying40 (by kernel_rfl) (by decide) opens_span) H enc W fuel cs x h
 exact⟨l,⟨A,c,e,rowOf_spans hr⟩,hb⟩
end
section
inductive Cd where
 | mk (kind:Int) (name value:ByteArray) (args:List Cd)
def zeroC:Cd:=.mk 0 ⟨#[]⟩ ⟨#[]⟩ []
section
variable (s:ByteArray) (f:Option (St->Cd × St))
def left (σ:St):Nat:=if σ.wr < 0 then s.size+1 - σ.p else 0
end
structure On (s:ByteArray) (σ τ:St):Prop where
 ok:OkS s σ->OkS s τ
 p:OkS s σ->σ.p<=τ.p
 wr:¬ σ.wr < 0->τ.wr=σ.wr
theorem On.refl (s:ByteArray) (σ:St):On s σ σ:=⟨id,fun _=>Nat.le_refl _,fun _=>rfl⟩
theorem On.trans {s:ByteArray} {a b c:St} (h:On s a b) (k:On s b c):On s a c :=
 ⟨fun x=>k.ok (h.ok x),fun x=>Nat.le_trans (h.p x) (k.p (h.ok x)),fun x=>by rw[k.wr (by rw[h.wr x];exact x),h.wr x]⟩
theorem qat_ge (s:ByteArray) (i:Nat) (h:(qat (bs s) i).2.2=true):i < (qat (bs s) i).2.1:=by
 unfold qat at h ⊢
 cases hu:unq ((bs s).drop (i+1)) with
 | none=>rw[hu] at h;cases h
 | some x =>
   obtain⟨t,z⟩:=x
   have:=(unq_len hu).2
   have hne:(bs s).drop (i+1)≠[]:=fun e=>by rw[e,unq_nil] at hu;cases hu
   have hl:i+1 < (bs s).length:=by
    apply Classical.byContradiction
    intro hh
    exact hne (List.drop_of_length_le (by omega))
   rw[List.length_drop] at this
   show i < (bs s).length - z.length
   omega
theorem tokF_lt {s:ByteArray} {σ:St} {i:Nat} (hb:∀ h:i < s.size,blankB s[i]=false) (h0:(tokF s σ i).k≠0) (h4:(tokF s σ i).k≠4):i < (tokF s σ i).p:=by
 unfold tokF at h0 h4 ⊢
 split at h0
 ·rename_i hi
  rw[dif_pos hi] at h4 ⊢
  by_cases hs:signB s[i]=true
  ·rw[if_pos hs];show i < i+1;omega
  ·rw[if_neg hs] at h4 ⊢
   by_cases hq:s[i]=34
   ·rw[if_pos hq] at h4 ⊢
    by_cases ho:(qat (bs s) i).2.2=true
    ·rw[if_pos ho];exact qat_ge s i ho
    ·rw[if_neg ho] at h4;exact absurd rfl h4
   ·rw[if_neg hq]
    have hw:tokB s[i]=true:=by
     unfold tokB
     rw[hb hi,(Bool.not_eq_true _).mp hs]
     simpa using hq
    have:=runN_yes tokB s hi hw
    show i < i+runN tokB ((bs s).drop i)
    omega
 ·exact absurd rfl h0
theorem run_stop (f:UInt8->Bool) (s:ByteArray):∀ (m k:Nat),s.size - k=m->∀ h:k+runN f ((bs s).drop k) < s.size,f s[k+runN f ((bs s).drop k)]=false
 | m,k,hm,h=>by
   by_cases hk:k < s.size
   ·cases hf:f s[k]
    ·have e:=runN_no f s hk hf
     simp only[e];exact hf
    ·have e:=runN_yes f s hk hf
     simp only[e] at h ⊢
     exact run_stop f s (s.size - (k+1)) (k+1) rfl h
   ·have e:=runN_out f s (Nat.le_of_not_lt hk)
    omega
 termination_by m=>m
 decreasing_by omega
theorem advF_lt {s:ByteArray} {σ:St} (h0:(advF s σ).k≠0) (h4:(advF s σ).k≠4):σ.p < (advF s σ).p :=
 Nat.lt_of_le_of_lt (Nat.le_add_right _ _) (tokF_lt (fun h=>run_stop blankB s _ _ rfl h) h0 h4)
end
section
open Go.RowKit
inductive CdIn (P:Nat->Prop) (w:World):Cd->Value->Prop where
 | mk (k:Int) (n x:ByteArray) (l:List Cd) (A:Option Addr) (c b o:Nat) (u0 u1 u2 u3:Nat->Value) (hA:0 < l.length->A=some ⟨b,o,none⟩) (hb:0 < l.length->P b)
   (h0:∀ j,j < l.length->w.cell? ⟨b,o+j * 4,none⟩=some (u0 j)) (h1:∀ j,j < l.length->w.cell? ⟨b,o+j * 4+1,none⟩=some (u1 j))
   (h2:∀ j,j < l.length->w.cell? ⟨b,o+j * 4+2,none⟩=some (u2 j)) (h3:∀ j,j < l.length->w.cell? ⟨b,o+j * 4+3,none⟩=some (u3 j))
   (hr:∀ j (hj:j < l.length),CdIn P w l[j] (.agg #[u0 j,u1 j,u2 j,u3 j])):CdIn P w (.mk k n x l) (.agg #[.int .i64 k,.string n,.string x,.slice A l.length c])
abbrev CdAt (B:Nat):World->Cd->Value->Prop:=CdIn (fun b=>B<=b)
theorem CdIn.keep {P:Nat->Prop} {w w':World} (hc:∀ b o v,P b->w.cell? ⟨b,o,none⟩=some v->w'.cell? ⟨b,o,none⟩=some v) {c:Cd} {v:Value} (h:CdIn P w c v):CdIn P w' c v:=by
 induction h with
 | mk k n x l A c b o u0 u1 u2 u3 hA hb h0 h1 h2 h3 hr ih =>
   have hp:∀ j,j < l.length->P b:=fun j hj=>hb (by omega)
   exact .mk k n x l A c b o u0 u1 u2 u3 hA hb (fun j hj=>hc b _ _ (hp j hj) (h0 j hj)) (fun j hj=>hc b _ _ (hp j hj) (h1 j hj)) (fun j hj=>hc b _ _ (hp j hj) (h2 j hj)) (fun j hj=>hc b _ _ (hp j hj) (h3 j hj)) ih
theorem CdIn.imp {P P':Nat->Prop} {w:World} (hp:∀ b,b < w.heap.size->P b->P' b) {c:Cd} {v:Value} (h:CdIn P w c v):CdIn P' w c v:=by
 induction h with
 | mk k n x l A c b o u0 u1 u2 u3 hA hb h0 h1 h2 h3 hr ih =>
   exact .mk k n x l A c b o u0 u1 u2 u3 hA (fun h=>hp b (lt_of_cell (h0 0 h)) (hb h)) h0 h1 h2 h3 ih
theorem CdIn.ext {P:Nat->Prop} {w w':World} (hx:Ext w w') {c:Cd} {v:Value} (h:CdIn P w c v):CdIn P w' c v:=h.keep fun _ _ _ _ e=>hx.cell e
theorem CdAt.ext {B:Nat} {w w':World} (hx:Ext w w') {c:Cd} {v:Value} (h:CdAt B w c v):CdAt B w' c v:=h.keep fun _ _ _ _ e=>hx.cell e
theorem cell_set_far {w:World} {p:Addr} {u v:Value} {b o:Nat} (hb:b≠p.block) (e:w.cell? ⟨b,o,none⟩=some v):(w.setCell p u).cell? ⟨b,o,none⟩=some v:=by
 unfold World.cell? at e ⊢
 simp only[World.setCell,Array.getElem?_modify]
 rw[if_neg (by omega)]
 exact e
theorem CdIn.set {P:Nat->Prop} {w:World} {p:Addr} (hp:¬ P p.block) (u:Value) {c:Cd} {v:Value} (h:CdIn P w c v):CdIn P (w.setCell p u) c v:=h.keep fun _ _ _ hb e=>cell_set_far (fun x=>hp (x ▸ hb)) e
theorem CdAt.set {B:Nat} {w:World} {p:Addr} (hp:p.block < B) (u:Value) {c:Cd} {v:Value} (h:CdAt B w c v):CdAt B (w.setCell p u) c v:=h.keep fun _ _ _ hb e=>cell_set_far (by omega) e
theorem CdIn.leaf (P:Nat->Prop) (w:World) (k:Int) (n x:ByteArray):CdIn P w (.mk k n x []) (.agg #[.int .i64 k,.string n,.string x,.slice none 0 0]) :=
 .mk k n x [] none 0 0 0 (fun _=>.int .i64 0) (fun _=>.int .i64 0) (fun _=>.int .i64 0) (fun _=>.int .i64 0) (fun h=>absurd h (Nat.lt_irrefl _)) (fun h=>absurd h (Nat.lt_irrefl _)) (fun _ h=>absurd h (Nat.not_lt_zero _)) (fun _ h=>absurd h (Nat.not_lt_zero _)) (fun _ h=>absurd h (Nat.not_lt_zero _)) (fun _ h=>absurd h (Nat.not_lt_zero _)) (fun _ h=>absurd h (Nat.not_lt_zero _))
theorem CdAt.leaf (B:Nat) (w:World) (k:Int) (n x:ByteArray):CdAt B w (.mk k n x []) (.agg #[.int .i64 k,.string n,.string x,.slice none 0 0]):=CdIn.leaf _ w k n x
theorem CdIn.cells {P:Nat->Prop} {w:World} {c:Cd} {v:Value} (h:CdIn P w c v):∃ (k:Int) (n x:ByteArray) (A:Option Addr) (m cp:Nat),v=.agg #[.int .i64 k,.string n,.string x,.slice A m cp]:=by
 cases h with
 | mk k n x l A c b o u0 u1 u2 u3=>exact⟨k,n,x,A,_,c,rfl⟩
theorem CdAt.cells {B:Nat} {w:World} {c:Cd} {v:Value} (h:CdAt B w c v):∃ (k:Int) (n x:ByteArray) (A:Option Addr) (m cp:Nat),v=.agg #[.int .i64 k,.string n,.string x,.slice A m cp]:=CdIn.cells h
def z0:Value:=.bool false
structure CdRow (P:Nat->Prop) (w:World) (l:List Cd) (xs:List Value):Prop where
 len:xs.length=l.length * 4
 at_:∀ j (hj:j < l.length),CdIn P w l[j] (.agg #[xs.getD (j * 4) z0,xs.getD (j * 4+1) z0,xs.getD (j * 4+2) z0,xs.getD (j * 4+3) z0])
theorem CdRow.nil (P:Nat->Prop) (w:World):CdRow P w [] []:=⟨rfl,fun _ h=>absurd h (Nat.not_lt_zero _)⟩
theorem CdRow.keep {P P':Nat->Prop} {w w':World} {l:List Cd} {xs:List Value} (h:CdRow P w l xs) (hp:∀ b,b < w.heap.size->P b->P' b) (hc:∀ b o v,b < w.heap.size->P b->w.cell? ⟨b,o,none⟩=some v->w'.cell? ⟨b,o,none⟩=some v):CdRow P' w' l xs:=by
 refine⟨h.len,fun j hj=>?_⟩
 have h1:CdIn (fun b=>b < w.heap.size∧P b) w l[j] _:=(h.at_ j hj).imp fun b hb hP=>⟨hb,hP⟩
 have h2:CdIn (fun b=>b < w.heap.size∧P b) w' l[j] _:=h1.keep fun b o v hP e=>hc b o v hP.1 hP.2 e
 have h3:CdIn (fun b=>b < w.heap.size∧P b) w l[j] _:=h1
 clear h3
 -- the blocks told are the old world's
 have h4:∀ {c:Cd} {v:Value},CdIn (fun b=>b < w.heap.size∧P b) w' c v->CdIn P' w' c v:=by
  intro c v h
  induction h with
  | mk k n x l A c b o u0 u1 u2 u3 hA hb h0 h1 h2 h3 hr ih=>exact .mk k n x l A c b o u0 u1 u2 u3 hA (fun h=>hp b (hb h).1 (hb h).2) h0 h1 h2 h3 ih
 exact h4 h2
theorem CdRow.ext {P:Nat->Prop} {w w':World} {l:List Cd} {xs:List Value} (h:CdRow P w l xs) (hx:Ext w w'):CdRow P w' l xs:=h.keep (fun _ _ h=>h) fun _ _ _ _ _ e=>hx.cell e
theorem CdAt.one {B:Nat} {w:World} {k:Int} {n x:ByteArray} {c:Cd} {b cp:Nat} {u0 u1 u2 u3:Value} (hb:B<=b) (h0:w.cell? ⟨b,0,none⟩=some u0) (h1:w.cell? ⟨b,1,none⟩=some u1) (h2:w.cell? ⟨b,2,none⟩=some u2) (h3:w.cell? ⟨b,3,none⟩=some u3)
 (h:CdAt B w c (.agg #[u0,u1,u2,u3])):CdAt B w (.mk k n x [c]) (.agg #[.int .i64 k,.string n,.string x,.slice (some ⟨b,0,none⟩) 1 cp]):=by
 have z:∀ j,j < [c].length->j=0:=fun j hj=>by simpa using hj
 exact .mk k n x [c] _ cp b 0 (fun _=>u0) (fun _=>u1) (fun _=>u2) (fun _=>u3) (fun _=>rfl) (fun _=>hb)
  (fun j hj=>by obtain rfl:=z j hj;exact h0) (fun j hj=>by obtain rfl:=z j hj;exact h1) (fun j hj=>by obtain rfl:=z j hj;exact h2) (fun j hj=>by obtain rfl:=z j hj;exact h3)
  (fun j hj=>by obtain rfl:=z j hj;exact h)
end
section
open Go.RowKit
def leftOf (g m:Nat) (w:World):Nat:=match w.cell? ⟨g,1,none⟩,w.cell? ⟨g,5,none⟩ with|some (.int _ p),some (.int _ e)=>if e < 0 then m+1 - p.toNat else 0|_,_=>0
theorem ExtX.grown {g r:Nat} {a w w':World} (h:ExtX g a w) (hg:w.grownBy w' (some r)) (hr:a.heap.size<=r):ExtX g a w' :=
 ⟨hg.os.trans h.os,hg.tape.trans h.tape,hg.output.trans h.output,Nat.le_trans h.size hg.size,fun k hk hkg=>(hg.block k (Nat.lt_of_lt_of_le hk h.size) (fun e=>by injection e with e;omega)).trans (h.block k hk hkg)⟩
end
section
structure Wd where
 t:ByteArray
 k:UInt8
 a:Nat
 v:ByteArray
abbrev zeroW:Wd:=⟨⟨#[]⟩,0,0,⟨#[]⟩⟩
def kindW (k:Int) (t:ByteArray):UInt8:=if k=3 then t.data.toList.headD 0 else if k=2 then 113 else 119
def wdOf (k:Int) (a:Nat) (t:ByteArray):Wd:=if k=2 then ⟨⟨#[]⟩,113,a,t⟩ else ⟨t,kindW k t,a,⟨#[]⟩⟩
def endW (s:ByteArray):Wd:=⟨⟨#[]⟩,101,s.size,⟨#[]⟩⟩
def badW (a:Nat):Wd:=⟨⟨#[]⟩,33,a,⟨#[]⟩⟩
abbrev at0 (i:Nat):St:=⟨i,0,0,⟨#[]⟩,-1⟩
def wordsT (s:ByteArray) (i:Nat):List Wd :=
 if _h0:(advF s (at0 i)).k=0 then [endW s]
 else if _h4:(advF s (at0 i)).k=4 then [badW (advF s (at0 i)).a,endW s]
 else if _hp:(advF s (at0 i)).p<=s.size then wdOf (advF s (at0 i)).k (advF s (at0 i)).a (advF s (at0 i)).t::wordsT s (advF s (at0 i)).p
 else []
 termination_by s.size - i
 decreasing_by
  have:=advF_lt _h0 _h4
  dsimp only at this
  omega
structure Rs where
 l:List Wd
 bad:Int
def Rs.hd (τ:Rs):Wd:=τ.l.headD zeroW
end
section
def SufR (W:List Wd) (τ:Rs):Prop:=∃ j,j < W.length∧τ.l=W.drop j
structure OnR (W:List Wd) (τ υ:Rs):Prop where
 suf:SufR W τ->SufR W υ
 len:υ.l.length<=τ.l.length
 bad:¬ τ.bad < 0->υ.bad=τ.bad
theorem OnR.refl (W:List Wd) (τ:Rs):OnR W τ τ:=⟨id,Nat.le_refl _,fun _=>rfl⟩
theorem OnR.trans {W:List Wd} {a b c:Rs} (h:OnR W a b) (k:OnR W b c):OnR W a c :=
 ⟨fun x=>k.suf (h.suf x),Nat.le_trans k.len h.len,fun x=>by rw[k.bad (by rw[h.bad x];exact x),h.bad x]⟩
end
section
def Sim (s:ByteArray) (σ:St) (τ:Rs):Prop :=
 (σ.wr < 0∧τ.bad < 0∧∃ i,i<=s.size∧(σ.k=(advF s (at0 i)).k∧σ.a=(advF s (at0 i)).a∧σ.t=(advF s (at0 i)).t∧σ.p=(advF s (at0 i)).p)∧τ.l=wordsT s i)∨(¬ σ.wr < 0∧τ.bad=σ.wr)
section
variable {s:ByteArray}
theorem Sim.err {σ:St} {τ:Rs} (h:¬ σ.wr < 0) (e:τ.bad=σ.wr):Sim s σ τ:=.inr ⟨h,e⟩
end
end
section
section
variable {s:ByteArray}
theorem Sim.ok {σ:St} {τ:Rs} (h:Sim s σ τ) (hw:σ.wr < 0):OkS s σ:=by
 rcases h with ⟨_,_,i,hi,⟨ek,ea,et,ep⟩,_⟩|⟨h1,_⟩
 ·have:=advF_ok (s:=s) (σ:=at0 i) ⟨hi,Nat.zero_le _,Nat.zero_le _⟩
  exact⟨by rw[ep];exact this.p,by rw[ea];exact this.a,by rw[et];exact this.t⟩
 ·exact absurd hw h1
end
end
section
open Go.RowKit
structure WdsAt (w:World) (b:Nat) (W:List Wd):Prop where
 lt:b < w.heap.size
 c0:∀ j (h:j < W.length),w.cell? ⟨b,j * 4,none⟩=some (.string W[j].t)
 c1:∀ j (h:j < W.length),w.cell? ⟨b,j * 4+1,none⟩=some (.int .u8 W[j].k.toNat)
 c2:∀ j (h:j < W.length),w.cell? ⟨b,j * 4+2,none⟩=some (.int .i64 W[j].a)
 c3:∀ j (h:j < W.length),w.cell? ⟨b,j * 4+3,none⟩=some (.string W[j].v)
theorem WdsAt.ext {w w':World} {b:Nat} {W:List Wd} (h:WdsAt w b W) (hx:Ext w w'):WdsAt w' b W :=
 ⟨Nat.lt_of_lt_of_le h.lt hx.size,fun j hj=>hx.cell (h.c0 j hj),fun j hj=>hx.cell (h.c1 j hj),fun j hj=>hx.cell (h.c2 j hj),fun j hj=>hx.cell (h.c3 j hj)⟩
theorem WdsAt.far {w:World} {b:Nat} {W:List Wd} (h:WdsAt w b W) {p:Addr} (hp:b≠p.block) (u:Value):WdsAt (w.setCell p u) b W :=
 ⟨by have:=h.lt;simpa [World.setCell] using this,fun j hj=>cell_set_far hp (h.c0 j hj),fun j hj=>cell_set_far hp (h.c1 j hj),fun j hj=>cell_set_far hp (h.c2 j hj),fun j hj=>cell_set_far hp (h.c3 j hj)⟩
structure RdR (w:World) (g b:Nat) (W:List Wd) (τ:Rs):Prop where
 ne:b≠g
 wds:WdsAt w b W
 rd:∃ j cp,j < W.length∧τ.l=W.drop j∧W.length - j<=cp∧Blk w g 173 #[.slice (some ⟨b,j * 4,none⟩) (W.length - j) cp,.int .i64 τ.bad]
namespace RdR
variable {w w':World} {g b:Nat} {W:List Wd} {τ:Rs}
theorem suf (h:RdR w g b W τ):SufR W τ:=by
 obtain⟨j,cp,hj,hl,_⟩:=h.rd
 exact⟨j,hj,hl⟩
theorem lt (h:RdR w g b W τ):g < w.heap.size:=by
 obtain⟨j,cp,hj,hl,_,hb⟩:=h.rd
 exact hb.lt
theorem ext (h:RdR w g b W τ) (hx:Ext w w'):RdR w' g b W τ:=by
 obtain⟨j,cp,hj,hl,hc,hb⟩:=h.rd
 exact⟨h.ne,h.wds.ext hx,j,cp,hj,hl,hc,hb.ext hx⟩
theorem alloc (h:RdR w g b W τ) (o:Obj):RdR (w.alloc o) g b W τ:=h.ext ((Ext.refl w).alloc o)
theorem far (h:RdR w g b W τ) {p:Addr} (hp:g≠p.block) (hp2:b≠p.block) (u:Value):RdR (w.setCell p u) g b W τ:=by
 obtain⟨j,cp,hj,hl,hc,hb⟩:=h.rd
 exact⟨h.ne,h.wds.far hp2 u,j,cp,hj,hl,hc,hb.far hp u⟩
theorem opened (h:RdR w g b W τ):∃ j cp m,j < W.length∧τ.l=W.drop j∧W.length - j=m∧0 < m∧m<=cp∧Blk w g 173 #[.slice (some ⟨b,j * 4,none⟩) m cp,.int .i64 τ.bad] ∧
 w.cell? ⟨b,j * 4,none⟩=some (.string τ.hd.t)∧w.cell? ⟨b,j * 4+1,none⟩=some (.int .u8 τ.hd.k.toNat)∧w.cell? ⟨b,j * 4+2,none⟩=some (.int .i64 τ.hd.a)∧w.cell? ⟨b,j * 4+3,none⟩=some (.string τ.hd.v):=by
 obtain⟨j,cp,hj,hl,hc,hb⟩:=h.rd
 have hh:τ.hd=W[j]:=by
  unfold Rs.hd
  rw[hl,List.drop_eq_getElem_cons hj]
  rfl
 rw[hh]
 exact⟨j,cp,_,hj,hl,rfl,by omega,hc,hb,h.wds.c0 j hj,h.wds.c1 j hj,h.wds.c2 j hj,h.wds.c3 j hj⟩
end RdR
end
section
open Go.RowKit
abbrev eAnd:MapEntry:=⟨.string ⟨#[97,110,100]⟩,.int .i64 7,0⟩
abbrev eOr:MapEntry:=⟨.string ⟨#[111,114]⟩,.int .i64 8,1⟩
def KindMap (w:World) (b:Nat):Prop:=w.heap[b]?=some (.map #[eAnd,eOr] 2)
theorem KindMap.lt {w:World} {b:Nat} (h:KindMap w b):b < w.heap.size:=(Array.getElem?_eq_some_iff.1 h).1
theorem KindMap.ext {b:Nat} {w w':World} (h:KindMap w b) (hx:Ext w w'):KindMap w' b:=(hx.block b h.lt).trans h
theorem KindMap.alloc {b:Nat} {w:World} (h:KindMap w b) (o:Obj):KindMap (w.alloc o) b:=h.ext ((Ext.refl w).alloc o)
theorem KindMap.far {b:Nat} {w:World} (h:KindMap w b) {p:Addr} (hp:b≠p.block) (u:Value):KindMap (w.setCell p u) b:=(Below.heap_setCell w p u b hp).trans h
end
section
open Go.RowKit
def Cd.kind:Cd->Int|.mk k _ _ _=>k
def Cd.name:Cd->ByteArray|.mk _ n _ _=>n
def Cd.value:Cd->ByteArray|.mk _ _ x _=>x
def Cd.args:Cd->List Cd|.mk _ _ _ l=>l
mutual
def cnt:Cd->Nat|.mk _ _ _ l=>1+cnts l
def cnts:List Cd->Nat|[]=>0|c::l=>cnt c+cnts l
end
mutual
def prt (lev:Nat):Cd->List (Cd × Nat)|.mk k n x l=>(.mk k n x l,lev)::prts (lev+1) l
def prts (lev:Nat):List Cd->List (Cd × Nat)|[]=>[]|c::l=>prt lev c++prts lev l
end
theorem cnt_pos (c:Cd):0 < cnt c:=by cases c;unfold cnt;omega
mutual
theorem prt_len (lev:Nat):∀ c:Cd,(prt lev c).length=cnt c
 | .mk k n x l=>by unfold prt cnt;rw[List.length_cons,prts_len (lev+1) l];omega
theorem prts_len (lev:Nat):∀ l:List Cd,(prts lev l).length=cnts l
 | []=>rfl
 | c::l=>by unfold prts cnts;rw[List.length_append,prt_len lev c,prts_len lev l]
end
theorem prts_append (lev:Nat) (a b:List Cd):prts lev (a++b)=prts lev a++prts lev b:=by
 induction a with
 | nil=>simp[prts]
 | cons x r ih=>simp only[List.cons_append,prts,ih,List.append_assoc]
inductive SmallC:Cd->Prop where
 | mk (k:Int) (n x:ByteArray) (l:List Cd) (hn:n.size<=2097152) (hx:x.size<=2097152) (hl:l.length<=100000000) (hr:∀ c∈l,SmallC c):SmallC (.mk k n x l)
def namedK (k:Int):Bool:=decide (2<=k)&&decide (k<=5)
def valuedK (k:Int):Bool:=namedK k&&!decide (k=4)
def formBad (k:Int) (n x:Str) (m:Nat):Bool :=
 (!namedK k&&!n.isEmpty)||(!valuedK k&&!x.isEmpty)||(!decide (6<=k)&&decide (0 < m))||(decide (k=6)&&!decide (m=1))
def partErr (k:Int) (n x:Str) (m:Nat):Int :=
 if k < 1∨8 < k then 1
 else if formBad k n x m=true then 2
 else if namedK k=false then 0
 else if (!(if k=3∨k=4 then pathL n else nameL n))=true then 5
 else if (!valueL x)=true then 2
 else if k=5 then (parseR x).2 else 0
def partC (c:Cd):Int:=partErr c.kind (bs c.name) (bs c.value) c.args.length
def firstErr:List (Cd × Nat)->Int
 | []=>0
 | p::r=>if partC p.1=0 then firstErr r else partC p.1
def checkC (c:Cd):Int :=
 if 100 < cnt c then 4
 else if firstErr (prt 0 c)≠0 then firstErr (prt 0 c)
 else if (prt 0 c).any (fun p=>decide (20 < p.2))=true then 4 else 0
end
section
open Go.RowKit
theorem CdIn.extC {C P:Nat->Prop} {w w':World} {c:Cd} {v:Value} (h:CdIn P w c v) (hx:ExtC C w w') (hp:∀ k,P k->¬ C k):CdIn P w' c v:=h.keep fun b _ _ hb e=>hx.cell (hp b hb) e
def runP {α:Type} (step:Cd->Nat->α->α × Bool):List (Cd × Nat)->α->α × Bool
 | [],st=>(st,true)
 | p::r,st=>if (step p.1 p.2 st).2=true then runP step r (step p.1 p.2 st).1 else ((step p.1 p.2 st).1,false)
theorem runP_append {α:Type} (step:Cd->Nat->α->α × Bool) (b:List (Cd × Nat)):∀ (a:List (Cd × Nat)) (st:α),runP step (a++b) st=if (runP step a st).2=true then runP step b (runP step a st).1 else ((runP step a st).1,false)
 | [],st=>by simp[runP]
 | p::r,st=>by
   simp only[List.cons_append,runP]
   by_cases h:(step p.1 p.2 st).2=true
   ·simp only[if_pos h,runP_append step b r]
   ·simp only[if_neg h]
    simp
theorem runP_stop {α:Type} (step:Cd->Nat->α->α × Bool) (lev:Nat) (l:List Cd) (j:Nat) (h:j < l.length) {st s1 s2:α} (h1:runP step (prts lev (l.take j)) st=(s1,true)) (h2:runP step (prt lev l[j]) s1=(s2,false)):runP step (prts lev l) st=(s2,false):=by
 have e:prts lev l=(prts lev (l.take j)++prt lev l[j])++prts lev (l.drop (j+1)):=by
  rw[List.append_assoc]
  conv=>lhs;rw[<-List.take_append_drop j l,prts_append,List.drop_eq_getElem_cons h]
  rfl
 rw[e,runP_append,runP_append,h1]
 simp[h2]
theorem runP_next {α:Type} (step:Cd->Nat->α->α × Bool) (lev:Nat) (l:List Cd) (j:Nat) (h:j < l.length) {st s1 s2:α} (h1:runP step (prts lev (l.take j)) st=(s1,true)) (h2:runP step (prt lev l[j]) s1=(s2,true)):runP step (prts lev (l.take (j+1))) st=(s2,true):=by
 have e:prts lev (l.take (j+1))=prts lev (l.take j)++prt lev l[j]:=by
  rw[List.take_succ_eq_append_getElem h,prts_append]
  simp[prts]
 rw[e,runP_append,h1]
 simp[h2]
theorem cnts_at:∀ (l:List Cd) (j:Nat) (h:j < l.length),cnt l[j]<=cnts l
 | c::l,0,_=>by simp only[cnts,List.getElem_cons_zero];omega
 | c::l,j+1,h=>by
   have:=cnts_at l j (by simpa using h)
   simp only[cnts,List.getElem_cons_succ]
   omega
theorem cnts_len:∀ (l:List Cd),l.length<=cnts l
 | []=>Nat.le_refl _
 | c::l=>by
   have:=cnts_len l
   have:=cnt_pos c
   simp only[cnts,List.length_cons]
   omega
theorem runP_yes {α:Type} (step:Cd->Nat->α->α × Bool) (hyes:∀ c lev st,(step c lev st).2=true):∀ (l:List (Cd × Nat)) (st:α),(runP step l st).2=true
 | [],_=>rfl
 | p::r,st=>by
   unfold runP
   rw[if_pos (hyes _ _ _)]
   exact runP_yes step hyes r _
set_option maxRecDepth 100000 in
set_option maxHeartbeats 8000000 in
theorem walk_any {α:Type} (f:FuncId) (caps:Array Value) (hen:∀ xs w,Sem.run Tryz.prog (callFunc f xs) w=.ok (.enter f xs) w) (P C:Nat->Prop) (B:Nat) (Inv:α->World->Prop) (step:Cd->Nat->α->α × Bool)
 (hal:∀ st w w',Inv st w->Ext w w'->Inv st w') (hC:∀ k,C k->k < B) (hB:∀ st w,Inv st w->B<=w.heap.size) (hP:∀ k,P k->¬ C k)
 (hf:∀ c v (lev:Nat) st w,lev<=1000000000->SmallC c->CdIn P w c v->Inv st w->Calls Tryz.prog f (#[v,.int .i64 lev]++caps) w fun e w'=>e=.returned (.bool (step c lev st).2)∧Inv (step c lev st).1 w'∧ExtC C w w') :
 ∀ (N:Nat) (c:Cd),cnt c<=N->∀ (lev:Nat) (v:Value) (st:α) (w:World),lev+N<=1000000000->SmallC c->CdIn P w c v->Inv st w ->
  Calls Tryz.prog 173 #[v,.int .i64 lev,.func (.func f) #[] caps] w fun e w'=>e=.returned (.bool (runP step (prt lev c) st).2)∧Inv (runP step (prt lev c) st).1 w'∧ExtC C w w':=by
 intro N
 induction N with
 | zero=>intro c hc;have:=cnt_pos c;omega
 | succ N ih =>
   intro c hc lev v st w hlev hsm hcd hinv
   have hc0:=hcd
   cases hcd with
   | mk k n x l A cp b o u0 u1 u2 u3 hA hb h0 h1 h2 h3 hr =>
     obtain⟨_,_,_,_,hsn,hsx,hsl,hsr⟩:=hsm
     have hnw:w.heap.size<=w.heap.size:=Nat.le_refl _
     have hBw:=hB _ _ hinv
     have hnC:¬ C w.heap.size:=fun h=>by have:=hC _ h;omega
     have hxb:Ext w (w.alloc (.cells #[.int .i64 k,.string n,.string x,.slice A l.length cp] 52)):=(Ext.refl w).alloc _
     have hfb:=hf (.mk k n x l) _ lev st _ (by omega) ⟨k,n,x,l,hsn,hsx,hsl,hsr⟩ (hc0.ext hxb) (hal _ _ _ hinv hxb)
     have bx:=Blk.new w 52 #[.int .i64 k,.string n,.string x,.slice A l.length cp]
     have hrun:runP step (prt lev (.mk k n x l)) st=(if (step (.mk k n x l) lev st).2=true then runP step (prts (lev+1) l) (step (.mk k n x l) lev st).1 else ((step (.mk k n x l) lev st).1,false)):=rfl
     rw[hrun]
     have hcl:cnts l<=N:=by unfold cnt at hc;omega
     have hlw:IntKind.i64.wrap ((lev:Int)+1)=(lev:Int)+1:=by rw[IntKind.wrap_i64];omega
     have hll:=cnts_len l
     skip
     generalize step (.mk k n x l) lev st=S at *
     obtain⟨st1,ok⟩:=S
     dsimp only at hfb ⊢
     have HF:=Hy hfb
     have HEN:=hen
     clear hfb hrun hc hinv
     cases ok
     ·go_enter Tryz.func173,Tryz.ntmps173
      go_wp2_with fail
      refine HF.out.mono ?_
      rintro e w1 ⟨rfl,hinv1,hx1⟩
      go_wp2
      go_ret
      exact⟨rfl,hinv1,(ExtC.ofExt hxb).trans hx1⟩
     obtain⟨R,hR⟩:∃ R,runP step (prts (lev+1) l) st1=R:=⟨_,rfl⟩
     rw[if_pos rfl,hR]
     have HR:=Hy hR
     have HIHs:=Hy ih
     have HSR:=Hy hsr
     have HH0:=Hy h0;have HH1:=Hy h1;have HH2:=Hy h2;have HH3:=Hy h3;have HHR:=Hy hr
     have HB:=Hy hB;have HP:=Hy hP;have HA:=Hy hA;have HBB:=Hy hb;have HAL:=Hy hal
     clear hR ih hf h0 h1 h2 h3 hr hsr hB hP hA hb hc0 hal
     go_enter Tryz.func173,Tryz.ntmps173
     go_wp2_with fail
     refine HF.out.mono ?_
     rintro e w1 ⟨rfl,hinv1,hx1⟩
     have bx1:=bx.extC hx1 hnC
     have bc:=bx1.cell;have bf:=bx1.free;have bz:=bx1.lt
     have hxa:=(ExtC.ofExt hxb).trans hx1
     clear bx
     go_wp2
     go_loopw [17] (fun t wr=>∃ (j:Nat) (sj:α),t=.int .i64 j∧j<=l.length∧Inv sj wr∧ExtC C w wr∧runP step (prts (lev+1) (l.take j)) st1=(sj,true)) (fun t _=>l.length - (intOf t).toNat)
     case atStart=>exact⟨0,st1,by go_num,Nat.zero_le _,hinv1,hxa,rfl⟩
     case round =>
      obtain⟨j,sj,rfl,hj,hinvr,hxr,hdone⟩:=hrel
      have HXR:=Hy hxr
      clear bc bf bz bx1 hx1 hinv1 HF hxa
      by_cases hlt:j < l.length
      ·obtain rfl:=HA.out (by omega)
       have hPb:=HBB.out (by omega)
       have hnb:=HP.out b hPb
       have g0:=hxr.cell hnb (HH0.out j hlt)
       have g1:=hxr.cell hnb (HH1.out j hlt)
       have g2:=hxr.cell hnb (HH2.out j hlt)
       have g3:=hxr.cell hnb (HH3.out j hlt)
       have hcj:=HHR.out j hlt
       obtain⟨ck,cn,cx,cA,cm,ccp,hcc⟩:=hcj.cells
       have hcc2:=hcc
       simp only[Value.agg.injEq,Array.mk.injEq,List.cons.injEq,and_true] at hcc2
       obtain⟨q0,q1,q2,q3⟩:=hcc2
       rw[hcc] at hcj
       rw[q0] at g0;rw[q1] at g1;rw[q2] at g2;rw[q3] at g3
       clear hcc q0 q1 q2 q3
       have hxc:Ext wr (wr.alloc (.cells #[.int .i64 ck,.string cn,.string cx,.slice cA cm ccp] 52)):=(Ext.refl wr).alloc _
       have hih:=HIHs.out l[j] (Nat.le_trans (cnts_at l j hlt) hcl) (lev+1) _ sj _ (by omega) (HSR.out _ (List.getElem_mem hlt)) ((hcj.extC hxr HP.out).ext hxc) (HAL.out _ _ _ hinvr hxc)
       rw[show ((lev+1:Nat):Int)=(lev:Int)+1 by omega] at hih
       generalize hs2:runP step (prt (lev+1) l[j]) sj=S2 at *
       have hq0:(0:Int)<=(j:Int):=by omega
       clear hxr hxc hcj
       obtain⟨s2,ok2⟩:=S2
       dsimp only at hih
       have HIH:=Hy hih
       cases ok2
       ·have hfin:=runP_stop step (lev+1) l j hlt hdone hs2
        rw[HR.out] at hfin
        subst hfin
        clear hdone hs2 hih
        go_wp2_with fail
        refine HIH.out.mono ?_
        rintro e w3 ⟨rfl,hinv3,hx3⟩
        go_wp2
        go_ret
        exact⟨rfl,hinv3,(HXR.out.trans (ExtC.ofExt ((Ext.refl wr).alloc _))).trans hx3⟩
       ·have hnx:=runP_next step (lev+1) l j hlt hdone hs2
        have HNX:=Hy hnx
        clear hdone hs2 hnx hih
        go_wp2_with fail
        refine HIH.out.mono ?_
        rintro e w3 ⟨rfl,hinv3,hx3⟩
        go_wp2
        go_roundw
        case rel=>exact⟨j+1,s2,by go_num,hlt,hinv3,(HXR.out.trans (ExtC.ofExt ((Ext.refl wr).alloc _))).trans hx3,HNX.out⟩
        case measure=>simp[intOf];omega
      ·have hjl:l.take j=l:=List.take_of_length_le (by omega)
       rw[hjl,HR.out] at hdone
       subst hdone
       go_wp2
       go_ret
       exact⟨rfl,hinvr,HXR.out⟩
set_option maxRecDepth 100000 in
set_option maxHeartbeats 8000000 in
theorem CondParts_any {α:Type} (f:FuncId) (caps:Array Value) (hen:∀ xs w,Sem.run Tryz.prog (callFunc f xs) w=.ok (.enter f xs) w) (P C:Nat->Prop) (B:Nat) (Inv:α->World->Prop) (step:Cd->Nat->α->α × Bool)
 (hal:∀ st w w',Inv st w->Ext w w'->Inv st w') (hC:∀ k,C k->k < B) (hB:∀ st w,Inv st w->B<=w.heap.size) (hP:∀ k,P k->¬ C k) (hyes:∀ c lev st,(step c lev st).2=true)
 (hf:∀ c v (lev:Nat) st w,lev<=1000000000->SmallC c->CdIn P w c v->Inv st w->Calls Tryz.prog f (#[v,.int .i64 lev]++caps) w fun e w'=>e=.returned (.tuple #[])∧Inv (step c lev st).1 w'∧ExtC C w w') :
 ∀ (N:Nat) (c:Cd),cnt c<=N->∀ (lev:Nat) (v:Value) (st:α) (w:World),lev+N<=1000000000->SmallC c->CdIn P w c v->Inv st w ->
  Calls Tryz.prog 181 #[v,.int .i64 lev,.func (.func f) #[] caps] w fun e w'=>e=.returned (.tuple #[])∧Inv (runP step (prt lev c) st).1 w'∧ExtC C w w':=by
 intro N
 induction N with
 | zero=>intro c hc;have:=cnt_pos c;omega
 | succ N ih =>
   intro c hc lev v st w hlev hsm hcd hinv
   have hc0:=hcd
   cases hcd with
   | mk k n x l A cp b o u0 u1 u2 u3 hA hb h0 h1 h2 h3 hr =>
     obtain⟨_,_,_,_,hsn,hsx,hsl,hsr⟩:=hsm
     have hnw:w.heap.size<=w.heap.size:=Nat.le_refl _
     have hBw:=hB _ _ hinv
     have hnC:¬ C w.heap.size:=fun h=>by have:=hC _ h;omega
     have hxb:Ext w (w.alloc (.cells #[.int .i64 k,.string n,.string x,.slice A l.length cp] 52)):=(Ext.refl w).alloc _
     have hfb:=hf (.mk k n x l) _ lev st _ (by omega) ⟨k,n,x,l,hsn,hsx,hsl,hsr⟩ (hc0.ext hxb) (hal _ _ _ hinv hxb)
     have bx:=Blk.new w 52 #[.int .i64 k,.string n,.string x,.slice A l.length cp]
     have hrun:runP step (prt lev (.mk k n x l)) st=(if (step (.mk k n x l) lev st).2=true then runP step (prts (lev+1) l) (step (.mk k n x l) lev st).1 else ((step (.mk k n x l) lev st).1,false)):=rfl
     rw[hrun]
     have hcl:cnts l<=N:=by unfold cnt at hc;omega
     have hlw:IntKind.i64.wrap ((lev:Int)+1)=(lev:Int)+1:=by rw[IntKind.wrap_i64];omega
     have hll:=cnts_len l
     have hok:=hyes (.mk k n x l) lev st
     generalize step (.mk k n x l) lev st=S at *
     obtain⟨st1,ok⟩:=S
     dsimp only at hfb hok ⊢
     have HF:=Hy hfb
     have HEN:=hen
     clear hfb hrun hc hinv
     obtain rfl:ok=true:=hok
     obtain⟨R,hR⟩:∃ R,runP step (prts (lev+1) l) st1=R:=⟨_,rfl⟩
     rw[if_pos rfl,hR]
     have HR:=Hy hR
     have HIHs:=Hy ih
     have HSR:=Hy hsr
     have HH0:=Hy h0;have HH1:=Hy h1;have HH2:=Hy h2;have HH3:=Hy h3;have HHR:=Hy hr
     have HB:=Hy hB;have HP:=Hy hP;have HA:=Hy hA;have HBB:=Hy hb;have HAL:=Hy hal
     clear hR ih hf h0 h1 h2 h3 hr hsr hB hP hA hb hc0 hal
     go_enter Tryz.func181,Tryz.ntmps181
     go_wp2_with fail
     refine HF.out.mono ?_
     rintro e w1 ⟨rfl,hinv1,hx1⟩
     have bx1:=bx.extC hx1 hnC
     have bc:=bx1.cell;have bf:=bx1.free;have bz:=bx1.lt
     have hxa:=(ExtC.ofExt hxb).trans hx1
     clear bx
     go_wp2
     go_loopw [15] (fun t wr=>∃ (j:Nat) (sj:α),t=.int .i64 j∧j<=l.length∧Inv sj wr∧ExtC C w wr∧runP step (prts (lev+1) (l.take j)) st1=(sj,true)) (fun t _=>l.length - (intOf t).toNat)
     case atStart=>exact⟨0,st1,by go_num,Nat.zero_le _,hinv1,hxa,rfl⟩
     case round =>
      obtain⟨j,sj,rfl,hj,hinvr,hxr,hdone⟩:=hrel
      have HXR:=Hy hxr
      clear bc bf bz bx1 hx1 hinv1 HF hxa
      by_cases hlt:j < l.length
      ·obtain rfl:=HA.out (by omega)
       have hPb:=HBB.out (by omega)
       have hnb:=HP.out b hPb
       have g0:=hxr.cell hnb (HH0.out j hlt)
       have g1:=hxr.cell hnb (HH1.out j hlt)
       have g2:=hxr.cell hnb (HH2.out j hlt)
       have g3:=hxr.cell hnb (HH3.out j hlt)
       have hcj:=HHR.out j hlt
       obtain⟨ck,cn,cx,cA,cm,ccp,hcc⟩:=hcj.cells
       have hcc2:=hcc
       simp only[Value.agg.injEq,Array.mk.injEq,List.cons.injEq,and_true] at hcc2
       obtain⟨q0,q1,q2,q3⟩:=hcc2
       rw[hcc] at hcj
       rw[q0] at g0;rw[q1] at g1;rw[q2] at g2;rw[q3] at g3
       clear hcc q0 q1 q2 q3
       have hxc:Ext wr (wr.alloc (.cells #[.int .i64 ck,.string cn,.string cx,.slice cA cm ccp] 52)):=(Ext.refl wr).alloc _
       have hih:=HIHs.out l[j] (Nat.le_trans (cnts_at l j hlt) hcl) (lev+1) _ sj _ (by omega) (HSR.out _ (List.getElem_mem hlt)) ((hcj.extC hxr HP.out).ext hxc) (HAL.out _ _ _ hinvr hxc)
       rw[show ((lev+1:Nat):Int)=(lev:Int)+1 by omega] at hih
       generalize hs2:runP step (prt (lev+1) l[j]) sj=S2 at *
       have hq0:(0:Int)<=(j:Int):=by omega
       clear hxr hxc hcj
       obtain⟨s2,ok2⟩:=S2
       have hok2:ok2=true:=by
        have:=runP_yes step hyes (prt (lev+1) l[j]) sj
        rw[hs2] at this
        exact this
       subst hok2
       dsimp only at hih
       have HIH:=Hy hih
       have hnx:=runP_next step (lev+1) l j hlt hdone hs2
       have HNX:=Hy hnx
       clear hdone hs2 hnx hih
       go_wp2_with fail
       refine HIH.out.mono ?_
       rintro e w3 ⟨rfl,hinv3,hx3⟩
       go_wp2
       go_roundw
       case rel=>exact⟨j+1,s2,by go_num,hlt,hinv3,(HXR.out.trans (ExtC.ofExt ((Ext.refl wr).alloc _))).trans hx3,HNX.out⟩
       case measure=>simp[intOf];omega
      ·have hjl:l.take j=l:=List.take_of_length_le (by omega)
       rw[hjl,HR.out] at hdone
       subst hdone
       go_wp2
       refine bodyPost_end (results_none rfl _ _ _) rfl ⟨rfl,hinvr,HXR.out⟩
end
section
inductive StrC (m:Nat):Cd->Prop where
 | mk (k:Int) (n x:ByteArray) (l:List Cd) (hn:n.size<=m) (hx:x.size<=m) (hr:∀ c∈l,StrC m c):StrC m (.mk k n x l)
theorem StrC.zero (m:Nat):StrC m zeroC:=.mk _ _ _ _ (Nat.zero_le _) (Nat.zero_le _) (fun _ h=>by cases h)
theorem cnts_mem:∀ {l:List Cd} {c:Cd},c∈l->cnt c<=cnts l
 | a::l,c,h=>by
   rcases List.mem_cons.1 h with rfl|h
   ·simp only[cnts];omega
   ·have:=cnts_mem h
    simp only[cnts];omega
theorem cnts_len':∀ (l:List Cd),l.length<=cnts l
 | []=>Nat.le_refl _
 | c::l=>by
   have:=cnts_len' l
   have:=cnt_pos c
   simp only[cnts,List.length_cons]
   omega
theorem small_of {m:Nat} (hm:m<=2097152) {c:Cd} (h:StrC m c) (hc:cnt c<=100000000):SmallC c:=by
 induction h with
 | mk k n x l hn hx hr ih =>
   unfold cnt at hc
   have:=cnts_len' l
   exact .mk k n x l (by omega) (by omega) (by omega) fun c hcl=>ih c hcl (by have:=cnts_mem hcl;omega)
section
variable {s:ByteArray}
theorem cnt_mk (k:Int) (n x:ByteArray) (l:List Cd):cnt (.mk k n x l)=1+cnts l:=by simp[cnt]
theorem cnt_leaf (k:Int) (n x:ByteArray):cnt (.mk k n x [])=1:=by simp[cnt,cnts]
end
end
section
open Go.RowKit
def ArgAt (P:Nat->Prop) (w:World) (l:List Cd) (b o:Nat):Prop:=∀ j (hj:j < l.length),∃ (ck:Int) (cn cx:ByteArray) (cA:Option Addr) (cm ccp:Nat),
 w.cell? ⟨b,o+j * 4,none⟩=some (.int .i64 ck)∧w.cell? ⟨b,o+j * 4+1,none⟩=some (.string cn)∧w.cell? ⟨b,o+j * 4+2,none⟩=some (.string cx)∧w.cell? ⟨b,o+j * 4+3,none⟩=some (.slice cA cm ccp) ∧
 CdIn P w l[j] (.agg #[.int .i64 ck,.string cn,.string cx,.slice cA cm ccp])
theorem ArgAt.ext {P:Nat->Prop} {w w':World} {l:List Cd} {b o:Nat} (h:ArgAt P w l b o) (hx:Ext w w'):ArgAt P w' l b o:=fun j hj=>by
 obtain⟨ck,cn,cx,cA,cm,ccp,h0,h1,h2,h3,hc⟩:=h j hj
 exact⟨ck,cn,cx,cA,cm,ccp,hx.cell h0,hx.cell h1,hx.cell h2,hx.cell h3,hc.ext hx⟩
end
section
open Go.RowKit
structure Se where
 k:ByteArray
 v:ByteArray
deriving DecidableEq
structure SeS (w:World) (b o:Nat) (l:List Se):Prop where
 c0:∀ k (h:k < l.length),w.cell? ⟨b,o+k * 2,none⟩=some (.string l[k].k)
 c1:∀ k (h:k < l.length),w.cell? ⟨b,o+k * 2+1,none⟩=some (.string l[k].v)
theorem SeS.ext {w w':World} {b o:Nat} {l:List Se} (h:SeS w b o l) (hx:Ext w w'):SeS w' b o l:=⟨fun k hk=>hx.cell (h.c0 k hk),fun k hk=>hx.cell (h.c1 k hk)⟩
def RdE (w:World) (A:Option Addr) (l:List Se):Prop:=l≠[]->∃ b o,A=some ⟨b,o,none⟩∧SeS w b o l
theorem RdE.ext {w w':World} {A:Option Addr} {l:List Se} (h:RdE w A l) (hx:Ext w w'):RdE w' A l:=fun hn=>by
 obtain⟨b,o,e,k⟩:=h hn
 exact⟨b,o,e,k.ext hx⟩
end
section
structure Pre {α:Type} (f:α->α->Int):Prop where
 anti:∀ a b,f a b < 0↔0 < f b a
 le:∀ a b c,f a b<=0->f b c<=0->f a c<=0
namespace Pre
variable {α:Type} {f:α->α->Int}
theorem self (h:Pre f) (a:α):f a a=0:=by have:=h.anti a a;omega
theorem zero (h:Pre f) {a b:α} (e:f a b=0):f b a=0:=by have:=h.anti a b;have:=h.anti b a;omega
theorem lt_le (h:Pre f) {a b c:α} (h1:f a b < 0) (h2:f b c<=0):f a c < 0:=by
 have h3:=h.le a b c (by omega) h2
 rcases Int.lt_or_eq_of_le h3 with h4|h4
 ·exact h4
 ·have h5:=h.le c a b (by have:=h.zero h4;omega) (by omega)
  have h6:=h.le b c b h2 h5
  have:=h.anti a b
  have h7:=h.le b c a h2 (by have:=h.zero h4;omega)
  omega
theorem le_lt (h:Pre f) {a b c:α} (h1:f a b<=0) (h2:f b c < 0):f a c < 0:=by
 have h3:=h.le a b c h1 (by omega)
 rcases Int.lt_or_eq_of_le h3 with h4|h4
 ·exact h4
 ·have h7:=h.le c a b (by have:=h.zero h4;omega) h1
  have:=h.anti b c
  omega
theorem lt (h:Pre f) {a b c:α} (h1:f a b < 0) (h2:f b c < 0):f a c < 0:=h.lt_le h1 (by omega)
theorem on {β:Type} (h:Pre f) (p:β->α):Pre fun x y=>f (p x) (p y):=⟨fun _a _b=>h.anti _ _,fun _a _b _c=>h.le _ _ _⟩
theorem lex {g:α->α->Int} (h:Pre f) (k:Pre g):Pre fun a b=>if f a b=0 then g a b else f a b:=by
 refine⟨fun a b=>?_,fun a b c h1 h2=>?_⟩
 ·by_cases h0:f a b=0
  ·rw[if_pos h0,if_pos (h.zero h0)];exact k.anti a b
  ·rw[if_neg h0,if_neg (fun e=>h0 (h.zero e))];exact h.anti a b
 ·by_cases h3:f a b=0
  ·rw[if_pos h3] at h1
   by_cases h4:f b c=0
   ·rw[if_pos h4] at h2
    have h5:=h.le a b c (by omega) (by omega)
    have h6:=h.le c b a (by have:=h.zero h4;omega) (by have:=h.zero h3;omega)
    have h7:f a c=0:=by have:=h.anti a c;have:=h.anti c a;omega
    rw[if_pos h7]
    exact k.le a b c h1 h2
   ·rw[if_neg h4] at h2
    have:=h.le_lt (a:=a) (b:=b) (c:=c) (by omega) (by omega)
    rw[if_neg (by omega)]
    omega
  ·rw[if_neg h3] at h1
   by_cases h4:f b c=0
   ·have:=h.lt_le (a:=a) (b:=b) (c:=c) (by omega) (by omega)
    rw[if_neg (by omega)]
    omega
   ·rw[if_neg h4] at h2
    have:=h.lt (a:=a) (b:=b) (c:=c) (by omega) (by omega)
    rw[if_neg (by omega)]
    omega
end Pre
theorem bytes_anti:∀ a b:Str,Lib.compareBytes a b=- Lib.compareBytes b a
 | [],[]=>rfl
 | [],_::_=>rfl
 | _::_,[]=>rfl
 | a::a',b::b'=>by
   have ih:=bytes_anti a' b'
   simp only[Lib.compareBytes]
   have h1:¬ (a < b∧b < a):=fun h=>UInt8.lt_irrefl _ (UInt8.lt_trans h.1 h.2)
   by_cases h2:a < b
   ·rw[if_pos h2,if_neg (fun h=>h1 ⟨h2,h⟩),if_pos h2]
   ·by_cases h3:b < a
    ·rw[if_neg h2,if_pos h3,if_pos h3];rfl
    ·rw[if_neg h2,if_neg h3,if_neg h3,if_neg h2];exact ih
theorem bytes_leO:∀ a b c:Str,Lib.compareBytes a b<=0->Lib.compareBytes b c<=0->Lib.compareBytes a c<=0
 | [],_,[],_,_=>by simp[Lib.compareBytes]
 | [],_,_::_,_,_=>by simp[Lib.compareBytes]
 | _::_,[],_,h,_=>by simp[Lib.compareBytes] at h
 | _::_,_::_,[],_,h=>by simp[Lib.compareBytes] at h
 | a::a',b::b',c::c',h1,h2=>by
   have ih:=bytes_leO a' b' c'
   simp only[Lib.compareBytes,UInt8.lt_iff_toNat_lt] at h1 h2 ⊢
   repeat' split at h1
   all_goals repeat' split at h2
   all_goals repeat' split
   all_goals first|omega|exact ih h1 h2
theorem bytes_eq:∀ {a b:Str},Lib.compareBytes a b=0->a=b
 | [],[],_=>rfl
 | [],_::_,h=>by simp[Lib.compareBytes] at h
 | _::_,[],h=>by simp[Lib.compareBytes] at h
 | a::a',b::b',h=>by
   simp only[Lib.compareBytes] at h
   by_cases h2:a < b
   ·rw[if_pos h2] at h;cases h
   ·by_cases h3:b < a
    ·rw[if_neg h2,if_pos h3] at h;cases h
    ·rw[if_neg h2,if_neg h3] at h
     rw[bytes_eq h,show a=b from UInt8.le_antisymm (UInt8.not_lt.1 h3) (UInt8.not_lt.1 h2)]
theorem pre_bytes:Pre Lib.compareBytes:=⟨fun a b=>by have:=bytes_anti a b;omega,bytes_leO⟩
end
section
section
variable (E:List V4)
def enc (s:Sp):Iv:=⟨if s.hf=true then E.idxOf s.f+1 else 0,if s.ht=true then E.idxOf s.t+1 else E.length+1⟩
end
end
section
theorem strict_ext {α:Type} {lt:α->α->Prop} (irr:∀ a,¬ lt a a) (tr:∀ a b c,lt a b->lt b c->lt a c):∀ {a b:List α},a.Pairwise lt->b.Pairwise lt->(∀ x,x∈a↔x∈b)->a=b
 | [],[],_,_,_=>rfl
 | [],y::b,_,_,h=>absurd ((h y).2 (by simp)) (by simp)
 | x::a,[],_,_,h=>absurd ((h x).1 (by simp)) (by simp)
 | x::a,y::b,ha,hb,h=>by
   obtain⟨ha1,ha2⟩:=List.pairwise_cons.1 ha
   obtain⟨hb1,hb2⟩:=List.pairwise_cons.1 hb
   have hxy:x=y:=by
    rcases List.mem_cons.1 ((h x).1 (by simp)) with e|hx
    ·exact e
    ·rcases List.mem_cons.1 ((h y).2 (by simp)) with e|hy
     ·exact e.symm
     ·exact absurd (tr _ _ _ (ha1 y hy) (hb1 x hx)) (irr x)
   subst hxy
   rw[strict_ext irr tr ha2 hb2 fun z=>⟨fun hz=>?_,fun hz=>?_⟩]
   ·rcases List.mem_cons.1 ((h z).1 (by simp[hz])) with rfl|h2
    ·exact absurd (ha1 _ hz) (irr _)
    ·exact h2
   ·rcases List.mem_cons.1 ((h z).2 (by simp[hz])) with rfl|h2
    ·exact absurd (hb1 _ hz) (irr _)
    ·exact h2
def oneEach {α:Type} [DecidableEq α]:List α->List α
 | []=>[]
 | [a]=>[a]
 | a::b::l=>if a=b then oneEach (b::l) else a::oneEach (b::l)
theorem oneEach_mem {α:Type} [DecidableEq α]:∀ (l:List α) (x:α),x∈oneEach l↔x∈l
 | [],_=>Iff.rfl
 | [a],_=>Iff.rfl
 | a::b::l,x=>by
   rw[oneEach]
   by_cases h:a=b
   ·rw[if_pos h,oneEach_mem (b::l) x]
    subst h
    simp
   ·rw[if_neg h,List.mem_cons,oneEach_mem (b::l) x,List.mem_cons (a:=x) (b:=a)]
theorem oneEach_strict {α:Type} [DecidableEq α] {le lt:α->α->Prop} (hlt:∀ a b,le a b->a≠b->lt a b) (htr:∀ a b c,lt a b->le b c->lt a c):∀ (l:List α),l.Pairwise le->(oneEach l).Pairwise lt
 | [],_=>List.Pairwise.nil
 | [a],_=>List.pairwise_singleton _ _
 | a::b::l,h=>by
   obtain⟨h1,h2⟩:=List.pairwise_cons.1 h
   have ih:=oneEach_strict hlt htr (b::l) h2
   rw[oneEach]
   by_cases e:a=b
   ·rw[if_pos e];exact ih
   ·rw[if_neg e]
    refine List.pairwise_cons.2 ⟨fun x hx=>?_,ih⟩
    have hab:=hlt a b (h1 b (by simp)) e
    rcases List.mem_cons.1 ((oneEach_mem (b::l) x).1 hx) with rfl|hx
    ·exact hab
    ·exact htr a b x hab ((List.pairwise_cons.1 h2).1 x hx)
end
end Go.Proofs.YtmpccllnpcbgcaaGreatDoor
