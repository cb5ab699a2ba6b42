/- The condition reader of the program: 'advance'. -/
import Derived.Test.YtmnafaaijglnfaaGreatDoorFr04
namespace Go.Proofs.YtmnafaaijglnfaaGreatDoor
open Go.RowKit
def runN (f:UInt8->Bool):Str->Nat
 | []=>0
 | c::l=>if f c=true then runN f l+1 else 0
theorem runN_le (f:UInt8->Bool):∀ l,runN f l<=l.length
 | []=>Nat.le_refl _
 | c::l=>by
   rw[runN]
   split
   ·have:=runN_le f l;simpa using this
   ·exact Nat.zero_le _
theorem runN_yes (f:UInt8->Bool) (s:ByteArray) {k:Nat} (h:k < s.size) (hf:f s[k]=true):k+runN f ((bs s).drop k)=k+1+runN f ((bs s).drop (k+1)):=by
 rw[drop_cons s k h,runN,if_pos hf];omega
theorem runN_no (f:UInt8->Bool) (s:ByteArray) {k:Nat} (h:k < s.size) (hf:f s[k]=false):k+runN f ((bs s).drop k)=k:=by
 rw[drop_cons s k h,runN,if_neg (by rw[hf];decide)];omega
theorem runN_out (f:UInt8->Bool) (s:ByteArray) {k:Nat} (h:s.size<=k):k+runN f ((bs s).drop k)=k:=by
 rw[List.drop_of_length_le (by rw[bs_length];exact h)];rfl
theorem run_le (f:UInt8->Bool) (s:ByteArray) {k:Nat} (h:k<=s.size):k+runN f ((bs s).drop k)<=s.size:=by
 have:=runN_le f ((bs s).drop k)
 rw[List.length_drop,bs_length] at this
 omega
def signB (c:UInt8):Bool:=c==40||c==41||c==61
def tokB (c:UInt8):Bool:=!blankB c&&!signB c&&!(c==34)
def tokF (s:ByteArray) (σ:St) (i:Nat):St :=
 if h:i < s.size then
  if signB s[i]=true then { σ with p:=i+1,k:=3,a:=i,t:=⟨#[s[i]]⟩ }
  else if s[i]=34 then
   if (qat (bs s) i).2.2=true then { σ with p:=(qat (bs s) i).2.1,k:=2,a:=i,t:=⟨(qat (bs s) i).1.toArray⟩ } else { σ with p:=i,k:=4,a:=i,t:=⟨#[]⟩ }
  else { σ with p:=i+runN tokB ((bs s).drop i),k:=1,a:=i,t:=s.extract i (i+runN tokB ((bs s).drop i)) }
 else { σ with p:=i,k:=0,a:=i,t:=⟨#[]⟩ }
def advF (s:ByteArray) (σ:St):St:=tokF s σ (σ.p+runN blankB ((bs s).drop σ.p))
theorem idx_signs (c:UInt8):decide (Lib.indexByte [40,41,61,34] c < 0)=!(signB c||c==34):=by
 unfold signB
 by_cases h1:c=40
 ·subst h1;decide
 by_cases h2:c=41
 ·subst h2;decide
 by_cases h3:c=61
 ·subst h3;decide
 by_cases h4:c=34
 ·subst h4;decide
 have e:∀ n:UInt8,¬ c=n->(n==c)=false∧(c==n)=false:=fun n h=>⟨by rw[beq_eq_false_iff_ne];exact fun e=>h e.symm,by rw[beq_eq_false_iff_ne];exact h⟩
 simp[Lib.indexByte,e _ h1,e _ h2,e _ h3,e _ h4]
theorem word_signs (c:UInt8) (V:Int) (hV:Lib.indexByte [40,41,61,34] c=V) (w:World) :
 Calls Tryz.prog 162 #[.string ⟨#[40,41,61,34]⟩,.int .u8 c.toNat] w fun e w'=>e=.returned (.int .i64 V)∧w'=w :=
 (indexByte_any ⟨#[40,41,61,34]⟩ c w).mono fun _ _ ⟨h,k⟩=>⟨by rw[h,<-hV],k.symm⟩
def atOf (g:Nat) (w:World):Nat:=match w.cell? ⟨g,1,none⟩ with|some v=>(intOf v).toNat|none=>0
theorem atOf_rd {g:Nat} {w:World} {s:ByteArray} {σ:St} (h:Rd w g s σ):atOf g w=σ.p:=by
 unfold atOf
 rw[h.cell 1]
 simp[intOf]
theorem sign_cases {c:UInt8} (h:signB c=true):c=40∨c=41∨c=61:=by
 unfold signB at h
 simp only[Bool.or_eq_true,beq_iff_eq] at h
 rcases h with (h|h)|h
 ·exact .inl h
 ·exact .inr (.inl h)
 ·exact .inr (.inr h)
theorem sign_no {c:UInt8} (h:¬ signB c=true):¬ c=40∧¬ c=41∧¬ c=61:=by
 refine⟨?_,?_,?_⟩<;>(rintro rfl;exact h (by decide))
theorem sign_enc {c:UInt8} (h:signB c=true):Utf8.encode (c.toNat:Int)=⟨#[c]⟩:=by
 rcases sign_cases h with rfl|rfl|rfl<;>decide +kernel
set_option maxRecDepth 100000 in
set_option maxHeartbeats 8000000 in
theorem advance_any (g:Nat) (s:ByteArray) (σ:St) (w:World) (h:Rd w g s σ) (hs:s.size<=2097152) (hp:σ.p<=s.size) :
 Calls Tryz.prog 98 #[.pointer (some ⟨g,0,none⟩)] w fun e w'=>e=.returned (.tuple #[])∧Rd w' g s (advF s σ)∧ExtX g w w':=by
 obtain⟨p,sk,a0,st,wr0⟩:=σ
 dsimp only at hp
 unfold advF
 dsimp only
 generalize hE:p+runN blankB ((bs s).drop p)=E
 go_enter Tryz.func98,Tryz.ntmps98
 go_wp2
 go_loopw [] (fun wr=>∃ k:Nat,k<=s.size∧Rd wr g s ⟨k,sk,a0,st,wr0⟩∧k+runN blankB ((bs s).drop k)=E∧ExtX g w wr) (fun wr=>s.size - atOf g wr)
 case atStart=>exact⟨p,hp,h,hE,ExtX.refl g w⟩
 case round =>
  obtain⟨k,hk,hrd,hrun,hxr⟩:=hrel
  have c:=hrd.cell;have f:=hrd.free
  by_cases hlt:k < s.size
  ·cases hb:blankB s[k]
   ·have hl2:(k:Int) < s.size:=by omega
    have hne:((k:Int)==(s.size:Int))=false:=by rw[beq_eq_false_iff_ne];omega
    obtain rfl:k=E:=(runN_no blankB s hlt hb).symm.trans hrun
    have HRD:=Hy hrd
    have HXR:=Hy hxr
    have hkw:IntKind.i64.wrap ((k:Int)+1)=(k:Int)+1:=by rw[IntKind.wrap_i64];omega
    clear hrun hrd hxr hE hp h
    by_cases hsg:signB s[k]=true
    ·have htk:tokF s ⟨p,sk,a0,st,wr0⟩ k=⟨k+1,3,k,⟨#[s[k]]⟩,wr0⟩:=by rw[tokF,dif_pos hlt,if_pos hsg]
     have henc:=sign_enc hsg
     have HTK:=Hy htk
     clear htk
     rcases sign_cases hsg with hc|hc|hc
     ·have e1:((s[k].toNat:Int)==40)=true:=by rw[hc];rfl
      clear hc hsg
      go_wp2
      go_quiet (first|(go_at_call 166;refine Calls.quiet_of_same ((isBlank_any _ _).mono fun _ _ ⟨he,hw⟩=>⟨by rw[he,hb],hw.symm⟩)))
      go_wp2
      refine bodyPost_end (results_none rfl _ _ _) rfl ⟨rfl,?_,((((HXR.out.trans (ExtX.ofExt ((Ext.refl _).drewN _))).setG _ _).setG _ _).setG _ _).setG _ _⟩
      rw[HTK.out]
      exact Rd.setT (Rd.setP (HRD.out.ext ((Ext.refl _).drewN _)) (k+1) (by omega)) 3 k _
     ·have e0:((s[k].toNat:Int)==40)=false:=by rw[hc];rfl
      have e1:((s[k].toNat:Int)==41)=true:=by rw[hc];rfl
      clear hc hsg
      go_wp2
      go_quiet (first|(go_at_call 166;refine Calls.quiet_of_same ((isBlank_any _ _).mono fun _ _ ⟨he,hw⟩=>⟨by rw[he,hb],hw.symm⟩)))
      go_wp2
      refine bodyPost_end (results_none rfl _ _ _) rfl ⟨rfl,?_,((((HXR.out.trans (ExtX.ofExt ((Ext.refl _).drewN _))).setG _ _).setG _ _).setG _ _).setG _ _⟩
      rw[HTK.out]
      exact Rd.setT (Rd.setP (HRD.out.ext ((Ext.refl _).drewN _)) (k+1) (by omega)) 3 k _
     ·have e0:((s[k].toNat:Int)==40)=false:=by rw[hc];rfl
      have e2:((s[k].toNat:Int)==41)=false:=by rw[hc];rfl
      have e1:((s[k].toNat:Int)==61)=true:=by rw[hc];rfl
      clear hc hsg
      go_wp2
      go_quiet (first|(go_at_call 166;refine Calls.quiet_of_same ((isBlank_any _ _).mono fun _ _ ⟨he,hw⟩=>⟨by rw[he,hb],hw.symm⟩)))
      go_wp2
      refine bodyPost_end (results_none rfl _ _ _) rfl ⟨rfl,?_,((((HXR.out.trans (ExtX.ofExt ((Ext.refl _).drewN _))).setG _ _).setG _ _).setG _ _).setG _ _⟩
      rw[HTK.out]
      exact Rd.setT (Rd.setP (HRD.out.ext ((Ext.refl _).drewN _)) (k+1) (by omega)) 3 k _
    have hn:=sign_no hsg
    have e40:=byte_no hn.1 40 rfl
    have e41:=byte_no hn.2.1 41 rfl
    have e61:=byte_no hn.2.2 61 rfl
    clear hn
    by_cases hq:s[k]=34
    ·have e34:((s[k].toNat:Int)==34)=true:=by rw[hq];rfl
     have hqa:=fun W=>quotedAtV_any s k W hs (by omega)
     have htk:tokF s ⟨p,sk,a0,st,wr0⟩ k=(if (qat (bs s) k).2.2=true then ⟨(qat (bs s) k).2.1,2,k,⟨(qat (bs s) k).1.toArray⟩,wr0⟩ else ⟨k,4,k,⟨#[]⟩,wr0⟩):=by rw[tokF,dif_pos hlt,if_neg hsg,if_pos hq]
     generalize qat (bs s) k=Q at *
     obtain⟨qt,qe,qo⟩:=Q
     dsimp only at hqa htk
     have HTK:=Hy htk
     have HQA:=Hy hqa
     clear htk hqa hq hsg
     go_wp2
     go_quiet (first|(go_at_call 166;refine Calls.quiet_of_same ((isBlank_any _ _).mono fun _ _ ⟨he,hw⟩=>⟨by rw[he,hb],hw.symm⟩)))
     go_wp2_with fail
     refine (HQA.out _).mono ?_
     rintro e w5 ⟨rfl,hx5⟩
     have hrd5:=(HRD.out.ext ((Ext.refl _).drewN _)).ext hx5
     have hX5:=(HXR.out.trans (ExtX.ofExt ((Ext.refl _).drewN _))).trans (ExtX.ofExt hx5)
     have c5:=hrd5.cell;have f5:=hrd5.free
     have HR5:=Hy hrd5
     have HX5:=Hy hX5
     clear hrd5 hX5 hx5
     cases qo
     ·go_wp2
      refine bodyPost_ret (results_none rfl _ _ _) rfl ⟨rfl,?_,((HX5.out.setG _ _).setG _ _).setG _ _⟩
      rw[HTK.out]
      exact Rd.setT HR5.out 4 k _
     ·go_wp2
      refine bodyPost_end (results_none rfl _ _ _) rfl ⟨rfl,?_,(((HX5.out.setG _ _).setG _ _).setG _ _).setG _ _⟩
      rw[HTK.out]
      exact Rd.setT (Rd.setP HR5.out qe rfl) 2 k _
    ·have e34:=byte_no hq 34 rfl
     have htk:tokF s ⟨p,sk,a0,st,wr0⟩ k=⟨k+runN tokB ((bs s).drop k),1,k,s.extract k (k+runN tokB ((bs s).drop k)),wr0⟩:=by rw[tokF,dif_pos hlt,if_neg hsg,if_neg hq]
     have HTK:=Hy htk
     clear htk hq hsg
     obtain⟨F,hF⟩:∃ F,k+runN tokB ((bs s).drop k)=F:=⟨_,rfl⟩
     obtain⟨wo,rfl⟩:∃ wo,wo=wr:=⟨_,rfl⟩
     go_wp2
     go_quiet (first|(go_at_call 166;refine Calls.quiet_of_same ((isBlank_any _ _).mono fun _ _ ⟨he,hw⟩=>⟨by rw[he,hb],hw.symm⟩)))
     go_wp2
     go_loopw [] (fun wr=>∃ j:Nat,k<=j∧j<=s.size∧Rd wr g s ⟨j,sk,a0,st,wr0⟩∧j+runN tokB ((bs s).drop j)=F∧ExtX g w wr) (fun wr=>s.size - atOf g wr)
     case atStart=>exact⟨k,Nat.le_refl _,by omega,HRD.out.ext ((Ext.refl _).drewN _),hF,HXR.out.trans (ExtX.ofExt ((Ext.refl _).drewN _))⟩
     case round =>
      obtain⟨j,hkj,hjs,hrdj,hrunj,hxj⟩:=hrel
      have cj:=hrdj.cell;have fj:=hrdj.free
      by_cases hlj:j < s.size
      ·have hl3:(j:Int) < s.size:=by omega
       cases hb2:blankB s[j]
       ·have hix:=idx_signs s[j]
        obtain⟨V,hV⟩:∃ V,Lib.indexByte [40,41,61,34] s[j]=V:=⟨_,rfl⟩
        rw[hV] at hix
        have HV:=Hy hV
        clear hV
        cases hsj:(signB s[j]||s[j]==34)
        ·rw[hsj] at hix
         have hlx:=of_decide_eq_true hix
         have hwb:tokB s[j]=true:=by
          simp only[Bool.or_eq_false_iff] at hsj
          unfold tokB
          rw[hb2,hsj.1,hsj.2];rfl
         have hnx:=(runN_yes tokB s hlj hwb).symm.trans hrunj
         have HNX:=Hy hnx
         have hz:=atOf_rd hrdj
         have HRJ:=Hy hrdj
         have HXJ:=Hy hxj
         clear hnx hrdj hxj hsj hwb hix hrunj
         skip
         go_wp2
         go_quiet (first|(go_at_call 166;refine Calls.quiet_of_same ((isBlank_any _ _).mono fun _ _ ⟨he,hw⟩=>⟨by rw[he,hb2],hw.symm⟩))|(go_at_call 162;refine Calls.quiet_of_same (word_signs _ _ HV.out _)))
         go_wp2
         go_roundw
         case rel=>exact⟨j+1,by omega,by omega,Rd.setP (HRJ.out.ext ((Ext.refl _).drewN _)) (j+1) (by omega),HNX.out,(HXJ.out.trans (ExtX.ofExt ((Ext.refl _).drewN _))).setG _ _⟩
         case measure =>
          rw[hz,atOf_rd (Rd.setP (HRJ.out.ext ((Ext.refl _).drewN _)) (j+1) (by omega))]
          dsimp only
          omega
        ·rw[hsj] at hix
         have hlx:=of_decide_eq_false hix
         have hwb:tokB s[j]=false:=by
          simp only[Bool.or_eq_true] at hsj
          unfold tokB
          rcases hsj with h|h<;>rw[h]<;>simp
         clear hix hsj
         obtain rfl:j=F:=(runN_no tokB s hlj hwb).symm.trans hrunj
         have HRJ:=Hy hrdj
         have HXJ:=Hy hxj
         clear hrdj hxj hrunj
         have hkj2:(k:Int)<=j:=by omega
         have hjs2:(j:Int)<=s.size:=by omega
         go_wp2
         go_quiet (first|(go_at_call 166;refine Calls.quiet_of_same ((isBlank_any _ _).mono fun _ _ ⟨he,hw⟩=>⟨by rw[he,hb2],hw.symm⟩))|(go_at_call 162;refine Calls.quiet_of_same (word_signs _ _ HV.out _)))
         go_wp2
         go_region
         all_goals
          go_wp2
          refine bodyPost_end (results_none rfl _ _ _) rfl ⟨rfl,?_,(((HXJ.out.trans (ExtX.ofExt Ext.au)).setG _ _).setG _ _).setG _ _⟩
          rw[HTK.out,hF]
          exact Rd.setT (HRJ.out.ext Ext.au) 1 k _
       ·have hwb:tokB s[j]=false:=by unfold tokB;rw[hb2];rfl
        obtain rfl:j=F:=(runN_no tokB s hlj hwb).symm.trans hrunj
        have HRJ:=Hy hrdj
        have HXJ:=Hy hxj
        clear hrdj hxj hrunj
        have hkj2:(k:Int)<=j:=by omega
        have hjs2:(j:Int)<=s.size:=by omega
        go_wp2
        go_quiet (first|(go_at_call 166;refine Calls.quiet_of_same ((isBlank_any _ _).mono fun _ _ ⟨he,hw⟩=>⟨by rw[he,hb2],hw.symm⟩)))
        go_wp2
        go_region
        all_goals
         go_wp2
         refine bodyPost_end (results_none rfl _ _ _) rfl ⟨rfl,?_,(((HXJ.out.trans (ExtX.ofExt Ext.au)).setG _ _).setG _ _).setG _ _⟩
         rw[HTK.out,hF]
         exact Rd.setT (HRJ.out.ext Ext.au) 1 k _
      ·skip
       obtain rfl:j=F:=(runN_out tokB s (by omega)).symm.trans hrunj
       have HRJ:=Hy hrdj
       have HXJ:=Hy hxj
       clear hrdj hxj hrunj
       have hkj2:(k:Int)<=j:=by omega
       have hjs2:(j:Int)<=s.size:=by omega
       go_wp2
       go_quiet (fail)
       go_wp2
       go_region
       all_goals
        go_wp2
        refine bodyPost_end (results_none rfl _ _ _) rfl ⟨rfl,?_,(((HXJ.out.trans (ExtX.ofExt Ext.au)).setG _ _).setG _ _).setG _ _⟩
        rw[HTK.out,hF]
        exact Rd.setT (HRJ.out.ext Ext.au) 1 k _
   ·have hnx:=(runN_yes blankB s hlt hb).symm.trans hrun
    have hl2:(k:Int) < s.size:=by omega
    have HNX:=Hy hnx
    have hz:=atOf_rd hrd
    have hrd2:=fun n=>Rd.setP (hrd.ext ((Ext.refl wr).drewN n)) (k+1) (z:=(k:Int)+1) (by omega)
    have HRD:=Hy hrd2
    have HXR:=Hy hxr
    clear hrun hnx hrd hrd2 hxr
    go_wp2
    go_quiet (first|(go_at_call 166;refine Calls.quiet_of_same ((isBlank_any _ _).mono fun _ _ ⟨he,hw⟩=>⟨by rw[he,hb],hw.symm⟩)))
    go_wp2
    go_roundw
    case rel=>exact⟨k+1,by omega,HRD.out _,HNX.out,(HXR.out.trans (ExtX.ofExt ((Ext.refl _).drewN _))).setG _ _⟩
    case measure =>
     rw[hz,atOf_rd (HRD.out _)]
     dsimp only
     omega
  ·have hne:((k:Int)==(s.size:Int))=true:=by rw[beq_iff_eq];omega
   obtain rfl:k=E:=(runN_out blankB s (by omega)).symm.trans hrun
   have htk:tokF s ⟨p,sk,a0,st,wr0⟩ k=⟨k,0,k,⟨#[]⟩,wr0⟩:=by rw[tokF,dif_neg hlt]
   go_wp2
   go_quiet (fail)
   go_wp2
   refine bodyPost_ret (results_none rfl _ _ _) rfl ⟨rfl,?_,(((hxr.trans (ExtX.ofExt ((Ext.refl _).drewN _))).setG _ _).setG _ _).setG _ _⟩
   rw[htk]
   exact Rd.setT (hrd.ext ((Ext.refl _).drewN _)) 0 k _
end Go.Proofs.YtmnafaaijglnfaaGreatDoor
