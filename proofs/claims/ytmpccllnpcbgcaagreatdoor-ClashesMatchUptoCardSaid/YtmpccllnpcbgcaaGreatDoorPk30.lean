/- Contracts of pack.ChangeOf, ItemFault. Places as keys; what is near a file. -/
import Derived.Test.YtmpccllnpcbgcaaGreatDoorPk26
import Derived.Test.YtmpccllnpcbgcaaGreatDoorPk29
import Derived.DeepKeys3
namespace Go.Proofs.YtmpccllnpcbgcaaGreatDoor
section
open Go.RowKit
def chgOf (x:Itm):Itm :=
 if x.kind=5 then ⟨3,⟨#[]⟩,⟨#[]⟩,false,x.key,x.val,⟨#[]⟩,⟨#[]⟩,false,false⟩
 else if x.kind=6 then ⟨5,⟨#[]⟩,⟨#[]⟩,false,⟨#[]⟩,⟨#[]⟩,x.sn,x.sp,x.auto,x.on⟩
 else ⟨1,x.path,x.data,x.runs,⟨#[]⟩,⟨#[]⟩,⟨#[]⟩,⟨#[]⟩,false,false⟩
theorem chgOf_small {x:Itm} (h:SmallI x):SmallI (chgOf x):=by
 unfold chgOf
 split
 ·exact⟨Nat.zero_le _,Nat.zero_le _,h.key,h.val,Nat.zero_le _,Nat.zero_le _⟩
 ·split
  ·exact⟨Nat.zero_le _,Nat.zero_le _,Nat.zero_le _,Nat.zero_le _,h.sn,h.sp⟩
  ·exact⟨h.path,h.data,Nat.zero_le _,Nat.zero_le _,Nat.zero_le _,Nat.zero_le _⟩
set_option maxHeartbeats 2000000 in
set_option maxRecDepth 100000 in
theorem ChangeOf_any (x:Itm) (w:World) :
 Calls Tryz.prog 267 #[itmV x] w fun e w'=>e=.returned (itmV (chgOf x))∧Ext w w':=by
 have HK:=Hy (chgOf.eq_1 x)
 generalize chgOf x=K at *
 obtain⟨k,ip,id,ir,ik,iv,isn,isp,ia,io⟩:=x
 dsimp only[itmV] at *
 by_cases h5:k=5
 ·subst h5
  go_enter Tryz.func267,Tryz.ntmps267
  go_wp2
  exact bodyPost_ret (v:=itmV ⟨3,⟨#[]⟩,⟨#[]⟩,false,ik,iv,⟨#[]⟩,⟨#[]⟩,false,false⟩) (by simp[results,Tryz.results267,go_sem]) rfl ⟨by rw[HK.out];rfl,((Ext.refl w).alloc _).alloc _⟩
 ·by_cases h6:k=6
  ·subst h6
   go_enter Tryz.func267,Tryz.ntmps267
   go_wp2
   exact bodyPost_ret (v:=itmV ⟨5,⟨#[]⟩,⟨#[]⟩,false,⟨#[]⟩,⟨#[]⟩,isn,isp,ia,io⟩) (by simp[results,Tryz.results267,go_sem]) rfl ⟨by rw[HK.out];rfl,((Ext.refl w).alloc _).alloc _⟩
  ·have e5:(k==5)=false:=by simpa using h5
   have e6:(k==6)=false:=by simpa using h6
   have H5:=Hy h5
   have H6:=Hy h6
   clear h5 h6
   go_enter Tryz.func267,Tryz.ntmps267
   go_wp2
   exact bodyPost_ret (v:=itmV ⟨1,ip,id,ir,⟨#[]⟩,⟨#[]⟩,⟨#[]⟩,⟨#[]⟩,false,false⟩) (by simp[results,Tryz.results267,go_sem]) rfl ⟨by rw[HK.out,if_neg H5.out,if_neg H6.out],((Ext.refl w).alloc _).alloc _⟩
theorem emp_zero {s:ByteArray}:s.size=0↔s=⟨#[]⟩:=by
 constructor
 ·intro h
  exact bs_inj (show bs s=[] from List.eq_nil_of_length_eq_zero (by rw[bs_length];exact h))
 ·rintro rfl;rfl
def keptI (x:Itm):Itm:={ chgOf x with kind:=x.kind }
theorem kept_file {x:Itm} (h5:x.kind≠5) (h6:x.kind≠6):(x=keptI x)↔(noS x&&noV x)=true:=by
 unfold keptI chgOf
 rw[if_neg h5,if_neg h6]
 obtain⟨k,ip,id,ir,ik,iv,isn,isp,ia,io⟩:=x
 simp[noS,noV,and_assoc]
 exact Iff.rfl
theorem kept_set {x:Itm} (h5:x.kind=5):(x=keptI x)↔(noF x&&noV x)=true:=by
 unfold keptI chgOf
 rw[if_pos h5]
 obtain⟨k,ip,id,ir,ik,iv,isn,isp,ia,io⟩:=x
 simp[noF,noV,and_assoc]
 exact Iff.rfl
theorem kept_svc {x:Itm} (h6:x.kind=6):(x=keptI x)↔(noF x&&noS x)=true:=by
 unfold keptI chgOf
 rw[if_neg (by omega),if_pos h6]
 obtain⟨k,ip,id,ir,ik,iv,isn,isp,ia,io⟩:=x
 simp[noF,noS,and_assoc]
 exact Iff.rfl
theorem cg_chg (x:Itm):chgOf x=keptC (chgOf x):=by
 unfold chgOf
 split
 ·rfl
 ·split<;>rfl
theorem cg_own (x:Itm):cgErr (chgOf x)=ownC (chgOf x):=by
 have hk:¬ ((chgOf x).kind < 1∨6 < (chgOf x).kind):=by
  unfold chgOf
  split
  ·dsimp only;omega
  ·split<;>(dsimp only;omega)
 unfold cgErr
 rw[if_neg hk,if_pos (cg_chg x)]
 by_cases h:ownC (chgOf x)=0
 ·rw[if_pos h,h]
 ·rw[if_neg h]
theorem firstI_two (a b c:Int):firstI [a,b,c]=if firstI [a,b]≠0 then firstI [a,b] else c:=by
 by_cases ha:a=0<;>by_cases hb:b=0<;>simp[firstI,ha,hb]<;>exact fun h=>h.symm
theorem firstI_one (a c:Int):firstI [a,c]=if a≠0 then a else c:=by
 by_cases ha:a=0<;>simp[firstI,ha]<;>exact fun h=>h.symm
theorem own_set {x:Itm} (h:x.kind=5):ownC (chgOf x)=firstI [(if pathL (bs x.key)=true then 0 else 5),(if valueL (bs x.val)=true then 0 else 2)]:=by
 unfold chgOf;rw[if_pos h];rfl
theorem own_svc {x:Itm} (h:x.kind=6):ownC (chgOf x)=if (nameL (bs x.sn)&&pathL (bs x.sp))=true then 0 else 5:=by
 unfold chgOf;rw[if_neg (by omega),if_pos h];rfl
theorem own_file {x:Itm} (h5:x.kind≠5) (h6:x.kind≠6):ownC (chgOf x)=firstI [(if pathL (bs x.path)=true then 0 else 5),(if 65536 < x.data.size then 4 else 0)]:=by
 unfold chgOf;rw[if_neg h5,if_neg h6];rfl
theorem itErr_eq (x:Itm):itErr x=if x.kind < 1∨6 < x.kind then 1 else if cgErr (chgOf x)≠0 then cgErr (chgOf x) else if (!decide (x=keptI x)||x.on)=true then 2 else 0:=by
 unfold itErr
 by_cases hk:x.kind < 1∨6 < x.kind
 ·rw[if_pos hk,if_pos hk]
 rw[if_neg hk,if_neg hk,cg_own]
 by_cases h5:x.kind=5
 ·rw[if_pos h5,own_set h5,firstI_two]
  have e:(!decide (x=keptI x)||x.on)=!(noF x&&noV x):=by
   cases hb:(noF x&&noV x)
   ·rw[decide_eq_false (by rw[kept_set h5,hb];decide)];rfl
   ·rw[decide_eq_true ((kept_set h5).2 hb)]
    simp only[noV,Bool.and_eq_true,Bool.not_eq_true'] at hb
    rw[hb.2.2];rfl
  rw[e]
  cases (noF x&&noV x)<;>rfl
 by_cases h6:x.kind=6
 ·rw[if_neg h5,if_pos h6,own_svc h6,firstI_one]
  have e:(!decide (x=keptI x)||x.on)=!(noF x&&noS x&&!x.on):=by
   cases hb:(noF x&&noS x)
   ·rw[decide_eq_false (by rw[kept_svc h6,hb];decide)];rfl
   ·rw[decide_eq_true ((kept_svc h6).2 hb)]
    cases x.on<;>rfl
  rw[e]
  cases (noF x&&noS x&&!x.on)<;>rfl
 ·rw[if_neg h5,if_neg h6,own_file h5 h6,firstI_two]
  have e:(!decide (x=keptI x)||x.on)=!(noS x&&noV x):=by
   cases hb:(noS x&&noV x)
   ·rw[decide_eq_false (by rw[kept_file h5 h6,hb];decide)];rfl
   ·rw[decide_eq_true ((kept_file h5 h6).2 hb)]
    simp only[noV,Bool.and_eq_true,Bool.not_eq_true'] at hb
    rw[hb.2.2];rfl
  rw[e]
  cases (noS x&&noV x)<;>rfl
set_option maxHeartbeats 4000000 in
set_option maxRecDepth 100000 in
theorem ItemFault_any (x:Itm) (w:World) (hg:Good w) (hs:SmallI x) :
 Calls Tryz.prog 206 #[itmV x] w fun e w'=>e=.returned (.int .i64 (itErr x))∧Ext w w':=by
 have C1:=Hy (fun W=>ChangeOf_any x W)
 have C2:=Hy (fun W (h:Ext w W)=>CheckChange_any (chgOf x) W (hg.ext h) (chgOf_small hs))
 have HQ:=Hy (fun W=>run_neqi x (keptI x) W)
 have HE:=Hy (itErr_eq x)
 clear hg hs
 rw[show keptI x=⟨x.kind,(chgOf x).path,(chgOf x).data,(chgOf x).runs,(chgOf x).key,(chgOf x).val,(chgOf x).sn,(chgOf x).sp,(chgOf x).auto,(chgOf x).on⟩ from rfl] at HQ HE
 generalize cgErr (chgOf x)=F at *
 generalize itErr x=E at *
 generalize chgOf x=y at *
 obtain⟨k,ip,id,ir,ik,iv,isn,isp,ia,io⟩:=x
 obtain⟨y0,y1,y2,y3,y4,y5,y6,y7,y8,y9⟩:=y
 dsimp only[itmV] at *
 generalize decide ((⟨k,ip,id,ir,ik,iv,isn,isp,ia,io⟩:Itm)=⟨k,y1,y2,y3,y4,y5,y6,y7,y8,y9⟩)=D at *
 have b0:=Blk.new w 104 #[.int .i64 k,.string ip,.string id,.bool ir,.string ik,.string iv,.string isn,.string isp,.bool ia,.bool io]
 have hx0:Ext w (w.alloc (.cells #[.int .i64 k,.string ip,.string id,.bool ir,.string ik,.string iv,.string isn,.string isp,.bool ia,.bool io] 104)):=(Ext.refl w).alloc _
 generalize hW:w.alloc (.cells #[.int .i64 k,.string ip,.string id,.bool ir,.string ik,.string iv,.string isn,.string isp,.bool ia,.bool io] 104)=W0 at *
 have HW:=Hy hW
 clear hW
 have e0:=b0.cell
 by_cases hk:k < 1∨6 < k
 ·have HE1:=Hy (show E=1 from by rw[HE.out,if_pos hk])
  rcases hk with hk|hk
  all_goals
   go_enter Tryz.func206,Tryz.ntmps206
   go_wp2_with fail
   rw[HW.out]
   go_wp2
   go_ret
   exact⟨ret_int HE1.out.symm,hx0⟩
 have HE1:=Hy (HE.out.trans (if_neg hk))
 have hk1:1<=k:=by omega
 have hk6:k<=6:=by omega
 clear hk HE
 go_enter Tryz.func206,Tryz.ntmps206
 go_wp2_with fail
 rw[HW.out]
 go_wp2_with fail
 refine (C1.out _).mono ?_
 rintro e w1 ⟨rfl,hx1⟩
 have hxw1:=hx0.trans hx1
 have bY:=Blk.new w1 69 #[.int .i64 y0,.string y1,.string y2,.bool y3,.string y4,.string y5,.string y6,.string y7,.bool y8,.bool y9]
 have hxa:Ext w (w1.alloc (.cells #[.int .i64 y0,.string y1,.string y2,.bool y3,.string y4,.string y5,.string y6,.string y7,.bool y8,.bool y9] 69)):=hxw1.alloc _
 have b1:=(b0.ext hx1).alloc (.cells #[.int .i64 y0,.string y1,.string y2,.bool y3,.string y4,.string y5,.string y6,.string y7,.bool y8,.bool y9] 69)
 generalize hW1:w1.alloc (.cells #[.int .i64 y0,.string y1,.string y2,.bool y3,.string y4,.string y5,.string y6,.string y7,.bool y8,.bool y9] 69)=W1 at *
 have HW1:=Hy hW1
 clear hW1 e0
 have cY:=bY.cell;have lY:=bY.lt
 go_wp2_with fail
 rw[HW1.out]
 refine (C2.out _ hxa).mono ?_
 rintro e w2 ⟨rfl,hx2⟩
 have hxw2:=hxa.trans hx2
 have bY2:=bY.ext hx2
 have b2:=b1.ext hx2
 clear cY lY
 by_cases hF:F=0
 rotate_left
 ·have hne:(F != 0)=true:=by rw[bne_iff_ne];exact hF
  have HE2:=Hy (HE1.out.trans (if_pos hF))
  clear hF
  go_wp2
  go_ret
  exact⟨ret_int HE2.out.symm,hxw2⟩
 subst hF
 have HE2:=Hy (HE1.out.trans (if_neg (by simp)))
 have cY:=bY2.cell;have lY:=bY2.lt;have c0:=b2.cell;have l0:=b2.lt
 have hq:=HQ.out
 cases D
 ·go_wp2
  go_ret
  exact⟨ret_int (by rw[HE2.out];rfl),hxw2.alloc _⟩
 ·cases io
  all_goals
   go_wp2
   go_ret
   exact⟨ret_int (by rw[HE2.out];rfl),hxw2.alloc _⟩
end
section
open Go.RowKit
open Go.Maps (Keyed has)
theorem place_keyed:Keyed Tryz.prog 269:=Keyed.of_law (deep_law (m:=2) (by omega) (by kernel_rfl) (by kernel_rfl) (by kernel_rfl))
theorem place_cells:Tryz.prog.cellsOf 269=2:=by kernel_rfl
theorem place_lits (m:Nat) (a b:Value):Tryz.prog.keyLits (m+2) 269 [a,b]=([Tryz.prog.keyLits (m+1) 3 [a],Tryz.prog.keyLits (m+1) 9 [b]].mapM id).map List.flatten:=by
 have ci:Tryz.prog.cellsOf 3=1:=by kernel_rfl
 have cs:Tryz.prog.cellsOf 9=1:=by kernel_rfl
 have hd:∀ n t l,Tryz.prog.keyLits (n+1) t l=_:=fun n t l=>Program.keyLits.eq_def Tryz.prog (n+1) t l
 rw[hd (m+1) 269]
 simp only[Tryz.underlying269,place_cells]
 simp[ci,cs]
theorem pair_place:PairT 269:=⟨⟨_,Tryz.underlying269⟩,place_cells,by kernel_rfl,place_keyed,place_lits⟩
theorem spot_keyed:Keyed Tryz.prog 214:=Keyed.of_law (deep_law (m:=2) (by omega) (by kernel_rfl) (by kernel_rfl) (by kernel_rfl))
theorem spot_cells:Tryz.prog.cellsOf 214=2:=by kernel_rfl
theorem spot_lits (m:Nat) (a b:Value):Tryz.prog.keyLits (m+2) 214 [a,b]=([Tryz.prog.keyLits (m+1) 3 [a],Tryz.prog.keyLits (m+1) 9 [b]].mapM id).map List.flatten:=by
 have ci:Tryz.prog.cellsOf 3=1:=by kernel_rfl
 have cs:Tryz.prog.cellsOf 9=1:=by kernel_rfl
 have hd:∀ n t l,Tryz.prog.keyLits (n+1) t l=_:=fun n t l=>Program.keyLits.eq_def Tryz.prog (n+1) t l
 rw[hd (m+1) 214]
 simp only[Tryz.underlying214,spot_cells]
 simp[ci,cs]
theorem pair_spot:PairT 214:=⟨⟨_,Tryz.underlying214⟩,spot_cells,by kernel_rfl,spot_keyed,spot_lits⟩
def spotP (x:Itm):Int × ByteArray:=(spotK x,spotN x)
theorem spotK_cases (x:Itm):spotK x=1∨spotK x=2∨spotK x=3:=by
 unfold spotK
 split
 ·exact .inr (.inl rfl)
 ·split
  ·exact .inr (.inr rfl)
  ·exact .inl rfl
theorem okP_spot {x:Itm} (h:SmallI x):OkP (spotP x):=by
 constructor
 ·show (Lit.int .i64 (spotK x)).wf=true
  rcases spotK_cases x with e|e|e<;>rw[e]<;>decide
 ·show (spotN x).size<=maxLen
  have:(spotN x).size<=2097152:=by
   unfold spotN
   split
   ·exact h.key
   ·split
    ·exact h.sn
    ·exact h.path
  simp only[maxLen];omega
theorem okP_file {p:ByteArray} (h:p.size<=2097152):OkP (1,p):=⟨(by show (Lit.int .i64 1).wf=true;decide),by show p.size<=maxLen;simp only[maxLen];omega⟩
def inP (k:Int × ByteArray) (L:List (Int × ByteArray)):Bool:=L.any fun x=>decide (x.1=k.1)&&decide (x.2=k.2)
theorem inP_iff {k:Int × ByteArray} {L:List (Int × ByteArray)}:inP k L=true↔k∈L:=by
 unfold inP
 rw[List.any_eq_true]
 constructor
 ·rintro ⟨x,hx,h⟩
  rw[Bool.and_eq_true,decide_eq_true_eq,decide_eq_true_eq] at h
  have:x=k:=Prod.ext h.1 h.2
  rw[<-this];exact hx
 ·intro h
  exact⟨k,h,by simp⟩
theorem inP_no {k:Int × ByteArray} {L:List (Int × ByteArray)}:inP k L=false↔k ∉ L:=by rw[<-inP_iff,Bool.not_eq_true]
def markF (L:List (Int × ByteArray)):Int × ByteArray->Option Value:=fun k=>if inP k L=true then some (.bool true) else none
theorem markF_add (L:List (Int × ByteArray)) (k:Int × ByteArray):setK (markF L) k (.bool true)=markF (L++[k]):=by
 funext x
 by_cases e:x=k
 ·subst e
  rw[setK_same,markF,if_pos (inP_iff.2 (by simp))]
 ·rw[setK_ne e,markF,markF]
  have:inP x (L++[k])=inP x L:=by
   rw[Bool.eq_iff_iff,inP_iff,inP_iff]
   simp[e]
  rw[this]
theorem markF_get (L:List (Int × ByteArray)) (k:Int × ByteArray):(markF L k).getD (.bool false)=.bool (inP k L):=by
 unfold markF
 cases inP k L<;>rfl
theorem spotE_mem (l:List Itm) (x:Itm):l.any (spotE x)=inP (spotP x) (l.map spotP):=by
 rw[Bool.eq_iff_iff,List.any_eq_true,inP_iff,List.mem_map]
 constructor
 ·rintro ⟨y,hy,h⟩
  unfold spotE at h
  rw[Bool.and_eq_true,decide_eq_true_eq,decide_eq_true_eq] at h
  exact⟨y,hy,by unfold spotP;rw[h.1,h.2]⟩
 ·rintro ⟨y,hy,h⟩
  unfold spotP at h
  rw[Prod.mk.injEq] at h
  exact⟨y,hy,by unfold spotE;rw[h.1,h.2];simp⟩
def twiceAt (l:List Itm) (i:Nat):Int:=if (l.take i).any (spotE (l.getD i zeroI))=true then 6 else 0
theorem getD_it {l:List Itm} {k:Nat} (hk:k < l.length):l.getD k zeroI=l[k]:=by simp[List.getD,List.getElem?_eq_getElem hk]
theorem twiceAt_eq {l:List Itm} {k:Nat} (hk:k < l.length):twiceAt l k=if inP (spotP l[k]) ((l.take k).map spotP)=true then 6 else 0:=by
 unfold twiceAt
 rw[getD_it hk,spotE_mem]
theorem fileAt_eq {l:List Itm} {k:Nat} (hk:k < l.length):fileAt l k=if decide (spotK l[k]=1)=false then 0 else if nearF l l[k].path=true then 11 else if ownL (bs l[k].path)=true then 17 else 0:=by
 unfold fileAt
 rw[getD_it hk]
 by_cases h:spotK l[k]=1<;>simp[h]
theorem ContainsIt_any (l:List Itm) (A:Option Addr) (n c:Nat) (f:FuncId) (cp:Array Value) (p:Itm->Bool) (w:World) (hn:l.length=n) (hr:RdI w A l) (hl:n<=2097152)
 (hen:∀ xs w,Sem.run Tryz.prog (callFunc f xs) w=.ok (.enter f xs) w)
 (hp:∀ x∈l,∀ W,Ext w W->Calls Tryz.prog f (#[itmV x]++cp) W fun e w'=>e=.returned (.bool (p x))∧Ext W w') :
 Calls Tryz.prog 213 #[.slice A n c,.func (.func f) #[] cp] w fun e w'=>e=.returned (.bool (l.any p))∧Ext w w':=by
 subst hn
 rw[<-any_all l p zeroI]
 rcases Nat.eq_zero_or_pos l.length with h0|h0
 ·exact ContainsFuncIt_any A l.length c 0 0 (fun _=>.bool false) _ _ _ w (fun h=>by omega) hl hen (fun q hq=>by omega) (fun q hq=>by omega)
 ·obtain⟨b,o,rfl,hX⟩:=hr (fun e=>by rw[e] at h0;exact absurd h0 (Nat.lt_irrefl _))
  refine ContainsFuncIt_any _ l.length c b o (fun j=>itmV (l.getD j zeroI)) _ _ _ w (fun _=>rfl) hl hen (fun q hq W hW=>?_) (fun q hq W hW=>?_)
  ·rw[getD_it hq]
   exact load_It ((hX q hq).ext hW)
  ·rw[getD_it hq]
   exact hp _ (List.getElem_mem hq) W hW
set_option maxHeartbeats 4000000 in
set_option maxRecDepth 100000 in
theorem nearC_any (x:Itm) (g:Nat) (p:ByteArray) (w:World) (hx:x.path.size<=2097152) (hp:p.size<=2097152) (hc:w.cell? ⟨g,0,none⟩=some (.string p)) :
 Calls Tryz.prog 214 (#[itmV x]++#[.pointer (some ⟨g,0,none⟩)]) w fun e w'=>e=.returned (.bool (decide (spotK x=1)&&(belowL (bs p) (bs x.path)||belowL (bs x.path) (bs p))))∧Ext w w':=by
 have CF:=Hy (fun W=>isFile_any x W)
 have CB1:=Hy (fun W=>IsBelow_any p x.path W hx)
 have CB2:=Hy (fun W=>IsBelow_any x.path p W hp)
 generalize decide (spotK x=1)=K at *
 generalize belowL (bs p) (bs x.path)=D1 at *
 generalize belowL (bs x.path) (bs p)=D2 at *
 obtain⟨xk,xp,xd,xr,xe,xv,xs,xq,xa,xo⟩:=x
 dsimp only[itmV] at *
 have hx0:Ext w (w.alloc (.cells #[.int .i64 xk,.string xp,.string xd,.bool xr,.string xe,.string xv,.string xs,.string xq,.bool xa,.bool xo] 104)):=(Ext.refl w).alloc _
 have b0:=Blk.new w 104 #[.int .i64 xk,.string xp,.string xd,.bool xr,.string xe,.string xv,.string xs,.string xq,.bool xa,.bool xo]
 have hc0:=hx0.cell hc
 have hg:=lt_of_cell hc
 generalize hW0:w.alloc (.cells #[.int .i64 xk,.string xp,.string xd,.bool xr,.string xe,.string xv,.string xs,.string xq,.bool xa,.bool xo] 104)=W0 at *
 have HW0:=Hy hW0
 clear hW0
 have e0:=b0.cell;have l0:=b0.lt;have hg0:=lt_of_cell hc0
 go_enter Tryz.func214,Tryz.ntmps214
 go_wp2_with fail
 rw[HW0.out]
 refine (CF.out _).mono ?_
 rintro e w1 ⟨rfl,hx1⟩
 have e1:=(b0.ext hx1).cell;have l1:=(b0.ext hx1).lt;have hc1:=hx1.cell hc0;have hg1:=lt_of_cell hc1
 clear e0 l0 hc0 hg0
 cases K with
 | false =>
   go_wp2
   go_ret
   exact⟨rfl,hx0.trans hx1⟩
 | true =>
   go_wp2_with fail
   refine (CB1.out _).mono ?_
   rintro e w' ⟨rfl,rfl⟩
   cases D1 with
   | true =>
     go_wp2
     go_ret
     exact⟨rfl,hx0.trans hx1⟩
   | false =>
     go_wp2_with fail
     refine (CB2.out _).mono ?_
     rintro e w' ⟨rfl,rfl⟩
     go_wp2
     go_ret
     exact⟨rfl,hx0.trans hx1⟩
end
end Go.Proofs.YtmpccllnpcbgcaaGreatDoor
