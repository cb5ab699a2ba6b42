/- Offers and feeds: their errors in plain words, and what memory holds of them. -/
import Derived.Test.YtmnafaaijglnfaaGreatDoorOm24
namespace Go.Proofs.YtmnafaaijglnfaaGreatDoor
open Go.RowKit
structure Of where
 name:ByteArray
 vv:V4
 sum:ByteArray
 fr:List Sp
 nw:Bool
 wh:Cd
 bg:Int
 st:Int
 gr:Int
 hold:Bool
 urg:Bool
 back:Bool
def zeroO:Of:=⟨⟨#[]⟩,⟨0,0,0,⟨#[]⟩⟩,⟨#[]⟩,[],false,zeroC,0,0,0,false,false,false⟩
def hexB (c:UInt8):Bool:=(decide (48<=c.toNat)&&decide (c.toNat<=57))||(decide (97<=c.toNat)&&decide (c.toNat<=102))
def sumL (s:Str):Bool:=s.all hexB&&decide (s.length=16)
def inI (n lo hi:Int):Bool:=decide (lo<=n)&&decide (n<=hi)
def ofErr (o:Of):Int:=firstI [(if nameL (bs o.name)=true then 0 else 5),o.vv.err,(if sumL (bs o.sum)=true then 0 else 2),rngErr o.fr,checkC o.wh,(if (inI o.bg 0 1099511627776&&inI o.st 0 1000&&inI o.gr 0 1000)=true then 0 else 3)]
def ofCmp (a b:Of):Int:=if Lib.compareBytes (bs a.name) (bs b.name)=0 then orderL a.vv.a1 a.vv.a2 a.vv.a3 (bs a.vv.a) b.vv.a1 b.vv.a2 b.vv.a3 (bs b.vv.a) else Lib.compareBytes (bs a.name) (bs b.name)
def ofGap (p o:Of):Int:=if 0<=ofCmp p o then 7 else 0
def ofAt (l:List Of) (i:Nat):Int:=if ofErr (l.getD i zeroO)≠0 then ofErr (l.getD i zeroO) else if i=0 then 0 else ofGap (l.getD (i - 1) zeroO) (l.getD i zeroO)
def ofErrs (l:List Of):List Int:=(List.range l.length).map (ofAt l)
def feHead (ch:ByteArray) (sr tm:Int) (n:Nat):Int:=firstI [(if nameL (bs ch)=true then 0 else 5),(if (inI sr 1 1099511627776&&inI tm 0 1099511627776)=true then 0 else 3),(if 500 < n then 4 else 0)]
def feErr (ch:ByteArray) (sr tm:Int) (l:List Of):Int:=firstI (feHead ch sr tm l.length::ofErrs l)
theorem cb_less:∀ a b:Str,Op.bytesLess b a=true->0 < Lib.compareBytes a b
 | [],_,h=>by simp[Op.bytesLess] at h
 | _::_,[],_=>by simp[Lib.compareBytes]
 | x::a,y::b,h=>by
   simp only[Op.bytesLess,Bool.or_eq_true,decide_eq_true_eq,Bool.and_eq_true,beq_iff_eq] at h
   unfold Lib.compareBytes
   by_cases hxy:x < y
   ·rcases h with h|⟨h,_⟩
    ·exact absurd (UInt8.lt_trans hxy h) (UInt8.lt_irrefl _)
    ·subst h;exact absurd hxy (UInt8.lt_irrefl _)
   ·rw[if_neg hxy]
    rcases h with h|⟨h,h2⟩
    ·rw[if_pos h];decide
    ·subst h
     rw[if_neg hxy]
     exact cb_less a b h2
theorem cb_far:∀ a b:Str,Op.bytesLess b a=false->(b==a)=false->Lib.compareBytes a b < 0
 | [],[],_,h=>by simp at h
 | [],_::_,_,_=>by simp[Lib.compareBytes]
 | _::_,[],h,_=>by simp[Op.bytesLess] at h
 | x::a,y::b,h,h2=>by
   simp only[Op.bytesLess,Bool.or_eq_false_iff,decide_eq_false_iff_not,Bool.and_eq_false_iff,beq_eq_false_iff_ne] at h
   unfold Lib.compareBytes
   by_cases hxy:x < y
   ·rw[if_pos hxy];decide
   ·rw[if_neg hxy,if_neg h.1]
    have hxe:y=x:=UInt8.le_antisymm (UInt8.not_lt.1 hxy) (UInt8.not_lt.1 h.1)
    subst hxe
    rcases h.2 with h3|h3
    ·exact absurd rfl h3
    ·exact cb_far a b h3 (by simpa using h2)
theorem gap_less {p o:Of} (h:Op.bytesLess o.name.toList p.name.toList=true):ofGap p o=7:=by
 rw[ByteArray.toList_eq,ByteArray.toList_eq] at h
 have h1:0 < Lib.compareBytes (bs p.name) (bs o.name):=cb_less _ _ h
 unfold ofGap ofCmp
 rw[if_neg (show ¬ Lib.compareBytes (bs p.name) (bs o.name)=0 by omega),if_pos (by omega)]
theorem gap_same {p o:Of} (h:(o.name.toList==p.name.toList)=true):ofGap p o=if 0<=orderL p.vv.a1 p.vv.a2 p.vv.a3 (bs p.vv.a) o.vv.a1 o.vv.a2 o.vv.a3 (bs o.vv.a) then 7 else 0:=by
 rw[ByteArray.toList_eq,ByteArray.toList_eq,beq_iff_eq] at h
 have h1:Lib.compareBytes (bs p.name) (bs o.name)=0:=by
  rw[show bs p.name=bs o.name from h.symm];exact compareBytes_self _
 unfold ofGap ofCmp
 rw[if_pos h1]
theorem gap_far {p o:Of} (h:Op.bytesLess o.name.toList p.name.toList=false) (h2:(o.name.toList==p.name.toList)=false):ofGap p o=0:=by
 rw[ByteArray.toList_eq,ByteArray.toList_eq] at h h2
 have h1:Lib.compareBytes (bs p.name) (bs o.name) < 0:=cb_far _ _ h h2
 unfold ofGap ofCmp
 rw[if_neg (show ¬ Lib.compareBytes (bs p.name) (bs o.name)=0 by omega),if_neg (by omega)]
theorem ofErrs_length (l:List Of):(ofErrs l).length=l.length:=by simp[ofErrs]
theorem ofErrs_get (l:List Of) (k:Nat) (h:k < (ofErrs l).length):(ofErrs l)[k]=ofAt l k:=by simp[ofErrs]
theorem ofAt_bad {l:List Of} {k:Nat} (h:k < l.length) (h1:¬ ofErr l[k]=0):ofAt l k=ofErr l[k]:=by
 unfold ofAt
 have e:l.getD k zeroO=l[k]:=by simp[List.getD,List.getElem?_eq_getElem h]
 rw[e,if_pos h1]
theorem ofAt_0 {l:List Of} (h:0 < l.length) (h1:ofErr l[0]=0):ofAt l 0=0:=by
 unfold ofAt
 have e:l.getD 0 zeroO=l[0]:=by simp[List.getD,List.getElem?_eq_getElem h]
 rw[e,if_neg (by simpa using h1),if_pos rfl]
theorem ofAt_gap {l:List Of} {k:Nat} (h:k+1 < l.length) (h1:ofErr l[k+1]=0):ofAt l (k+1)=ofGap l[k] l[k+1]:=by
 unfold ofAt
 have e:l.getD (k+1) zeroO=l[k+1]:=by simp[List.getD,List.getElem?_eq_getElem h]
 have e2:l.getD k zeroO=l[k]:=by simp[List.getD,List.getElem?_eq_getElem (by omega:k < l.length)]
 rw[Nat.add_sub_cancel,e,e2,if_neg (by simpa using h1),if_neg (by omega)]
theorem ofAt_ok {l:List Of} {k:Nat} (h:k < l.length) (h1:ofAt l k=0):ofErr l[k]=0:=by
 by_cases h2:ofErr l[k]=0
 ·exact h2
 ·rw[ofAt_bad h h2] at h1;exact absurd h1 h2
theorem feErr_head {ch:ByteArray} {sr tm:Int} {l:List Of} (h:¬ feHead ch sr tm l.length=0):feErr ch sr tm l=feHead ch sr tm l.length:=by
 unfold feErr firstI
 rw[if_neg h]
theorem feErr_at {ch:ByteArray} {sr tm:Int} {l:List Of} {k:Nat} (h:feHead ch sr tm l.length=0) (hk:k < l.length) (h0:∀ x∈(ofErrs l).take k,x=0) (h1:¬ ofAt l k=0):feErr ch sr tm l=ofAt l k:=by
 have hk1:k < (ofErrs l).length:=by rw[ofErrs_length];exact hk
 unfold feErr
 rw[firstI,if_pos h,firstI_at hk1 h0 (by rw[ofErrs_get];exact h1),ofErrs_get]
theorem feErr_next {l:List Of} {k:Nat} (hk:k < l.length) (h0:∀ x∈(ofErrs l).take k,x=0) (h1:ofAt l k=0):∀ x∈(ofErrs l).take (k+1),x=0:=by
 have hk1:k < (ofErrs l).length:=by rw[ofErrs_length];exact hk
 exact take_zero_succ hk1 h0 (by rw[ofErrs_get];exact h1)
theorem feErr_all {ch:ByteArray} {sr tm:Int} {l:List Of} (h:feHead ch sr tm l.length=0) (h0:∀ x∈(ofErrs l).take l.length,x=0):feErr ch sr tm l=0:=by
 rw[List.take_of_length_le (by rw[ofErrs_length];exact Nat.le_refl _)] at h0
 unfold feErr
 rw[firstI,if_pos h]
 exact firstI_zero h0
theorem feErr_seen {l:List Of} {k j:Nat} (hk:k < l.length) (h0:∀ x∈(ofErrs l).take j,x=0) (hj:k < j):ofErr l[k]=0:=by
 refine ofAt_ok hk (h0 _ ?_)
 have hk1:k < (ofErrs l).length:=by rw[ofErrs_length];exact hk
 rw[<-ofErrs_get l k hk1]
 exact List.mem_take_iff_getElem.2 ⟨k,by omega,rfl⟩
theorem ofErr_parts {o:Of} (h:ofErr o=0):nameL (bs o.name)=true∧o.vv.err=0∧sumL (bs o.sum)=true∧rngErr o.fr=0∧checkC o.wh=0∧(inI o.bg 0 1099511627776&&inI o.st 0 1000&&inI o.gr 0 1000)=true:=by
 unfold ofErr at h
 have hz:∀ l:List Int,firstI l=0->∀ x∈l,x=0:=fun l=>by
  induction l with
  | nil=>intro _ x hx;cases hx
  | cons a l ih =>
    intro h x hx
    unfold firstI at h
    by_cases ha:a=0
    ·rw[if_pos ha] at h
     rcases List.mem_cons.1 hx with rfl|hx
     ·exact ha
     ·exact ih h x hx
    ·rw[if_neg ha] at h;exact absurd h ha
 have hh:=hz _ h
 simp only[List.mem_cons,List.not_mem_nil,or_false,forall_eq_or_imp,forall_eq] at hh
 obtain⟨h1,h2,h3,h4,h5,h6⟩:=hh
 refine⟨?_,h2,?_,h4,h5,?_⟩
 ·by_cases hn:nameL (bs o.name)=true
  ·exact hn
  ·rw[if_neg hn] at h1;cases h1
 ·by_cases hn:sumL (bs o.sum)=true
  ·exact hn
  ·rw[if_neg hn] at h3;cases h3
 ·by_cases hn:(inI o.bg 0 1099511627776&&inI o.st 0 1000&&inI o.gr 0 1000)=true
  ·exact hn
  ·rw[if_neg hn] at h6;cases h6
theorem SpS.first {w:World} {b i:Nat} {l:List Sp} (h:SpS w b i l) (hn:l≠[]):b < w.heap.size:=lt_of_cell (h.c0 0 (List.length_pos_iff.2 hn))
theorem RdP.keep {P P':Nat->Prop} {w w':World} (hp:∀ b,b < w.heap.size->P b->P' b) (hc:∀ b o v,P b->w.cell? ⟨b,o,none⟩=some v->w'.cell? ⟨b,o,none⟩=some v) {A:Option Addr} {l:List Sp} (h:RdP P w A l):RdP P' w' A l:=fun hn=>by
 obtain⟨b,i,e,hb,k⟩:=h hn
 exact⟨b,i,e,hp b (k.first hn) hb,⟨fun j hj=>hc b _ _ hb (k.c0 j hj),fun j hj=>hc b _ _ hb (k.c1 j hj),fun j hj=>hc b _ _ hb (k.c2 j hj),fun j hj=>hc b _ _ hb (k.c3 j hj),fun j hj=>hc b _ _ hb (k.c4 j hj),
  fun j hj=>hc b _ _ hb (k.c5 j hj),fun j hj=>hc b _ _ hb (k.c6 j hj),fun j hj=>hc b _ _ hb (k.c7 j hj),fun j hj=>hc b _ _ hb (k.c8 j hj),fun j hj=>hc b _ _ hb (k.c9 j hj)⟩⟩
theorem CdIn.keepP {P P':Nat->Prop} {w w':World} (hp:∀ b,b < w.heap.size->P b->P' b) (hc:∀ b o v,P b->w.cell? ⟨b,o,none⟩=some v->w'.cell? ⟨b,o,none⟩=some v) {c:Cd} {v:Value} (h:CdIn P w c v):CdIn P' w' c v:=by
 have h1:CdIn (fun b=>P b∧P' b) w c v:=h.imp fun b hb hP=>⟨hP,hp b hb hP⟩
 have h2:CdIn (fun b=>P b∧P' b) w' c v:=h1.keep fun b o v hP e=>hc b o v hP.1 e
 exact h2.imp fun b _ hP=>hP.2
abbrev ofCs (o:Of) (A:Option Addr) (c:Nat) (k:Int) (n x:ByteArray) (A2:Option Addr) (m c2:Nat):List Value:=[.string o.name,.int .i64 o.vv.a1,.int .i64 o.vv.a2,.int .i64 o.vv.a3,.string o.vv.a,.string o.sum,.slice A o.fr.length c,.bool o.nw,.int .i64 k,.string n,.string x,.slice A2 m c2,.int .i64 o.bg,.int .i64 o.st,.int .i64 o.gr,.bool o.hold,.bool o.urg,.bool o.back]
abbrev ofV (o:Of) (A:Option Addr) (c:Nat) (k:Int) (n x:ByteArray) (A2:Option Addr) (m c2:Nat):Value:=.agg #[.string o.name,.int .i64 o.vv.a1,.int .i64 o.vv.a2,.int .i64 o.vv.a3,.string o.vv.a,.string o.sum,.slice A o.fr.length c,.bool o.nw,.int .i64 k,.string n,.string x,.slice A2 m c2,.int .i64 o.bg,.int .i64 o.st,.int .i64 o.gr,.bool o.hold,.bool o.urg,.bool o.back]
def OfIn (P:Nat->Prop) (w:World) (o:Of) (A:Option Addr) (k:Int) (n x:ByteArray) (A2:Option Addr) (m c2:Nat):Prop:=RdP P w A o.fr∧CdIn P w o.wh (.agg #[.int .i64 k,.string n,.string x,.slice A2 m c2])
theorem OfIn.keep {P P':Nat->Prop} {w w':World} (hp:∀ b,b < w.heap.size->P b->P' b) (hc:∀ b o v,P b->w.cell? ⟨b,o,none⟩=some v->w'.cell? ⟨b,o,none⟩=some v) {o:Of} {A:Option Addr} {k:Int} {n x:ByteArray} {A2:Option Addr} {m c2:Nat} (h:OfIn P w o A k n x A2 m c2):OfIn P' w' o A k n x A2 m c2:=⟨h.1.keep hp hc,h.2.keepP hp hc⟩
theorem OfIn.ext {P:Nat->Prop} {w w':World} (hx:Ext w w') {o:Of} {A:Option Addr} {k:Int} {n x:ByteArray} {A2:Option Addr} {m c2:Nat} (h:OfIn P w o A k n x A2 m c2):OfIn P w' o A k n x A2 m c2:=h.keep (fun _ _ h=>h) (fun _ _ _ _ hc=>hx.cell hc)
abbrev AnyB:Nat->Prop:=fun _=>True
structure OfRow (w:World) (b i:Nat) (o:Of) (A:Option Addr) (c:Nat) (k:Int) (n x:ByteArray) (A2:Option Addr) (m c2:Nat):Prop where
 r0:w.cell? ⟨b,i,none⟩=some (.string o.name)
 r1:w.cell? ⟨b,i+1,none⟩=some (.int .i64 o.vv.a1)
 r2:w.cell? ⟨b,i+2,none⟩=some (.int .i64 o.vv.a2)
 r3:w.cell? ⟨b,i+3,none⟩=some (.int .i64 o.vv.a3)
 r4:w.cell? ⟨b,i+4,none⟩=some (.string o.vv.a)
 r5:w.cell? ⟨b,i+5,none⟩=some (.string o.sum)
 r6:w.cell? ⟨b,i+6,none⟩=some (.slice A o.fr.length c)
 r7:w.cell? ⟨b,i+7,none⟩=some (.bool o.nw)
 r8:w.cell? ⟨b,i+8,none⟩=some (.int .i64 k)
 r9:w.cell? ⟨b,i+9,none⟩=some (.string n)
 r10:w.cell? ⟨b,i+10,none⟩=some (.string x)
 r11:w.cell? ⟨b,i+11,none⟩=some (.slice A2 m c2)
 r12:w.cell? ⟨b,i+12,none⟩=some (.int .i64 o.bg)
 r13:w.cell? ⟨b,i+13,none⟩=some (.int .i64 o.st)
 r14:w.cell? ⟨b,i+14,none⟩=some (.int .i64 o.gr)
 r15:w.cell? ⟨b,i+15,none⟩=some (.bool o.hold)
 r16:w.cell? ⟨b,i+16,none⟩=some (.bool o.urg)
 r17:w.cell? ⟨b,i+17,none⟩=some (.bool o.back)
 has:OfIn AnyB w o A k n x A2 m c2
theorem OfRow.ext {w w':World} {b i:Nat} {o:Of} {A:Option Addr} {c:Nat} {k:Int} {n x:ByteArray} {A2:Option Addr} {m c2:Nat} (h:OfRow w b i o A c k n x A2 m c2) (hx:Ext w w'):OfRow w' b i o A c k n x A2 m c2 :=
 ⟨hx.cell h.r0,hx.cell h.r1,hx.cell h.r2,hx.cell h.r3,hx.cell h.r4,hx.cell h.r5,hx.cell h.r6,hx.cell h.r7,hx.cell h.r8,hx.cell h.r9,hx.cell h.r10,hx.cell h.r11,hx.cell h.r12,hx.cell h.r13,hx.cell h.r14,hx.cell h.r15,hx.cell h.r16,hx.cell h.r17,h.has.ext hx⟩
def RdO (w:World) (A:Option Addr) (l:List Of):Prop:=l≠[]->∃ b i,A=some ⟨b,i,none⟩∧∀ k (h:k < l.length),∃ A1 c1 kk n x A2 m c2,OfRow w b (i+k * 18) l[k] A1 c1 kk n x A2 m c2
theorem RdO.ext {w w':World} {A:Option Addr} {l:List Of} (h:RdO w A l) (hx:Ext w w'):RdO w' A l:=fun hn=>by
 obtain⟨b,i,e,k⟩:=h hn
 exact⟨b,i,e,fun j hj=>by
  obtain⟨A1,c1,kk,n,x,A2,m,c2,h⟩:=k j hj
  exact⟨A1,c1,kk,n,x,A2,m,c2,h.ext hx⟩⟩
structure SmallO (o:Of):Prop where
 name:o.name.size<=2097152
 vv:o.vv.a.size<=2097152
 sum:o.sum.size<=2097152
 fr:SmallS o.fr
 len:o.fr.length<=2097152
 wh:SmallC o.wh
 cnt:cnt o.wh<=100000000
end Go.Proofs.YtmnafaaijglnfaaGreatDoor
