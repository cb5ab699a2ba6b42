/- Plain law: the reference's order of words is the program's. Plain law: ranges, their errors, their texts, and what reads them; the reference's reading is the program's. Plain law: what ver.PrintRange writes, ver.ParseRange reads back. Spans and ranges in memory; the struct equalities that the walks meet; slices.Equal over spans. The small map of outref2's group: made, asked. Contract of the reference's reading of conditions, all levels; plain: the parts of a condition, their errors. Contracts of ver.walk and outref2.CondParts, for whatever visits the parts. Plain law: what is read of a text as a condition has a bearable size. Contract of outref2.SameCond, at two conditions that are the same. A condition among the arguments. -/
import Derived.Test.YtmnafaaijglnfaaGreatDoorMg07
import Derived.Test.YtmnafaaijglnfaaGreatDoorMg05
import Derived.Test.YtmnafaaijglnfaaGreatDoorMg06
import Derived.Test.YtmnafaaijglnfaaGreatDoorMg09
import Derived.MapKept
import Derived.Deep.DeepCutAuto
import Derived.Deep.AppendLies
import Derived.Deep.RegionLaw
import Derived.Deep.RegionHeld3
namespace Go.Proofs.YtmnafaaijglnfaaGreatDoor
section
theorem compareInt_lt {a b:Nat} (h:a < b):Lib.compareInt a b=-1:=by unfold Lib.compareInt;rw[if_pos (by omega)]
theorem compareInt_gt {a b:Nat} (h:b < a):Lib.compareInt a b=1:=by unfold Lib.compareInt;rw[if_neg (by omega),if_pos (by omega)]
theorem compareInt_self (a:Nat):Lib.compareInt a a=0:=by unfold Lib.compareInt;rw[if_neg (by omega),if_neg (by omega)]
theorem compareBytes_self:∀ l:Str,Lib.compareBytes l l=0
 | []=>rfl
 | a::l=>by
   unfold Lib.compareBytes
   rw[if_neg (by simp),if_neg (by simp)]
   exact compareBytes_self l
theorem cmp_digits:∀ (x y:Str),x.all digitB=true->y.all digitB=true->x.length=y.length->Lib.compareBytes x y=Lib.compareInt (decVal x) (decVal y)
 | [],[],_,_,_=>rfl
 | a::x,b::y,hx,hy,hl=>by
   simp only[List.all_cons,Bool.and_eq_true] at hx hy
   simp only[List.length_cons,Nat.add_right_cancel_iff] at hl
   have ha:=digit_bounds hx.1
   have hb:=digit_bounds hy.1
   have lx:=decVal_lt x hx.2
   have ly:=decVal_lt y hy.2
   rw[decVal_cons,decVal_cons]
   unfold Lib.compareBytes
   by_cases h1:a < b
   ·rw[if_pos h1]
    have h2:a.toNat < b.toNat:=UInt8.lt_iff_toNat_lt.1 h1
    have h3:(a.toNat - 48+1) * 10 ^ x.length<=(b.toNat - 48) * 10 ^ y.length:=by rw[<-hl];exact Nat.mul_le_mul_right _ (by omega)
    rw[Nat.add_mul,Nat.one_mul] at h3
    rw[compareInt_lt (by omega)]
   ·rw[if_neg h1]
    by_cases h2:b < a
    ·rw[if_pos h2]
     have h2':b.toNat < a.toNat:=UInt8.lt_iff_toNat_lt.1 h2
     have h3:(b.toNat - 48+1) * 10 ^ y.length<=(a.toNat - 48) * 10 ^ x.length:=by rw[<-hl];exact Nat.mul_le_mul_right _ (by omega)
     rw[Nat.add_mul,Nat.one_mul] at h3
     rw[compareInt_gt (by omega)]
    ·rw[if_neg h2,cmp_digits x y hx.2 hy.2 hl]
     have h3:a=b:=by
      apply UInt8.toNat_inj.1
      rw[UInt8.lt_iff_toNat_lt] at h1 h2
      omega
     subst h3
     rw[hl]
     generalize (a.toNat - 48) * 10 ^ y.length=m
     rcases Nat.lt_trichotomy (decVal x) (decVal y) with g|g|g
     ·rw[compareInt_lt g,compareInt_lt (by omega)]
     ·rw[g,compareInt_self,compareInt_self]
     ·rw[compareInt_gt g,compareInt_gt (by omega)]
theorem decVal_ge:∀ (y:Str),y.all digitB=true->1 < y.length->y.headD 0≠48->10 ^ (y.length - 1)<=decVal y
 | [],_,h,_=>by simp at h
 | b::y,h,hl,h0=>by
   simp only[List.all_cons,Bool.and_eq_true] at h
   have hb:=digit_bounds h.1
   have h1:b.toNat≠48:=fun e=>h0 (UInt8.toNat_inj.1 e)
   rw[decVal_cons]
   have:1 * 10 ^ y.length<=(b.toNat - 48) * 10 ^ y.length:=Nat.mul_le_mul_right _ (by omega)
   simp only[List.length_cons,Nat.add_sub_cancel]
   omega
def refWord (x y:Str):Int :=
 if (x.all digitB&&y.all digitB)=true then Lib.compareInt (decVal x) (decVal y) else if x.all digitB=true then -1 else if y.all digitB=true then 1 else Lib.compareBytes x y
theorem word_parts {x:Str} (h:earlyWordL x=true):x≠[]∧x.length<=10∧numeralL x=x.all digitB∧(x.all digitB=true->1 < x.length->x.headD 0≠48):=by
 rw[earlyWord_eq] at h
 simp only[Bool.not_eq_true',Bool.or_eq_false_iff,beq_eq_false_iff_ne,decide_eq_false_iff_not,Bool.not_eq_false',Bool.and_eq_false_iff] at h
 obtain⟨⟨⟨h1,h2⟩,h3⟩,h4⟩:=h
 have h5:0 < x.length:=List.length_pos_iff.2 h1
 refine⟨h1,by omega,?_,fun hd hl=>?_⟩
 ·unfold numeralL eachL
  rw[decide_eq_true h5,decide_eq_true (by omega:x.length<=10)];simp
 ·rcases h4 with (h4|h4)|h4
  ·rw[hd] at h4;cases h4
  ·exact absurd hl h4
  ·exact h4
theorem cmp_shorter {x y:Str} (hx:x.all digitB=true) (hy:y.all digitB=true) (h0:0 < x.length) (hl:x.length < y.length) (hh:y.headD 0≠48):decVal x < decVal y:=by
 have h1:=decVal_lt x hx
 have h2:=decVal_ge y hy (by omega) hh
 have h3:(10:Nat) ^ x.length<=10 ^ (y.length - 1):=Nat.pow_le_pow_right (by decide) (by omega)
 omega
theorem word_same {x y:Str} (hx:earlyWordL x=true) (hy:earlyWordL y=true):refWord x y=cmpWordL x y:=by
 obtain⟨x0,x1,x2,x3⟩:=word_parts hx
 obtain⟨y0,y1,y2,y3⟩:=word_parts hy
 have hx0:0 < x.length:=List.length_pos_iff.2 x0
 have hy0:0 < y.length:=List.length_pos_iff.2 y0
 unfold refWord cmpWordL
 rw[x2,y2]
 by_cases h:(x.all digitB&&y.all digitB)=true
 ·rw[if_pos h,if_pos h]
  simp only[Bool.and_eq_true] at h
  by_cases hl:x.length=y.length
  ·rw[if_pos hl,cmp_digits x y h.1 h.2 hl]
  ·rw[if_neg hl]
   rcases Nat.lt_or_gt_of_ne hl with hlt|hgt
   ·rw[compareInt_lt hlt,compareInt_lt (cmp_shorter h.1 h.2 hx0 hlt (y3 h.2 (by omega)))]
   ·rw[compareInt_gt hgt,compareInt_gt (cmp_shorter h.2 h.1 hy0 hgt (x3 h.1 (by omega)))]
 ·rw[if_neg h,if_neg h]
theorem cmpWord_self (x:Str):cmpWordL x x=0:=by
 unfold cmpWordL
 by_cases h:(numeralL x&&numeralL x)=true
 ·rw[if_pos h,if_pos rfl,compareBytes_self]
 ·rw[if_neg h]
  have h1:¬ numeralL x=true:=fun e=>h (by rw[e];rfl)
  rw[if_neg h1,if_neg h1,compareBytes_self]
theorem cmpWords_self:∀ l:List Str,cmpWordsL cmpWordL l l=0
 | []=>rfl
 | x::l=>by
   unfold cmpWordsL
   rw[if_pos (cmpWord_self x)]
   exact cmpWords_self l
theorem cmpEarly_both {a b:Str} (ha:a≠[]) (hb:b≠[]):cmpEarlyL a b=cmpWordsL cmpWordL (splitC 46 a) (splitC 46 b):=by
 unfold cmpEarlyL
 by_cases h:a=b
 ·rw[if_pos h,h,cmpWords_self]
 ·rw[if_neg h,if_neg ha,if_neg hb]
theorem cmpEarly_left {a b:Str} (ha:a=[]):cmpEarlyL a b=if b=[] then 0 else 1:=by
 subst ha
 cases b with
 | nil=>rfl
 | cons x r=>simp[cmpEarlyL]
theorem cmpEarly_right {a b:Str} (ha:a≠[]) (hb:b=[]):cmpEarlyL a b=-1:=by
 unfold cmpEarlyL
 rw[if_neg (by rw[hb];exact ha),if_neg ha,if_pos hb]
end
section
theorem compareInt_neg (a b:Int):Lib.compareInt b a=- Lib.compareInt a b:=by
 unfold Lib.compareInt
 (repeat' split)<;>omega
theorem compareBytes_neg:∀ a b:Str,Lib.compareBytes b a=- Lib.compareBytes a b
 | [],[]=>rfl
 | [],_::_=>rfl
 | _::_,[]=>rfl
 | x::a,y::b=>by
   unfold Lib.compareBytes
   rcases Nat.lt_trichotomy x.toNat y.toNat with h|h|h
   ·have h1:x < y:=UInt8.lt_iff_toNat_lt.2 h
    have h2:¬ y < x:=fun e=>by have:=UInt8.lt_iff_toNat_lt.1 e;omega
    rw[if_pos h1,if_neg h2,if_pos h1];rfl
   ·have h1:¬ x < y:=fun e=>by have:=UInt8.lt_iff_toNat_lt.1 e;omega
    have h2:¬ y < x:=fun e=>by have:=UInt8.lt_iff_toNat_lt.1 e;omega
    rw[if_neg h1,if_neg h2,if_neg h2,if_neg h1]
    exact compareBytes_neg a b
   ·have h1:y < x:=UInt8.lt_iff_toNat_lt.2 h
    have h2:¬ x < y:=fun e=>by have:=UInt8.lt_iff_toNat_lt.1 e;omega
    rw[if_pos h1,if_neg h2,if_pos h1]
    try rfl
theorem cmpWord_neg (a b:Str):cmpWordL b a=- cmpWordL a b:=by
 unfold cmpWordL
 cases numeralL a<;>cases numeralL b
 ·exact compareBytes_neg a b
 ·rfl
 ·rfl
 ·simp only[Bool.and_self,if_true]
  by_cases h:a.length=b.length
  ·rw[if_pos h,if_pos h.symm,compareBytes_neg]
  ·rw[if_neg h,if_neg (Ne.symm h),compareInt_neg]
theorem cmpWords_neg {f:Str->Str->Int} (hf:∀ a b,f b a=- f a b):∀ xs ys:List Str,cmpWordsL f ys xs=- cmpWordsL f xs ys
 | [],[]=>compareInt_neg _ _
 | [],_::_=>compareInt_neg _ _
 | _::_,[]=>compareInt_neg _ _
 | x::xs,y::ys=>by
   unfold cmpWordsL
   rw[hf x y]
   by_cases h:f x y=0
   ·rw[if_pos h,if_pos (by omega),cmpWords_neg hf xs ys]
   ·rw[if_neg h,if_neg (by omega)]
theorem cmpEarly_neg (a b:Str):cmpEarlyL b a=- cmpEarlyL a b:=by
 unfold cmpEarlyL
 by_cases h:a=b
 ·rw[if_pos h,if_pos h.symm];rfl
 ·rw[if_neg h,if_neg (Ne.symm h)]
  by_cases ha:a=[]
  ·by_cases hb:b=[]
   ·exact absurd (ha.trans hb.symm) h
   ·rw[if_neg hb,if_pos ha,if_pos ha]
  ·by_cases hb:b=[]
   ·rw[if_pos hb,if_neg ha,if_pos hb];rfl
   ·rw[if_neg hb,if_neg ha,if_neg ha,if_neg hb]
    exact cmpWords_neg cmpWord_neg _ _
theorem first4_neg (a b c d:Int):firstI [-a,-b,-c,-d]=- firstI [a,b,c,d]:=by
 simp only[firstI]
 by_cases h1:a=0
 ·rw[if_pos h1,if_pos (by omega)]
  by_cases h2:b=0
  ·rw[if_pos h2,if_pos (by omega)]
   by_cases h3:c=0
   ·rw[if_pos h3,if_pos (by omega)]
    by_cases h4:d=0
    ·rw[if_pos h4,if_pos (by omega)];rfl
    ·rw[if_neg h4,if_neg (by omega)]
   ·rw[if_neg h3,if_neg (by omega)]
  ·rw[if_neg h2,if_neg (by omega)]
 ·rw[if_neg h1,if_neg (by omega)]
theorem order_neg (a1 a2 a3:Int) (a:Str) (b1 b2 b3:Int) (b:Str):orderL b1 b2 b3 b a1 a2 a3 a=- orderL a1 a2 a3 a b1 b2 b3 b:=by
 unfold orderL
 rw[compareInt_neg a1,compareInt_neg a2,compareInt_neg a3,cmpEarly_neg a,first4_neg]
deriving instance DecidableEq for V4
def zeroV:V4:=⟨0,0,0,⟨#[]⟩⟩
def V4.ord (u v:V4):Int:=orderL u.a1 u.a2 u.a3 (bs u.a) v.a1 v.a2 v.a3 (bs v.a)
def V4.text (v:V4):Str:=textL v.a1 v.a2 v.a3 (bs v.a)
theorem zero_err:zeroV.err=0:=by decide
def pV (l:Str):V4 × Int:=(⟨(parseV l).1.1,(parseV l).1.2.1,(parseV l).1.2.2.1,⟨(parseV l).1.2.2.2.toArray⟩⟩,(parseV l).2)
def nV (v:V4) (part:Int):V4 × Int:=(⟨(nextV v.a1 v.a2 v.a3 (bs v.a) part).1.1,(nextV v.a1 v.a2 v.a3 (bs v.a) part).1.2.1,(nextV v.a1 v.a2 v.a3 (bs v.a) part).1.2.2,⟨#[]⟩⟩,(nextV v.a1 v.a2 v.a3 (bs v.a) part).2)
structure Sp where
 hf:Bool
 ht:Bool
 f:V4
 t:V4
deriving instance DecidableEq for Sp
def zeroS:Sp:=⟨false,false,zeroV,zeroV⟩
def spErr (s:Sp):Int :=
 if (!s.hf&&decide (s.f≠zeroV)||!s.ht&&decide (s.t≠zeroV))=true then 2
 else if s.f.err≠0 then s.f.err else if s.t.err≠0 then s.t.err
 else if (s.hf&&s.ht&&decide (0<=s.f.ord s.t))=true then 7 else 0
def gapErr (p s:Sp):Int:=if (!p.ht||!s.hf||decide (0<=p.t.ord s.f))=true then 7 else 0
def errAt (l:List Sp) (k:Nat):Int :=
 if spErr (l.getD k zeroS)≠0 then spErr (l.getD k zeroS) else if k=0 then 0 else gapErr (l.getD (k - 1) zeroS) (l.getD k zeroS)
def errsOf (l:List Sp):List Int:=(List.range l.length).map (errAt l)
def rngErr (l:List Sp):Int:=if 10 < l.length then 4 else firstI (errsOf l)
theorem errs_length (l:List Sp):(errsOf l).length=l.length:=by simp[errsOf]
theorem errs_get (l:List Sp) (k:Nat) (h:k < (errsOf l).length):(errsOf l)[k]=errAt l k:=by simp[errsOf]
theorem firstI_ne {l:List Int} (h:firstI l=0):∀ x∈l,x=0:=by
 induction l with
 | nil=>intro x hx;cases hx
 | cons e r ih =>
   unfold firstI at h
   by_cases he:e=0
   ·rw[if_pos he] at h
    intro x hx
    rcases List.mem_cons.1 hx with rfl|hx
    ·exact he
    ·exact ih h x hx
   ·rw[if_neg he] at h
    exact absurd h he
theorem err_sp {l:List Sp} {k:Nat} (hk:k < l.length) (h:errAt l k=0):spErr l[k]=0:=by
 unfold errAt at h
 have e:l.getD k zeroS=l[k]:=by simp[List.getD,List.getElem?_eq_getElem hk]
 rw[e] at h
 by_cases h1:spErr l[k]≠0
 ·rw[if_pos h1] at h;exact absurd h h1
 ·exact Classical.not_not.1 h1
def rowL (l:Str):Bool:=!l.contains 32
structure It where
 sign:UInt8
 first:Str
 last:Str
def itemL (s:Str):It × Bool :=
 if s=[42] then (⟨42,[],[]⟩,true)
 else if Lib.hasPrefix s [62,61]=true then
  (if (cutC 32 (s.drop 2)).2.2=true then
    (⟨98,(cutC 32 (s.drop 2)).1,Lib.trimPrefix (cutC 32 (s.drop 2)).2.1 [60]⟩,Lib.hasPrefix (cutC 32 (s.drop 2)).2.1 [60]&&rowL (cutC 32 (s.drop 2)).1&&rowL (Lib.trimPrefix (cutC 32 (s.drop 2)).2.1 [60]))
  else (⟨62,s.drop 2,[]⟩,rowL (s.drop 2)))
 else if (!s.isEmpty&&[60,61,94,126].contains (s.headD 0))=true then (⟨s.headD 0,s.drop 1,[]⟩,rowL (s.drop 1))
 else (⟨94,s,[]⟩,rowL s)
def early0 (v:V4) (x:Str):V4:={ v with a:=⟨x.toArray⟩ }
def behindL (v:V4) (sign:UInt8):V4 × Int :=
 if sign=61 then (if bs v.a≠[] then (early0 v (bs v.a++[46,48]),(early0 v (bs v.a++[46,48])).err) else (early0 (nV v 2).1 [48],(nV v 2).2))
 else if sign=94∧v.a1≠0 then nV v 0 else nV v 1
def spanL (it:It):Sp × Int :=
 if it.sign=42 then (zeroS,0)
 else if (pV it.first).2≠0 then (zeroS,(pV it.first).2)
 else if it.sign=62 then (⟨true,false,(pV it.first).1,zeroV⟩,0)
 else if it.sign=60 then (⟨false,true,zeroV,(pV it.first).1⟩,0)
 else if it.sign=98 then (⟨true,true,(pV it.first).1,(pV it.last).1⟩,(pV it.last).2)
 else (⟨true,true,(pV it.first).1,(behindL (pV it.first).1 it.sign).1⟩,(behindL (pV it.first).1 it.sign).2)
def wrongL (l:Str):Bool:=decide ((pV l).2=8)
def synL (s:Str):Bool:=!(itemL s).2||((itemL s).1.sign != 42&&wrongL (itemL s).1.first)||((itemL s).1.sign==98&&wrongL (itemL s).1.last)
def spansOf (q:List (Sp × Int)):List Sp × Int :=
 if firstI (q.map (·.2))≠0 then ([],firstI (q.map (·.2))) else if rngErr (q.map (·.1))≠0 then ([],rngErr (q.map (·.1))) else (q.map (·.1),0)
def parseR (s:Str):List Sp × Int :=
 if 1000 < s.length then ([],4) else if s=[110,111,110,101] then ([],0)
 else if (Lib.split s [44,32]).any synL=true then ([],8) else spansOf ((Lib.split s [44,32]).map fun p=>spanL (itemL p).1)
def shortK (w:Str):UInt8 × Str:=if (!w.isEmpty&&[61,94,126].contains (w.headD 0))=true then (w.headD 0,w.drop 1) else (94,w)
def shortL (w:Str):Sp × Int :=
 if w=[42] then (zeroS,0)
 else if (pV (shortK w).2).2≠0 then (zeroS,(pV (shortK w).2).2)
 else (⟨true,true,(pV (shortK w).2).1,(behindL (pV (shortK w).2).1 (shortK w).1).1⟩,(behindL (pV (shortK w).2).1 (shortK w).1).2)
def refItem (t:Str):Sp × Int :=
 match splitC 32 t with
 | [x] =>
   if Lib.hasPrefix x [62,61]=true then (⟨true,false,(pV (x.drop 2)).1,zeroV⟩,(pV (x.drop 2)).2)
   else if Lib.hasPrefix x [60]=true then (⟨false,true,zeroV,(pV (x.drop 1)).1⟩,(pV (x.drop 1)).2)
   else shortL x
 | [x,y] =>
   if (Lib.hasPrefix x [62,61]&&Lib.hasPrefix y [60])=true then
    (⟨true,true,(pV (x.drop 2)).1,(pV (y.drop 1)).1⟩,if (pV (x.drop 2)).2=8∨(pV (y.drop 1)).2=8 then 8 else firstI [(pV (x.drop 2)).2,(pV (y.drop 1)).2])
   else (zeroS,8)
 | _=>(zeroS,8)
def readR (s:Str):List Sp × Int :=
 if 1000 < s.length then ([],4) else if s=[110,111,110,101] then ([],0)
 else if (Lib.split s [44,32]).any (fun p=>decide ((refItem p).2=8))=true then ([],8) else spansOf ((Lib.split s [44,32]).map refItem)
theorem next_err_ne8 (v:V4) (part:Int) (h:v.err=0):(nV v part).2≠8:=by
 have h':checkV v.a1 v.a2 v.a3 (bs v.a)=0:=h
 unfold nV nextV
 rw[if_pos h']
 dsimp only
 split
 ·decide
 ·split
  ·show (0:Int)≠8
   decide
  ·decide
theorem check_ne8 (a b c:Int) (e:Str):checkV a b c e≠8:=by
 unfold checkV
 split
 ·decide
 ·split<;>decide
theorem parseV_ok' {l:Str} {r:(Int × Int × Int × Str) × Int} (hr:parseV l=r) (h:r.2=0):checkV r.1.1 r.1.2.1 r.1.2.2.1 r.1.2.2.2=0:=by
 unfold parseV at hr
 split at hr
 ·split at hr
  ·subst hr;exact absurd h (by decide)
  ·split at hr
   ·subst hr;exact absurd h (by decide)
   ·split at hr
    ·rename_i h3
     subst hr
     exact h3
    ·rename_i h3
     subst hr
     exact absurd h h3
 ·subst hr;exact absurd h (by decide)
theorem parseV_ok {l:Str} (h:(parseV l).2=0):checkV (parseV l).1.1 (parseV l).1.2.1 (parseV l).1.2.2.1 (parseV l).1.2.2.2=0:=parseV_ok' rfl h
theorem pV_err {l:Str} (h:(pV l).2=0):(pV l).1.err=0:=by
 have:=parseV_ok h
 unfold V4.err pV
 dsimp only
 rw[bs_mk]
 exact this
theorem behind_ne8 (v:V4) (s:UInt8) (h:v.err=0):(behindL v s).2≠8:=by
 unfold behindL
 split
 ·split
  ·exact check_ne8 _ _ _ _
  ·exact next_err_ne8 v 2 h
 ·split
  ·exact next_err_ne8 v 0 h
  ·exact next_err_ne8 v 1 h
theorem pV_nil:(pV []).2=8:=by decide
def Same (p:Str):Prop:=(synL p=true->(refItem p).2=8)∧(synL p=false->(refItem p).2≠8∧(refItem p).2=(spanL (itemL p).1).2∧((refItem p).2=0->(refItem p).1=(spanL (itemL p).1).1))
theorem prefix2_app {p r:Str} (h:Lib.hasPrefix p [62,61]=true):Lib.hasPrefix (p++r) [62,61]=true:=by
 match p,h with
 | [],h=>cases h
 | [_],h=>simp[Lib.hasPrefix,List.isPrefixOf] at h
 | a::b::t,h=>simpa [Lib.hasPrefix,List.isPrefixOf] using h
theorem prefix2_cons {p r:Str} (h:Lib.hasPrefix p [62,61]=false):Lib.hasPrefix (p++32::r) [62,61]=false:=by
 match p,h with
 | [],_=>rfl
 | [a],_=>simp[Lib.hasPrefix,List.isPrefixOf]
 | a::b::t,h=>simpa [Lib.hasPrefix,List.isPrefixOf] using h
theorem prefix_drop {p:Str} (h:Lib.hasPrefix p [62,61]=true):∃ t,p=62::61::t:=by
 match p,h with
 | [],h=>cases h
 | [_],h=>simp[Lib.hasPrefix,List.isPrefixOf] at h
 | a::b::t,h =>
   have h1:62=a∧61=b:=by simpa [Lib.hasPrefix,List.isPrefixOf] using h
   exact⟨t,by rw[<-h1.1,<-h1.2]⟩
theorem prefix1 {p:Str} (h:Lib.hasPrefix p [60]=true):∃ t,p=60::t:=by
 match p,h with
 | [],h=>cases h
 | a::t,h =>
   have h1:60=a:=by simpa [Lib.hasPrefix,List.isPrefixOf] using h
   exact⟨t,by rw[<-h1]⟩
theorem rowL_none {l:Str} (h:(32:UInt8) ∉ l):rowL l=true:=by simp[rowL,h]
theorem rowL_app (a r:Str):rowL (a++32::r)=false:=by simp[rowL]
theorem row_drop {l:Str} (n:Nat) (h:(32:UInt8) ∉ l):(32:UInt8) ∉ l.drop n:=fun e=>h (List.mem_of_mem_drop e)
theorem same_one (p:Str) (hp:(32:UInt8) ∉ p):Same p:=by
 have hs:splitC 32 p=[p]:=splitC_none 32 p hp
 unfold Same synL refItem
 rw[hs]
 dsimp only
 by_cases h0:p=[42]
 ·subst h0
  have:itemL [42]=(⟨42,[],[]⟩,true):=by rw[itemL,if_pos rfl]
  rw[this]
  refine⟨fun h=>by simp at h,fun _=>?_⟩
  have h1:shortL [42]=(zeroS,0):=by rw[shortL,if_pos rfl]
  rw[if_neg (by decide),if_neg (by decide),h1]
  exact⟨by decide,by rw[spanL,if_pos rfl],fun _=>by rw[spanL,if_pos rfl]⟩
 by_cases h1:Lib.hasPrefix p [62,61]=true
 ·have hc:=cutC_none 32 (p.drop 2) (row_drop 2 hp)
  have hi:itemL p=(⟨62,p.drop 2,[]⟩,true):=by
   rw[itemL,if_neg h0,if_pos h1,hc,if_neg (by simp),rowL_none (row_drop 2 hp)]
  rw[hi,if_pos h1]
  have e1:((62:UInt8)==98)=false:=by decide
  have e2:((62:UInt8) != 42)=true:=by decide
  dsimp only
  rw[e1,e2]
  simp only[Bool.not_true,Bool.false_or,Bool.true_and,Bool.false_and,Bool.or_false,wrongL,decide_eq_true_eq,decide_eq_false_iff_not]
  refine⟨fun h=>h,fun h=>⟨h,?_,?_⟩⟩
  ·unfold spanL
   dsimp only
   rw[if_neg (by decide)]
   by_cases h2:(pV (p.drop 2)).2=0
   ·rw[if_neg (by simpa using h2),if_pos rfl,h2]
   ·rw[if_pos h2]
  ·intro h2
   unfold spanL
   dsimp only
   rw[if_neg (by decide),if_neg (by simpa using h2),if_pos rfl]
 have h1f:Lib.hasPrefix p [62,61]=false:=by simpa using h1
 rw[if_neg h1]
 by_cases h2:Lib.hasPrefix p [60]=true
 ·obtain⟨t,rfl⟩:=prefix1 h2
  have hi:itemL (60::t)=(⟨60,t,[]⟩,true):=by
   rw[itemL,if_neg h0,if_neg h1,if_pos (by simp)]
   rw[show (60::t:Str).drop 1=t from rfl,rowL_none (fun e=>hp (by simp[e]))]
   rfl
  rw[hi,if_pos h2]
  have e1:((60:UInt8)==98)=false:=by decide
  have e2:((60:UInt8) != 42)=true:=by decide
  dsimp only
  rw[e1,e2]
  simp only[Bool.not_true,Bool.false_or,Bool.true_and,Bool.false_and,Bool.or_false,wrongL,decide_eq_true_eq,decide_eq_false_iff_not,List.drop_succ_cons,List.drop_zero]
  refine⟨fun h=>h,fun h=>⟨h,?_,?_⟩⟩
  ·unfold spanL
   dsimp only
   rw[if_neg (by decide)]
   by_cases h3:(pV t).2=0
   ·rw[if_neg (by simpa using h3),if_neg (by decide),if_pos rfl,h3]
   ·rw[if_pos h3]
  ·intro h3
   unfold spanL
   dsimp only
   rw[if_neg (by decide),if_neg (by simpa using h3),if_neg (by decide),if_pos rfl]
 rw[if_neg h2]
 -- a span that is one word
 have hk:itemL p=(⟨(shortK p).1,(shortK p).2,[]⟩,true)∧(shortK p).1≠42∧(shortK p).1≠62∧(shortK p).1≠60∧(shortK p).1≠98:=by
  rw[itemL,if_neg h0,if_neg h1]
  cases p with
  | nil=>exact⟨rfl,by decide,by decide,by decide,by decide⟩
  | cons c t =>
    have hc:c≠60:=fun e=>h2 (by rw[e];rfl)
    have hr:rowL t=true:=rowL_none (fun e=>hp (by simp[e]))
    have hr2:rowL (c::t)=true:=rowL_none hp
    unfold shortK
    simp only[List.isEmpty_cons,Bool.not_false,Bool.true_and,List.headD_cons,List.drop_succ_cons,List.drop_zero]
    by_cases h3:([61,94,126]:Str).contains c=true
    ·have h4:([60,61,94,126]:Str).contains c=true:=by
      simp only[List.contains_cons,List.contains_nil,Bool.or_false,Bool.or_eq_true] at h3 ⊢
      exact .inr h3
     rw[if_pos h4,if_pos h3,hr]
     have h5:c=61∨c=94∨c=126:=by simpa using h3
     refine⟨rfl,?_⟩
     rcases h5 with rfl|rfl|rfl<;>(dsimp only;decide)
    ·have h4:¬ ([60,61,94,126]:Str).contains c=true:=by
      simp only[List.contains_cons,List.contains_nil,Bool.or_false,Bool.or_eq_true,beq_iff_eq] at h3 ⊢
      exact fun e=>e.elim hc h3
     rw[if_neg h4,if_neg h3,hr2]
     dsimp only
     exact⟨rfl,by decide,by decide,by decide,by decide⟩
 obtain⟨hi,k1,k2,k3,k4⟩:=hk
 rw[hi,shortL,if_neg h0]
 generalize (shortK p).1=kc at *
 generalize (shortK p).2=kw at *
 have e1:(kc==98)=false:=by simpa using k4
 have e2:(kc != 42)=true:=by simpa using k1
 dsimp only
 rw[e1,e2]
 simp only[Bool.not_true,Bool.false_or,Bool.true_and,Bool.false_and,Bool.or_false,wrongL,decide_eq_true_eq,decide_eq_false_iff_not]
 unfold spanL
 dsimp only
 rw[if_neg k1]
 by_cases h3:(pV kw).2=0
 ·rw[if_neg (by simpa using h3),if_neg (by simpa using h3),if_neg k2,if_neg k3,if_neg k4]
  exact⟨(fun h=>by (rw[h3] at h;exact absurd h (by decide))),fun _=>⟨behind_ne8 _ _ (pV_err h3),rfl,fun _=>rfl⟩⟩
 ·rw[if_pos h3,if_pos h3]
  exact⟨fun h=>h,fun h=>⟨h,rfl,fun _=>rfl⟩⟩
theorem same_more (a r:Str) (ha:(32:UInt8) ∉ a):Same (a++32::r):=by
 have hs:splitC 32 (a++32::r)=a::splitC 32 r:=splitC_app 32 r a ha
 have hn:¬ a++32::r=[42]:=by
  intro e
  cases a with
  | nil=>simp at e
  | cons x t=>simp at e
 unfold Same synL refItem
 rw[hs]
 by_cases h1:Lib.hasPrefix a [62,61]=true
 ·obtain⟨f,rfl⟩:=prefix_drop h1
  have hf:(32:UInt8) ∉ f:=fun e=>ha (by simp[e])
  have hcut:cutC 32 ((62::61::f++32::r:Str).drop 2)=(f,r,true):=cutC_app 32 f r hf
  have hi:itemL (62::61::f++32::r)=(⟨98,f,Lib.trimPrefix r [60]⟩,Lib.hasPrefix r [60]&&rowL (Lib.trimPrefix r [60])):=by
   rw[itemL,if_neg hn,if_pos (prefix2_app h1),hcut]
   dsimp only
   rw[if_pos rfl,rowL_none hf,Bool.and_true]
  rw[hi]
  dsimp only
  have e1:((98:UInt8)==98)=true:=rfl
  have e2:((98:UInt8) != 42)=true:=by decide
  rw[e1,e2]
  simp only[Bool.true_and]
  by_cases h2:Lib.hasPrefix r [60]=true
  ·obtain⟨t,rfl⟩:=prefix1 h2
   have htr:Lib.trimPrefix (60::t) [60]=t:=by rw[Lib.trimPrefix,if_pos h2];rfl
   rw[htr,h2]
   rcases first_cut 32 t with ht|⟨u,v,hu,rfl⟩
   ·have hsr:splitC 32 (60::t)=[60::t]:=splitC_none 32 _ (by simpa using ht)
    rw[hsr,rowL_none ht]
    dsimp only
    rw[if_pos (by rw[h1];rfl)]
    simp only[List.drop_succ_cons,List.drop_zero,Bool.and_true,Bool.not_true,Bool.false_or,wrongL]
    unfold spanL
    dsimp only
    rw[if_neg (show ¬ (98:UInt8)=42 by decide)]
    refine⟨fun h=>?_,fun h=>?_⟩
    ·simp only[Bool.or_eq_true,decide_eq_true_eq] at h
     rw[if_pos h]
    ·simp only[Bool.or_eq_false_iff,decide_eq_false_iff_not] at h
     rw[if_neg (by rintro (e|e);exact h.1 e;exact h.2 e)]
     by_cases h3:(pV f).2=0
     ·have hfi:firstI [(pV f).2,(pV t).2]=(pV t).2:=by
       rw[firstI,if_pos h3,firstI]
       by_cases h4:(pV t).2=0
       ·rw[if_pos h4,h4];rfl
       ·rw[if_neg h4]
      rw[hfi,if_neg (by simpa using h3),if_neg (show ¬ (98:UInt8)=62 by decide),if_neg (show ¬ (98:UInt8)=60 by decide),if_pos rfl]
      exact⟨h.2,rfl,fun _=>rfl⟩
     ·have hfi:firstI [(pV f).2,(pV t).2]=(pV f).2:=by rw[firstI,if_neg h3]
      rw[hfi,if_pos h3]
      exact⟨h.1,rfl,fun e=>absurd e h3⟩
   ·have hsr:splitC 32 (60::(u++32::v))=(60::u)::splitC 32 v:=splitC_app 32 v (60::u) (by simpa using hu)
    rw[hsr,rowL_app]
    refine⟨fun _=>?_,fun h=>by simp at h⟩
    cases hv:splitC 32 v with
    | nil=>exact absurd hv (splitC_ne 32 v)
    | cons q qs=>rfl
  ·have h2f:Lib.hasPrefix r [60]=false:=by simpa using h2
   rw[h2f]
   refine⟨fun _=>?_,fun h=>by simp at h⟩
   cases hr:splitC 32 r with
   | nil=>exact absurd hr (splitC_ne 32 r)
   | cons q qs =>
     cases qs with
     | nil =>
       dsimp only
       have hq:q=r:=by
        rcases first_cut 32 r with h|⟨u,v,hu,rfl⟩
        ·rw[splitC_none 32 r h] at hr;injection hr with e;exact e.symm
        ·rw[splitC_app 32 v u hu] at hr
         injection hr with _ e
         exact absurd e (splitC_ne 32 v)
       rw[hq,h2f,Bool.and_false,if_neg (by decide)]
     | cons _ _=>rfl
 ·have h1f:Lib.hasPrefix a [62,61]=false:=by simpa using h1
  have hbad:(itemL (a++32::r)).2=false:=by
   rw[itemL,if_neg hn,if_neg (by rw[prefix2_cons h1f];decide)]
   cases a with
   | nil=>rw[if_neg (by simp)];exact rowL_app [] r
   | cons c t =>
     split
     ·exact rowL_app t r
     ·exact rowL_app (c::t) r
  rw[hbad]
  refine⟨fun _=>?_,fun h=>by simp at h⟩
  cases hr:splitC 32 r with
  | nil=>exact absurd hr (splitC_ne 32 r)
  | cons q qs =>
    cases qs with
    | nil =>
      dsimp only
      rw[h1f,Bool.false_and,if_neg (by decide)]
    | cons _ _=>rfl
theorem same_any (p:Str):Same p:=by
 rcases first_cut 32 p with h|⟨a,r,ha,rfl⟩
 ·exact same_one p h
 ·exact same_more a r ha
theorem syn_iff (p:Str):synL p=decide ((refItem p).2=8):=by
 obtain⟨h1,h2⟩:=same_any p
 cases h:synL p
 ·rw[decide_eq_false (h2 h).1]
 ·rw[decide_eq_true (h1 h)]
theorem spansOf_congr {ps:List Str} (f g:Str->Sp × Int) (h2:∀ p∈ps,(f p).2=(g p).2) (h1:∀ p∈ps,(f p).2=0->(f p).1=(g p).1):spansOf (ps.map f)=spansOf (ps.map g):=by
 have e2:(ps.map f).map (·.2)=(ps.map g).map (·.2):=by
  rw[List.map_map,List.map_map]
  exact List.map_congr_left h2
 unfold spansOf
 rw[e2]
 by_cases h0:firstI ((ps.map g).map (·.2))≠0
 ·rw[if_pos h0,if_pos h0]
 ·have h0':=Classical.not_not.1 h0
  have e1:(ps.map f).map (·.1)=(ps.map g).map (·.1):=by
   rw[List.map_map,List.map_map]
   refine List.map_congr_left fun p hp=>h1 p hp ?_
   rw[h2 p hp]
   exact firstI_ne h0' _ (by rw[List.map_map];exact List.mem_map.2 ⟨p,hp,rfl⟩)
  rw[if_neg h0,if_neg h0,e1]
theorem read_same (s:Str):readR s=parseR s:=by
 unfold readR parseR
 have hany:(Lib.split s [44,32]).any (fun p=>decide ((refItem p).2=8))=(Lib.split s [44,32]).any synL:=by
  congr 1
  funext p
  exact (syn_iff p).symm
 rw[hany]
 by_cases h0:1000 < s.length
 ·rw[if_pos h0,if_pos h0]
 rw[if_neg h0,if_neg h0]
 by_cases h1:s=[110,111,110,101]
 ·rw[if_pos h1,if_pos h1]
 rw[if_neg h1,if_neg h1]
 by_cases h2:(Lib.split s [44,32]).any synL=true
 ·rw[if_pos h2,if_pos h2]
 rw[if_neg h2,if_neg h2]
 have h3:∀ p∈Lib.split s [44,32],synL p=false:=fun p hp=>by
  cases h:synL p
  ·rfl
  ·exact absurd (List.any_eq_true.2 ⟨p,hp,h⟩) h2
 exact spansOf_congr _ _ (fun p hp=>((same_any p).2 (h3 p hp)).2.1) (fun p hp=>((same_any p).2 (h3 p hp)).2.2)
end
section
end
section
open Go.RowKit
abbrev verV (v:V4):Value:=.agg #[.int .i64 v.a1,.int .i64 v.a2,.int .i64 v.a3,.string v.a]
abbrev spV (s:Sp):Value:=.agg #[.bool s.hf,.bool s.ht,.int .i64 s.f.a1,.int .i64 s.f.a2,.int .i64 s.f.a3,.string s.f.a,.int .i64 s.t.a1,.int .i64 s.t.a2,.int .i64 s.t.a3,.string s.t.a]
theorem str_eq (a b:ByteArray):(a.toList=b.toList)=(a=b):=by
 rw[ByteArray.toList_eq,ByteArray.toList_eq]
 exact propext ⟨fun h=>bs_inj h,fun h=>by rw[h]⟩
theorem run_eqv (d:Nat) (u v:V4) (w:World):(Op.equalIn (d+2) 23 (verV u) (verV v)).run Tryz.prog w=.ok (decide (u=v)) w:=by
 obtain⟨u1,u2,u3,u⟩:=u
 obtain⟨v1,v2,v3,v⟩:=v
 dsimp only[verV]
 rw[run_equalIn_agg w (d+1) 23 _ _ (by kernel_rfl) (by kernel_rfl)]
 go_simp
 simp only[str_eq]
 by_cases h1:u1=v1<;>by_cases h2:u2=v2<;>by_cases h3:u3=v3<;>by_cases h4:u=v<;>simp[h1,h2,h3,h4]
theorem run_neqv (u v:V4) (w:World):(binOp .neq 23 (verV u) (verV v)).run Tryz.prog w=.ok (.bool (!decide (u=v))) w:=by
 rw[run_neq_struct,run_eqv 9998]
 rfl
theorem run_eqs (d:Nat) (u v:Sp) (w:World):(Op.equalIn (d+3) 130 (spV u) (spV v)).run Tryz.prog w=.ok (decide (u=v)) w:=by
 obtain⟨uf,ut,⟨u1,u2,u3,ua⟩,⟨u4,u5,u6,ub⟩⟩:=u
 obtain⟨vf,vt,⟨v1,v2,v3,va⟩,⟨v4,v5,v6,vb⟩⟩:=v
 dsimp only[spV]
 rw[run_equalIn_agg w (d+2) 130 _ _ (by kernel_rfl) (by kernel_rfl)]
 simp only[Sp.mk.injEq,V4.mk.injEq]
 go_simp
 simp only[str_eq]
 repeat' split
 all_goals simp_all
theorem run_neqs (u v:Sp) (w:World):(binOp .neq 130 (spV u) (spV v)).run Tryz.prog w=.ok (.bool (!decide (u=v))) w:=by
 rw[run_neq_struct,run_eqs 9997]
 rfl
structure SpS (w:World) (b o:Nat) (l:List Sp):Prop where
 c0:∀ k (h:k < l.length),w.cell? ⟨b,o+k * 10,none⟩=some (.bool l[k].hf)
 c1:∀ k (h:k < l.length),w.cell? ⟨b,o+k * 10+1,none⟩=some (.bool l[k].ht)
 c2:∀ k (h:k < l.length),w.cell? ⟨b,o+k * 10+2,none⟩=some (.int .i64 l[k].f.a1)
 c3:∀ k (h:k < l.length),w.cell? ⟨b,o+k * 10+3,none⟩=some (.int .i64 l[k].f.a2)
 c4:∀ k (h:k < l.length),w.cell? ⟨b,o+k * 10+4,none⟩=some (.int .i64 l[k].f.a3)
 c5:∀ k (h:k < l.length),w.cell? ⟨b,o+k * 10+5,none⟩=some (.string l[k].f.a)
 c6:∀ k (h:k < l.length),w.cell? ⟨b,o+k * 10+6,none⟩=some (.int .i64 l[k].t.a1)
 c7:∀ k (h:k < l.length),w.cell? ⟨b,o+k * 10+7,none⟩=some (.int .i64 l[k].t.a2)
 c8:∀ k (h:k < l.length),w.cell? ⟨b,o+k * 10+8,none⟩=some (.int .i64 l[k].t.a3)
 c9:∀ k (h:k < l.length),w.cell? ⟨b,o+k * 10+9,none⟩=some (.string l[k].t.a)
theorem SpS.ext {w w':World} {b o:Nat} {l:List Sp} (h:SpS w b o l) (hx:Ext w w'):SpS w' b o l :=
 ⟨fun k hk=>hx.cell (h.c0 k hk),fun k hk=>hx.cell (h.c1 k hk),fun k hk=>hx.cell (h.c2 k hk),fun k hk=>hx.cell (h.c3 k hk),fun k hk=>hx.cell (h.c4 k hk),
   fun k hk=>hx.cell (h.c5 k hk),fun k hk=>hx.cell (h.c6 k hk),fun k hk=>hx.cell (h.c7 k hk),fun k hk=>hx.cell (h.c8 k hk),fun k hk=>hx.cell (h.c9 k hk)⟩
def RdS (w:World) (A:Option Addr) (l:List Sp):Prop:=l≠[]->∃ b o,A=some ⟨b,o,none⟩∧SpS w b o l
theorem RdS.ext {w w':World} {A:Option Addr} {l:List Sp} (h:RdS w A l) (hx:Ext w w'):RdS w' A l:=fun hn=>by
 obtain⟨b,o,e,k⟩:=h hn
 exact⟨b,o,e,k.ext hx⟩
set_option maxHeartbeats 4000000 in
theorem EqualS_any (A B:Option Addr) (n m c d:Nat) (xs ys:List Sp) (w:World) (hn:xs.length=n) (hm:ys.length=m) (hx:RdS w A xs) (hy:RdS w B ys) (hl:n<=2097152) (hl2:m<=2097152) :
 Calls Tryz.prog 95 #[.slice A n c,.slice B m d] w fun e w'=>e=.returned (.bool (decide (xs=ys)))∧Ext w w':=by
 by_cases hnm:n=m
 rotate_left
 ·have h1:¬ (n:Int)=(m:Int):=by omega
  have hne:¬ xs=ys:=fun e=>hnm (by rw[<-hn,<-hm,e])
  have HNE:=Hy hne
  clear hne hnm hn hm
  go_enter Tryz.func95,Tryz.ntmps95
  go_wp2
  go_ret
  exact⟨ret_bool (decide_eq_false HNE.out).symm,Ext.refl _⟩
 subst hnm
 have HN:=Hy hn
 have HM:=Hy hm
 clear hn hm
 rcases Nat.eq_zero_or_pos n with h0|h0
 ·subst h0
  have he:xs=ys:=by rw[List.eq_nil_of_length_eq_zero HN.out,List.eq_nil_of_length_eq_zero HM.out]
  have HE:=Hy he
  clear he
  go_enter Tryz.func95,Tryz.ntmps95
  go_wp2
  go_loop [13] (fun i=>i=.int .i64 0) (fun i=>0)
  case atStart=>rfl
  case round =>
   subst hrel
   go_wp2
   go_ret
   exact⟨ret_bool (decide_eq_true HE.out).symm,Ext.refl _⟩
 obtain⟨b1,o1,rfl,hX⟩:=hx (fun e=>by have:=HN.out;rw[e] at this;simp at this;omega)
 obtain⟨b2,o2,rfl,hY⟩:=hy (fun e=>by have:=HM.out;rw[e] at this;simp at this;omega)
 go_enter Tryz.func95,Tryz.ntmps95
 go_wp2
 go_loopw [13] (fun i wr=>∃ k:Nat,k<=n∧i=.int .i64 k∧(∀ j (h1:j < xs.length) (h2:j < ys.length),j < k->xs[j]=ys[j])∧Ext w wr) (fun i _=>n - (intOf i).toNat)
 case atStart=>exact⟨0,Nat.zero_le _,rfl,fun j _ _ h=>absurd h (by omega),Ext.refl _⟩
 case round =>
  obtain⟨k,hk,rfl,hall,hxr⟩:=hrel
  have HALL:=Hy hall
  clear hall
  by_cases hlt:k < n
  ·have hk1:k < xs.length:=by rw[HN.out];exact hlt
   have hk2:k < ys.length:=by rw[HM.out];exact hlt
   have X:=hX.ext hxr
   have Y:=hY.ext hxr
   have x0:=X.c0 k hk1;have x1:=X.c1 k hk1;have x2:=X.c2 k hk1;have x3:=X.c3 k hk1;have x4:=X.c4 k hk1
   have x5:=X.c5 k hk1;have x6:=X.c6 k hk1;have x7:=X.c7 k hk1;have x8:=X.c8 k hk1;have x9:=X.c9 k hk1
   have y0:=Y.c0 k hk2;have y1:=Y.c1 k hk2;have y2:=Y.c2 k hk2;have y3:=Y.c3 k hk2;have y4:=Y.c4 k hk2
   have y5:=Y.c5 k hk2;have y6:=Y.c6 k hk2;have y7:=Y.c7 k hk2;have y8:=Y.c8 k hk2;have y9:=Y.c9 k hk2
   clear X Y
   have hone:xs[k]=ys[k]->∀ j (h1:j < xs.length) (h2:j < ys.length),j < k+1->xs[j]=ys[j]:=fun e j h1 h2 h3=>by
    by_cases hj:j=k
    ·subst hj;exact e
    ·exact HALL.out j h1 h2 (by omega)
   have hno:¬ xs[k]=ys[k]->decide (xs=ys)=false:=fun e=>decide_eq_false fun e2=>e (by subst e2;rfl)
   have HONE:=Hy hone
   have HNO:=Hy hno
   clear hone hno
   generalize xs[k]=x at *
   generalize ys[k]=y at *
   have hq:=run_neqs x y
   obtain⟨xf,xt,⟨xa,xb,xc,xd⟩,⟨xe,xg,xh,xi⟩⟩:=x
   obtain⟨yf,yt,⟨ya,yb,yc,yd⟩,⟨ye,yg,yh,yi⟩⟩:=y
   dsimp only[spV] at hq x0 x1 x2 x3 x4 x5 x6 x7 x8 x9 y0 y1 y2 y3 y4 y5 y6 y7 y8 y9
   generalize hX:(⟨xf,xt,⟨xa,xb,xc,xd⟩,⟨xe,xg,xh,xi⟩⟩:Sp)=X at *
   generalize hY:(⟨yf,yt,⟨ya,yb,yc,yd⟩,⟨ye,yg,yh,yi⟩⟩:Sp)=Y at *
   clear hX hY
   by_cases hz:X=Y
   ·rw[decide_eq_true hz] at hq
    have HZ:=Hy hz
    clear hz
    go_wp2
    go_quiet (fail)
    go_wp2
    go_roundw
    case rel=>exact⟨k+1,by omega,by go_num,HONE.out HZ.out,hxr.drewN _⟩
    case measure=>simp[intOf];omega
   ·rw[decide_eq_false hz] at hq
    have HZ:=Hy hz
    clear hz
    go_wp2
    go_quiet (fail)
    go_wp2
    go_ret
    exact⟨ret_bool (HNO.out HZ.out).symm,hxr.drewN _⟩
  ·obtain rfl:k=n:=by omega
   go_wp2
   go_ret
   refine⟨ret_bool (decide_eq_true ?_).symm,hxr⟩
   refine List.ext_getElem (by rw[HN.out,HM.out]) fun j h1 h2=>HALL.out j h1 h2 (by have:=HN.out;omega)
end
section
open Go.RowKit
abbrev eAnd:MapEntry:=⟨.string ⟨#[97,110,100]⟩,.int .i64 7,0⟩
abbrev eOr:MapEntry:=⟨.string ⟨#[111,114]⟩,.int .i64 8,1⟩
def KindMap (w:World) (b:Nat):Prop:=w.heap[b]?=some (.map #[eAnd,eOr] 2)
theorem KindMap.lt {w:World} {b:Nat} (h:KindMap w b):b < w.heap.size:=(Array.getElem?_eq_some_iff.1 h).1
theorem KindMap.ext {b:Nat} {w w':World} (h:KindMap w b) (hx:Ext w w'):KindMap w' b:=(hx.block b h.lt).trans h
theorem KindMap.alloc {b:Nat} {w:World} (h:KindMap w b) (o:Obj):KindMap (w.alloc o) b:=h.ext ((Ext.refl w).alloc o)
theorem KindMap.far {b:Nat} {w:World} (h:KindMap w b) {p:Addr} (hp:b≠p.block) (u:Value):KindMap (w.setCell p u) b:=(Below.heap_setCell w p u b hp).trans h
theorem KindMap.grownR {b:Nat} {row:Option Nat} {w w':World} (h:KindMap w b) (hg:w.grownBy w' row) (hne:some b≠row):KindMap w' b:=(hg.block b h.lt hne).trans h
end
section
open Go.RowKit
def Cd.kind:Cd->Int|.mk k _ _ _=>k
def Cd.name:Cd->ByteArray|.mk _ n _ _=>n
def Cd.value:Cd->ByteArray|.mk _ _ x _=>x
def Cd.args:Cd->List Cd|.mk _ _ _ l=>l
mutual
def cnt:Cd->Nat|.mk _ _ _ l=>1+cnts l
def cnts:List Cd->Nat|[]=>0|c::l=>cnt c+cnts l
end
mutual
def prt (lev:Nat):Cd->List (Cd × Nat)|.mk k n x l=>(.mk k n x l,lev)::prts (lev+1) l
def prts (lev:Nat):List Cd->List (Cd × Nat)|[]=>[]|c::l=>prt lev c++prts lev l
end
theorem cnt_pos (c:Cd):0 < cnt c:=by cases c;unfold cnt;omega
mutual
theorem prt_len (lev:Nat):∀ c:Cd,(prt lev c).length=cnt c
 | .mk k n x l=>by unfold prt cnt;rw[List.length_cons,prts_len (lev+1) l];omega
theorem prts_len (lev:Nat):∀ l:List Cd,(prts lev l).length=cnts l
 | []=>rfl
 | c::l=>by unfold prts cnts;rw[List.length_append,prt_len lev c,prts_len lev l]
end
theorem prts_append (lev:Nat) (a b:List Cd):prts lev (a++b)=prts lev a++prts lev b:=by
 induction a with
 | nil=>simp[prts]
 | cons x r ih=>simp only[List.cons_append,prts,ih,List.append_assoc]
inductive SmallC:Cd->Prop where
 | mk (k:Int) (n x:ByteArray) (l:List Cd) (hn:n.size<=2097152) (hx:x.size<=2097152) (hl:l.length<=100000000) (hr:∀ c∈l,SmallC c):SmallC (.mk k n x l)
def namedK (k:Int):Bool:=decide (2<=k)&&decide (k<=5)
def valuedK (k:Int):Bool:=namedK k&&!decide (k=4)
def formBad (k:Int) (n x:Str) (m:Nat):Bool :=
 (!namedK k&&!n.isEmpty)||(!valuedK k&&!x.isEmpty)||(!decide (6<=k)&&decide (0 < m))||(decide (k=6)&&!decide (m=1))
def partErr (k:Int) (n x:Str) (m:Nat):Int :=
 if k < 1∨8 < k then 1
 else if formBad k n x m=true then 2
 else if namedK k=false then 0
 else if (!(if k=3∨k=4 then pathL n else nameL n))=true then 5
 else if (!valueL x)=true then 2
 else if k=5 then (parseR x).2 else 0
def partC (c:Cd):Int:=partErr c.kind (bs c.name) (bs c.value) c.args.length
def firstErr:List (Cd × Nat)->Int
 | []=>0
 | p::r=>if partC p.1=0 then firstErr r else partC p.1
def checkC (c:Cd):Int :=
 if 100 < cnt c then 4
 else if firstErr (prt 0 c)≠0 then firstErr (prt 0 c)
 else if (prt 0 c).any (fun p=>decide (20 < p.2))=true then 4 else 0
end
section
open Go.RowKit
theorem CdIn.extC {C P:Nat->Prop} {w w':World} {c:Cd} {v:Value} (h:CdIn P w c v) (hx:ExtC C w w') (hp:∀ k,P k->¬ C k):CdIn P w' c v:=h.keep fun b _ _ hb e=>hx.cell (hp b hb) e
def runP {α:Type} (step:Cd->Nat->α->α × Bool):List (Cd × Nat)->α->α × Bool
 | [],st=>(st,true)
 | p::r,st=>if (step p.1 p.2 st).2=true then runP step r (step p.1 p.2 st).1 else ((step p.1 p.2 st).1,false)
theorem runP_append {α:Type} (step:Cd->Nat->α->α × Bool) (b:List (Cd × Nat)):∀ (a:List (Cd × Nat)) (st:α),runP step (a++b) st=if (runP step a st).2=true then runP step b (runP step a st).1 else ((runP step a st).1,false)
 | [],st=>by simp[runP]
 | p::r,st=>by
   simp only[List.cons_append,runP]
   by_cases h:(step p.1 p.2 st).2=true
   ·simp only[if_pos h,runP_append step b r]
   ·simp only[if_neg h]
    simp
theorem runP_stop {α:Type} (step:Cd->Nat->α->α × Bool) (lev:Nat) (l:List Cd) (j:Nat) (h:j < l.length) {st s1 s2:α} (h1:runP step (prts lev (l.take j)) st=(s1,true)) (h2:runP step (prt lev l[j]) s1=(s2,false)):runP step (prts lev l) st=(s2,false):=by
 have e:prts lev l=(prts lev (l.take j)++prt lev l[j])++prts lev (l.drop (j+1)):=by
  rw[List.append_assoc]
  conv=>lhs;rw[<-List.take_append_drop j l,prts_append,List.drop_eq_getElem_cons h]
  rfl
 rw[e,runP_append,runP_append,h1]
 simp[h2]
theorem runP_next {α:Type} (step:Cd->Nat->α->α × Bool) (lev:Nat) (l:List Cd) (j:Nat) (h:j < l.length) {st s1 s2:α} (h1:runP step (prts lev (l.take j)) st=(s1,true)) (h2:runP step (prt lev l[j]) s1=(s2,true)):runP step (prts lev (l.take (j+1))) st=(s2,true):=by
 have e:prts lev (l.take (j+1))=prts lev (l.take j)++prt lev l[j]:=by
  rw[List.take_succ_eq_append_getElem h,prts_append]
  simp[prts]
 rw[e,runP_append,h1]
 simp[h2]
theorem cnts_at:∀ (l:List Cd) (j:Nat) (h:j < l.length),cnt l[j]<=cnts l
 | c::l,0,_=>by simp only[cnts,List.getElem_cons_zero];omega
 | c::l,j+1,h=>by
   have:=cnts_at l j (by simpa using h)
   simp only[cnts,List.getElem_cons_succ]
   omega
theorem cnts_len:∀ (l:List Cd),l.length<=cnts l
 | []=>Nat.le_refl _
 | c::l=>by
   have:=cnts_len l
   have:=cnt_pos c
   simp only[cnts,List.length_cons]
   omega
theorem runP_yes {α:Type} (step:Cd->Nat->α->α × Bool) (hyes:∀ c lev st,(step c lev st).2=true):∀ (l:List (Cd × Nat)) (st:α),(runP step l st).2=true
 | [],_=>rfl
 | p::r,st=>by
   unfold runP
   rw[if_pos (hyes _ _ _)]
   exact runP_yes step hyes r _
set_option maxRecDepth 100000 in
set_option maxHeartbeats 8000000 in
theorem walk_any {α:Type} (f:FuncId) (caps:Array Value) (hen:∀ xs w,Sem.run Tryz.prog (callFunc f xs) w=.ok (.enter f xs) w) (P C:Nat->Prop) (B:Nat) (Inv:α->World->Prop) (step:Cd->Nat->α->α × Bool)
 (hal:∀ st w w',Inv st w->Ext w w'->Inv st w') (hC:∀ k,C k->k < B) (hB:∀ st w,Inv st w->B<=w.heap.size) (hP:∀ k,P k->¬ C k)
 (hf:∀ c v (lev:Nat) st w,lev<=1000000000->SmallC c->CdIn P w c v->Inv st w->Calls Tryz.prog f (#[v,.int .i64 lev]++caps) w fun e w'=>e=.returned (.bool (step c lev st).2)∧Inv (step c lev st).1 w'∧ExtC C w w') :
 ∀ (N:Nat) (c:Cd),cnt c<=N->∀ (lev:Nat) (v:Value) (st:α) (w:World),lev+N<=1000000000->SmallC c->CdIn P w c v->Inv st w ->
  Calls Tryz.prog 171 #[v,.int .i64 lev,.func (.func f) #[] caps] w fun e w'=>e=.returned (.bool (runP step (prt lev c) st).2)∧Inv (runP step (prt lev c) st).1 w'∧ExtC C w w':=by
 intro N
 induction N with
 | zero=>intro c hc;have:=cnt_pos c;omega
 | succ N ih =>
   intro c hc lev v st w hlev hsm hcd hinv
   have hc0:=hcd
   cases hcd with
   | mk k n x l A cp b o u0 u1 u2 u3 hA hb h0 h1 h2 h3 hr =>
     obtain⟨_,_,_,_,hsn,hsx,hsl,hsr⟩:=hsm
     have hnw:w.heap.size<=w.heap.size:=Nat.le_refl _
     have hBw:=hB _ _ hinv
     have hnC:¬ C w.heap.size:=fun h=>by have:=hC _ h;omega
     have hxb:Ext w (w.alloc (.cells #[.int .i64 k,.string n,.string x,.slice A l.length cp] 52)):=(Ext.refl w).alloc _
     have hfb:=hf (.mk k n x l) _ lev st _ (by omega) ⟨k,n,x,l,hsn,hsx,hsl,hsr⟩ (hc0.ext hxb) (hal _ _ _ hinv hxb)
     have bx:=Blk.new w 52 #[.int .i64 k,.string n,.string x,.slice A l.length cp]
     have hrun:runP step (prt lev (.mk k n x l)) st=(if (step (.mk k n x l) lev st).2=true then runP step (prts (lev+1) l) (step (.mk k n x l) lev st).1 else ((step (.mk k n x l) lev st).1,false)):=rfl
     rw[hrun]
     have hcl:cnts l<=N:=by unfold cnt at hc;omega
     have hlw:IntKind.i64.wrap ((lev:Int)+1)=(lev:Int)+1:=by rw[IntKind.wrap_i64];omega
     have hll:=cnts_len l
     skip
     generalize step (.mk k n x l) lev st=S at *
     obtain⟨st1,ok⟩:=S
     dsimp only at hfb ⊢
     have HF:=Hy hfb
     have HEN:=hen
     clear hfb hrun hc hinv
     cases ok
     ·go_enter Tryz.func171,Tryz.ntmps171
      go_wp2_with fail
      refine HF.out.mono ?_
      rintro e w1 ⟨rfl,hinv1,hx1⟩
      go_wp2
      go_ret
      exact⟨rfl,hinv1,(ExtC.ofExt hxb).trans hx1⟩
     obtain⟨R,hR⟩:∃ R,runP step (prts (lev+1) l) st1=R:=⟨_,rfl⟩
     rw[if_pos rfl,hR]
     have HR:=Hy hR
     have HIHs:=Hy ih
     have HSR:=Hy hsr
     have HH0:=Hy h0;have HH1:=Hy h1;have HH2:=Hy h2;have HH3:=Hy h3;have HHR:=Hy hr
     have HB:=Hy hB;have HP:=Hy hP;have HA:=Hy hA;have HBB:=Hy hb;have HAL:=Hy hal
     clear hR ih hf h0 h1 h2 h3 hr hsr hB hP hA hb hc0 hal
     go_enter Tryz.func171,Tryz.ntmps171
     go_wp2_with fail
     refine HF.out.mono ?_
     rintro e w1 ⟨rfl,hinv1,hx1⟩
     have bx1:=bx.extC hx1 hnC
     have bc:=bx1.cell;have bf:=bx1.free;have bz:=bx1.lt
     have hxa:=(ExtC.ofExt hxb).trans hx1
     clear bx
     go_wp2
     go_loopw [17] (fun t wr=>∃ (j:Nat) (sj:α),t=.int .i64 j∧j<=l.length∧Inv sj wr∧ExtC C w wr∧runP step (prts (lev+1) (l.take j)) st1=(sj,true)) (fun t _=>l.length - (intOf t).toNat)
     case atStart=>exact⟨0,st1,by go_num,Nat.zero_le _,hinv1,hxa,rfl⟩
     case round =>
      obtain⟨j,sj,rfl,hj,hinvr,hxr,hdone⟩:=hrel
      have HXR:=Hy hxr
      clear bc bf bz bx1 hx1 hinv1 HF hxa
      by_cases hlt:j < l.length
      ·obtain rfl:=HA.out (by omega)
       have hPb:=HBB.out (by omega)
       have hnb:=HP.out b hPb
       have g0:=hxr.cell hnb (HH0.out j hlt)
       have g1:=hxr.cell hnb (HH1.out j hlt)
       have g2:=hxr.cell hnb (HH2.out j hlt)
       have g3:=hxr.cell hnb (HH3.out j hlt)
       have hcj:=HHR.out j hlt
       obtain⟨ck,cn,cx,cA,cm,ccp,hcc⟩:=hcj.cells
       have hcc2:=hcc
       simp only[Value.agg.injEq,Array.mk.injEq,List.cons.injEq,and_true] at hcc2
       obtain⟨q0,q1,q2,q3⟩:=hcc2
       rw[hcc] at hcj
       rw[q0] at g0;rw[q1] at g1;rw[q2] at g2;rw[q3] at g3
       clear hcc q0 q1 q2 q3
       have hxc:Ext wr (wr.alloc (.cells #[.int .i64 ck,.string cn,.string cx,.slice cA cm ccp] 52)):=(Ext.refl wr).alloc _
       have hih:=HIHs.out l[j] (Nat.le_trans (cnts_at l j hlt) hcl) (lev+1) _ sj _ (by omega) (HSR.out _ (List.getElem_mem hlt)) ((hcj.extC hxr HP.out).ext hxc) (HAL.out _ _ _ hinvr hxc)
       rw[show ((lev+1:Nat):Int)=(lev:Int)+1 by omega] at hih
       generalize hs2:runP step (prt (lev+1) l[j]) sj=S2 at *
       have hq0:(0:Int)<=(j:Int):=by omega
       clear hxr hxc hcj
       obtain⟨s2,ok2⟩:=S2
       dsimp only at hih
       have HIH:=Hy hih
       cases ok2
       ·have hfin:=runP_stop step (lev+1) l j hlt hdone hs2
        rw[HR.out] at hfin
        subst hfin
        clear hdone hs2 hih
        go_wp2_with fail
        refine HIH.out.mono ?_
        rintro e w3 ⟨rfl,hinv3,hx3⟩
        go_wp2
        go_ret
        exact⟨rfl,hinv3,(HXR.out.trans (ExtC.ofExt ((Ext.refl wr).alloc _))).trans hx3⟩
       ·have hnx:=runP_next step (lev+1) l j hlt hdone hs2
        have HNX:=Hy hnx
        clear hdone hs2 hnx hih
        go_wp2_with fail
        refine HIH.out.mono ?_
        rintro e w3 ⟨rfl,hinv3,hx3⟩
        go_wp2
        go_roundw
        case rel=>exact⟨j+1,s2,by go_num,hlt,hinv3,(HXR.out.trans (ExtC.ofExt ((Ext.refl wr).alloc _))).trans hx3,HNX.out⟩
        case measure=>simp[intOf];omega
      ·have hjl:l.take j=l:=List.take_of_length_le (by omega)
       rw[hjl,HR.out] at hdone
       subst hdone
       go_wp2
       go_ret
       exact⟨rfl,hinvr,HXR.out⟩
set_option maxRecDepth 100000 in
set_option maxHeartbeats 8000000 in
theorem CondParts_any {α:Type} (f:FuncId) (caps:Array Value) (hen:∀ xs w,Sem.run Tryz.prog (callFunc f xs) w=.ok (.enter f xs) w) (P C:Nat->Prop) (B:Nat) (Inv:α->World->Prop) (step:Cd->Nat->α->α × Bool)
 (hal:∀ st w w',Inv st w->Ext w w'->Inv st w') (hC:∀ k,C k->k < B) (hB:∀ st w,Inv st w->B<=w.heap.size) (hP:∀ k,P k->¬ C k) (hyes:∀ c lev st,(step c lev st).2=true)
 (hf:∀ c v (lev:Nat) st w,lev<=1000000000->SmallC c->CdIn P w c v->Inv st w->Calls Tryz.prog f (#[v,.int .i64 lev]++caps) w fun e w'=>e=.returned (.tuple #[])∧Inv (step c lev st).1 w'∧ExtC C w w') :
 ∀ (N:Nat) (c:Cd),cnt c<=N->∀ (lev:Nat) (v:Value) (st:α) (w:World),lev+N<=1000000000->SmallC c->CdIn P w c v->Inv st w ->
  Calls Tryz.prog 179 #[v,.int .i64 lev,.func (.func f) #[] caps] w fun e w'=>e=.returned (.tuple #[])∧Inv (runP step (prt lev c) st).1 w'∧ExtC C w w':=by
 intro N
 induction N with
 | zero=>intro c hc;have:=cnt_pos c;omega
 | succ N ih =>
   intro c hc lev v st w hlev hsm hcd hinv
   have hc0:=hcd
   cases hcd with
   | mk k n x l A cp b o u0 u1 u2 u3 hA hb h0 h1 h2 h3 hr =>
     obtain⟨_,_,_,_,hsn,hsx,hsl,hsr⟩:=hsm
     have hnw:w.heap.size<=w.heap.size:=Nat.le_refl _
     have hBw:=hB _ _ hinv
     have hnC:¬ C w.heap.size:=fun h=>by have:=hC _ h;omega
     have hxb:Ext w (w.alloc (.cells #[.int .i64 k,.string n,.string x,.slice A l.length cp] 52)):=(Ext.refl w).alloc _
     have hfb:=hf (.mk k n x l) _ lev st _ (by omega) ⟨k,n,x,l,hsn,hsx,hsl,hsr⟩ (hc0.ext hxb) (hal _ _ _ hinv hxb)
     have bx:=Blk.new w 52 #[.int .i64 k,.string n,.string x,.slice A l.length cp]
     have hrun:runP step (prt lev (.mk k n x l)) st=(if (step (.mk k n x l) lev st).2=true then runP step (prts (lev+1) l) (step (.mk k n x l) lev st).1 else ((step (.mk k n x l) lev st).1,false)):=rfl
     rw[hrun]
     have hcl:cnts l<=N:=by unfold cnt at hc;omega
     have hlw:IntKind.i64.wrap ((lev:Int)+1)=(lev:Int)+1:=by rw[IntKind.wrap_i64];omega
     have hll:=cnts_len l
     have hok:=hyes (.mk k n x l) lev st
     generalize step (.mk k n x l) lev st=S at *
     obtain⟨st1,ok⟩:=S
     dsimp only at hfb hok ⊢
     have HF:=Hy hfb
     have HEN:=hen
     clear hfb hrun hc hinv
     obtain rfl:ok=true:=hok
     obtain⟨R,hR⟩:∃ R,runP step (prts (lev+1) l) st1=R:=⟨_,rfl⟩
     rw[if_pos rfl,hR]
     have HR:=Hy hR
     have HIHs:=Hy ih
     have HSR:=Hy hsr
     have HH0:=Hy h0;have HH1:=Hy h1;have HH2:=Hy h2;have HH3:=Hy h3;have HHR:=Hy hr
     have HB:=Hy hB;have HP:=Hy hP;have HA:=Hy hA;have HBB:=Hy hb;have HAL:=Hy hal
     clear hR ih hf h0 h1 h2 h3 hr hsr hB hP hA hb hc0 hal
     go_enter Tryz.func179,Tryz.ntmps179
     go_wp2_with fail
     refine HF.out.mono ?_
     rintro e w1 ⟨rfl,hinv1,hx1⟩
     have bx1:=bx.extC hx1 hnC
     have bc:=bx1.cell;have bf:=bx1.free;have bz:=bx1.lt
     have hxa:=(ExtC.ofExt hxb).trans hx1
     clear bx
     go_wp2
     go_loopw [15] (fun t wr=>∃ (j:Nat) (sj:α),t=.int .i64 j∧j<=l.length∧Inv sj wr∧ExtC C w wr∧runP step (prts (lev+1) (l.take j)) st1=(sj,true)) (fun t _=>l.length - (intOf t).toNat)
     case atStart=>exact⟨0,st1,by go_num,Nat.zero_le _,hinv1,hxa,rfl⟩
     case round =>
      obtain⟨j,sj,rfl,hj,hinvr,hxr,hdone⟩:=hrel
      have HXR:=Hy hxr
      clear bc bf bz bx1 hx1 hinv1 HF hxa
      by_cases hlt:j < l.length
      ·obtain rfl:=HA.out (by omega)
       have hPb:=HBB.out (by omega)
       have hnb:=HP.out b hPb
       have g0:=hxr.cell hnb (HH0.out j hlt)
       have g1:=hxr.cell hnb (HH1.out j hlt)
       have g2:=hxr.cell hnb (HH2.out j hlt)
       have g3:=hxr.cell hnb (HH3.out j hlt)
       have hcj:=HHR.out j hlt
       obtain⟨ck,cn,cx,cA,cm,ccp,hcc⟩:=hcj.cells
       have hcc2:=hcc
       simp only[Value.agg.injEq,Array.mk.injEq,List.cons.injEq,and_true] at hcc2
       obtain⟨q0,q1,q2,q3⟩:=hcc2
       rw[hcc] at hcj
       rw[q0] at g0;rw[q1] at g1;rw[q2] at g2;rw[q3] at g3
       clear hcc q0 q1 q2 q3
       have hxc:Ext wr (wr.alloc (.cells #[.int .i64 ck,.string cn,.string cx,.slice cA cm ccp] 52)):=(Ext.refl wr).alloc _
       have hih:=HIHs.out l[j] (Nat.le_trans (cnts_at l j hlt) hcl) (lev+1) _ sj _ (by omega) (HSR.out _ (List.getElem_mem hlt)) ((hcj.extC hxr HP.out).ext hxc) (HAL.out _ _ _ hinvr hxc)
       rw[show ((lev+1:Nat):Int)=(lev:Int)+1 by omega] at hih
       generalize hs2:runP step (prt (lev+1) l[j]) sj=S2 at *
       have hq0:(0:Int)<=(j:Int):=by omega
       clear hxr hxc hcj
       obtain⟨s2,ok2⟩:=S2
       have hok2:ok2=true:=by
        have:=runP_yes step hyes (prt (lev+1) l[j]) sj
        rw[hs2] at this
        exact this
       subst hok2
       dsimp only at hih
       have HIH:=Hy hih
       have hnx:=runP_next step (lev+1) l j hlt hdone hs2
       have HNX:=Hy hnx
       clear hdone hs2 hnx hih
       go_wp2_with fail
       refine HIH.out.mono ?_
       rintro e w3 ⟨rfl,hinv3,hx3⟩
       go_wp2
       go_roundw
       case rel=>exact⟨j+1,s2,by go_num,hlt,hinv3,(HXR.out.trans (ExtC.ofExt ((Ext.refl wr).alloc _))).trans hx3,HNX.out⟩
       case measure=>simp[intOf];omega
      ·have hjl:l.take j=l:=List.take_of_length_le (by omega)
       rw[hjl,HR.out] at hdone
       subst hdone
       go_wp2
       refine bodyPost_end (results_none rfl _ _ _) rfl ⟨rfl,hinvr,HXR.out⟩
end
section
inductive StrC (m:Nat):Cd->Prop where
 | mk (k:Int) (n x:ByteArray) (l:List Cd) (hn:n.size<=m) (hx:x.size<=m) (hr:∀ c∈l,StrC m c):StrC m (.mk k n x l)
theorem StrC.zero (m:Nat):StrC m zeroC:=.mk _ _ _ _ (Nat.zero_le _) (Nat.zero_le _) (fun _ h=>by cases h)
theorem cnts_mem:∀ {l:List Cd} {c:Cd},c∈l->cnt c<=cnts l
 | a::l,c,h=>by
   rcases List.mem_cons.1 h with rfl|h
   ·simp only[cnts];omega
   ·have:=cnts_mem h
    simp only[cnts];omega
theorem cnts_len':∀ (l:List Cd),l.length<=cnts l
 | []=>Nat.le_refl _
 | c::l=>by
   have:=cnts_len' l
   have:=cnt_pos c
   simp only[cnts,List.length_cons]
   omega
theorem small_of {m:Nat} (hm:m<=2097152) {c:Cd} (h:StrC m c) (hc:cnt c<=100000000):SmallC c:=by
 induction h with
 | mk k n x l hn hx hr ih =>
   unfold cnt at hc
   have:=cnts_len' l
   exact .mk k n x l (by omega) (by omega) (by omega) fun c hcl=>ih c hcl (by have:=cnts_mem hcl;omega)
section
variable {s:ByteArray}
theorem cnt_mk (k:Int) (n x:ByteArray) (l:List Cd):cnt (.mk k n x l)=1+cnts l:=by simp[cnt]
theorem cnt_leaf (k:Int) (n x:ByteArray):cnt (.mk k n x [])=1:=by simp[cnt,cnts]
end
end
section
open Go.RowKit
theorem cnts_mem':∀ {l:List Cd} {c:Cd},c∈l->cnt c<=cnts l
 | a::l,c,h=>by
   rcases List.mem_cons.1 h with rfl|h
   ·simp only[cnts];omega
   ·have:=cnts_mem' h
    simp only[cnts];omega
theorem cntz_len:∀ (l:List Cd),l.length<=cnts l
 | []=>Nat.le_refl _
 | c::l=>by
   have:=cntz_len l
   have:=cnt_pos c
   simp only[cnts,List.length_cons]
   omega
def ArgAt (P:Nat->Prop) (w:World) (l:List Cd) (b o:Nat):Prop:=∀ j (hj:j < l.length),∃ (ck:Int) (cn cx:ByteArray) (cA:Option Addr) (cm ccp:Nat),
 w.cell? ⟨b,o+j * 4,none⟩=some (.int .i64 ck)∧w.cell? ⟨b,o+j * 4+1,none⟩=some (.string cn)∧w.cell? ⟨b,o+j * 4+2,none⟩=some (.string cx)∧w.cell? ⟨b,o+j * 4+3,none⟩=some (.slice cA cm ccp) ∧
 CdIn P w l[j] (.agg #[.int .i64 ck,.string cn,.string cx,.slice cA cm ccp])
theorem ArgAt.ext {P:Nat->Prop} {w w':World} {l:List Cd} {b o:Nat} (h:ArgAt P w l b o) (hx:Ext w w'):ArgAt P w' l b o:=fun j hj=>by
 obtain⟨ck,cn,cx,cA,cm,ccp,h0,h1,h2,h3,hc⟩:=h j hj
 exact⟨ck,cn,cx,cA,cm,ccp,hx.cell h0,hx.cell h1,hx.cell h2,hx.cell h3,hc.ext hx⟩
theorem CdIn.arg {P:Nat->Prop} {w:World} {k:Int} {n x:ByteArray} {l:List Cd} {v:Value} (h:CdIn P w (.mk k n x l) v) :
 ∃ (A:Option Addr) (cp b o:Nat),v=.agg #[.int .i64 k,.string n,.string x,.slice A l.length cp]∧(0 < l.length->A=some ⟨b,o,none⟩)∧ArgAt P w l b o:=by
 cases h with
 | mk k n x l A cp b o u0 u1 u2 u3 hA hb h0 h1 h2 h3 hr =>
   refine⟨A,cp,b,o,rfl,hA,fun j hj=>?_⟩
   have hc:=hr j hj
   obtain⟨ck,cn,cx,cA,cm,ccp,hcc⟩:=hc.cells
   have hcc2:=hcc
   simp only[Value.agg.injEq,Array.mk.injEq,List.cons.injEq,and_true] at hcc2
   obtain⟨q0,q1,q2,q3⟩:=hcc2
   exact⟨ck,cn,cx,cA,cm,ccp,q0 ▸ h0 j hj,q1 ▸ h1 j hj,q2 ▸ h2 j hj,q3 ▸ h3 j hj,hcc ▸ hc⟩
set_option maxRecDepth 100000 in
set_option maxHeartbeats 8000000 in
theorem EqualC_any (l:List Cd) (P Q:Nat->Prop) (hl:l.length<=100000000)
 (hS:∀ c∈l,∀ v1 v2 w,CdIn P w c v1->CdIn Q w c v2->Calls Tryz.prog 36 #[v1,v2] w fun e w'=>e=.returned (.bool true)∧Ext w w')
 (A1 A2:Option Addr) (c1 c2 b1 o1 b2 o2:Nat) (w:World) (hA1:0 < l.length->A1=some ⟨b1,o1,none⟩) (hA2:0 < l.length->A2=some ⟨b2,o2,none⟩) (h1:ArgAt P w l b1 o1) (h2:ArgAt Q w l b2 o2) :
 Calls Tryz.prog 106 #[.slice A1 l.length c1,.slice A2 l.length c2,.func (.func 36) #[] #[]] w fun e w'=>e=.returned (.bool true)∧Ext w w':=by
 have hen:∀ xs w,Sem.run Tryz.prog (callFunc 36 xs) w=.ok (.enter 36 xs) w:=fun xs w=>by kernel_rfl
 have hne:((l.length:Int) != (l.length:Int))=false:=by rw[bne,beq_iff_eq.2 rfl];rfl
 have HS:=Hy hS
 have H1:=Hy h1;have H2:=Hy h2;have HA1:=Hy hA1;have HA2:=Hy hA2
 clear hS h1 h2 hA1 hA2
 go_enter Tryz.func106,Tryz.ntmps106
 go_wp2
 go_loopw [17] (fun t wr=>∃ j:Nat,t=.int .i64 j∧j<=l.length∧Ext w wr) (fun t _=>l.length - (intOf t).toNat)
 case atStart=>exact⟨0,by go_num,Nat.zero_le _,Ext.refl w⟩
 case round =>
  obtain⟨j,rfl,hj,hxr⟩:=hrel
  have HXR:=Hy hxr
  by_cases hlt:j < l.length
  ·obtain rfl:=HA1.out (by omega)
   obtain rfl:=HA2.out (by omega)
   obtain⟨k1,n1,x1,B1,m1,p1,g0,g1,g2,g3,hc1⟩:=H1.out.ext hxr j hlt
   obtain⟨k2,n2,x2,B2,m2,p2,g4,g5,g6,g7,hc2⟩:=H2.out.ext hxr j hlt
   have hxc:Ext wr ((wr.alloc (.cells #[.int .i64 k1,.string n1,.string x1,.slice B1 m1 p1] 52)).alloc (.cells #[.int .i64 k2,.string n2,.string x2,.slice B2 m2 p2] 52)):=((Ext.refl wr).alloc _).alloc _
   have hs:=HS.out l[j] (List.getElem_mem hlt) _ _ _ (hc1.ext hxc) (hc2.ext hxc)
   have HSS:=Hy hs
   have hq0:(0:Int)<=(j:Int):=by omega
   have hlb1:=lt_of_cell g0;have hlb2:=lt_of_cell g4
   clear hs hc1 hc2 hxr hxc
   go_wp2_with fail
   refine HSS.out.mono ?_
   rintro e w3 ⟨rfl,hx3⟩
   go_wp2
   go_roundw
   case rel=>exact⟨j+1,by go_num,hlt,(((HXR.out.alloc _).alloc _).trans hx3)⟩
   case measure=>simp[intOf];omega
  ·go_wp2
   go_ret
   exact⟨rfl,HXR.out⟩
set_option maxRecDepth 100000 in
set_option maxHeartbeats 8000000 in
theorem SameCond_refl (P Q:Nat->Prop):∀ (N:Nat) (c:Cd),cnt c<=N->N<=100000000->∀ (v1 v2:Value) (w:World),CdIn P w c v1->CdIn Q w c v2 ->
 Calls Tryz.prog 36 #[v1,v2] w fun e w'=>e=.returned (.bool true)∧Ext w w':=by
 intro N
 induction N with
 | zero=>intro c hc;have:=cnt_pos c;omega
 | succ N ih =>
   intro c hc hN v1 v2 w h1 h2
   obtain⟨k,n,x,l⟩:=c
   obtain⟨A1,p1,b1,o1,rfl,hA1,ha1⟩:=h1.arg
   obtain⟨A2,p2,b2,o2,rfl,hA2,ha2⟩:=h2.arg
   have hcl:cnts l<=N:=by unfold cnt at hc;omega
   have hll:=cntz_len l
   have hxb:Ext w ((w.alloc (.cells #[.int .i64 k,.string n,.string x,.slice A1 l.length p1] 52)).alloc (.cells #[.int .i64 k,.string n,.string x,.slice A2 l.length p2] 52)):=((Ext.refl w).alloc _).alloc _
   have hE:=EqualC_any l P Q (by omega) (fun c hcm v1 v2 w g1 g2=>ih c (Nat.le_trans (cnts_mem' hcm) hcl) (by omega) v1 v2 w g1 g2) A1 A2 p1 p2 b1 o1 b2 o2 _ hA1 hA2 (ha1.ext hxb) (ha2.ext hxb)
   have HE:=Hy hE
   have e1:(k==k)=true:=beq_iff_eq.2 rfl
   have e2:(n.toList==n.toList)=true:=by rw[eqE,decide_eq_true rfl]
   have e3:(x.toList==x.toList)=true:=by rw[eqE,decide_eq_true rfl]
   clear hE ih h1 h2 ha1 ha2 hA1 hA2
   go_enter Tryz.func36,Tryz.ntmps36
   go_wp2_with fail
   refine HE.out.mono ?_
   rintro e w1 ⟨rfl,hx1⟩
   go_wp2
   go_ret
   exact⟨rfl,hxb.trans hx1⟩
end
section
open Go.ChangeShapes Go.WideShapes Go.ChangeAt Go.RowKit Go.WideElems Go.Joins
theorem StrC.le {m m':Nat} (hm:m<=m') {c:Cd} (h:StrC m c):StrC m' c:=by
 induction h with
 | mk k n x l hn hx _ ih=>exact .mk k n x l (by omega) (by omega) ih
instance:Inhabited Cd:=⟨zeroC⟩
theorem bulk_mem {H:Type} {n:Nat} {D:Nat->DataW H} {i:Nat} (h:i < n):Rows.uptoBulk (D i)<=Rows.uptoBulkAll ((List.range n).map D):=by
 suffices ∀ l:List Nat,i∈l->Rows.uptoBulk (D i)<=Rows.uptoBulkAll (l.map D) from this _ (List.mem_range.2 h)
 intro l
 induction l with
 | nil=>intro h;cases h
 | cons a l ih =>
   intro h
   simp only[List.map_cons,Rows.uptoBulkAll]
   rcases List.mem_cons.1 h with rfl|h
   ·omega
   ·have:=ih h;omega
set_option maxRecDepth 100000 in
theorem opens_cond (H:Type) (enc:TypeId × Value->H) (W:World):∀ (N fuel:Nat) (cs:List Value) (x:DataW H × List MemPlace),DataW.trod enc Tryz.prog W 0 (fun _=>true) true fuel 52 cs=some x->Rows.uptoBulk x.1<=N ->
 ∃ c:Cd,CdIn (fun _=>True) W c (.agg cs.toArray)∧cnt c<=Rows.uptoBulk x.1∧StrC (Rows.uptoBulk x.1) c:=by
 intro N
 induction N with
 | zero =>
   intro fuel cs x h hb
   obtain⟨y0,y1,y2,y3,n,rfl,hl,h0,h1,h2,h3⟩:=trod_struct4 Tryz.underlying52 h
   simp only[Rows.uptoBulk,Rows.uptoBulkAll] at hb
   omega
 | succ N ih =>
   intro fuel cs x h hb
   obtain⟨y0,y1,y2,y3,n,rfl,hl,h0,h1,h2,h3⟩:=trod_struct4 Tryz.underlying52 h
   have hc:Tryz.prog.cellsOf 52=4:=by kernel_rfl
   have ci:Tryz.prog.cellsOf 3=1:=by kernel_rfl
   have cst:Tryz.prog.cellsOf 9=1:=by kernel_rfl
   have csl:Tryz.prog.cellsOf 50=1:=by kernel_rfl
   rw[hc] at hl
   match cs,hl with
   | [c0,c1,c2,c3],_ =>
     dsimp only at h0 h1 h2 h3
     rw[ci] at h0
     rw[cst] at h1 h2
     rw[csl] at h3
     obtain⟨k,e0,b0⟩:=opens_int Tryz.underlying3 H enc W n _ _ h0
     obtain⟨nm,e1,b1⟩:=opens_string Tryz.underlying9 H enc W n _ _ h1
     obtain⟨vl,e2,b2⟩:=opens_string Tryz.underlying9 H enc W n _ _ h2
     simp at e0 e1 e2
     subst e0 e1 e2
     rcases Deep.open_slice Tryz.underlying50 h3 with ⟨e3,rfl⟩|⟨a,len,cap,m,n',D,Pl,e3,_,hlc,_,hm,rfl,hx⟩
     ·simp at e3
      subst e3
      refine⟨.mk k nm vl [],CdIn.leaf _ W k nm vl,?_,?_⟩
      ·simp only[cnt_leaf,Rows.uptoBulk,Rows.uptoBulkAll];omega
      ·refine .mk _ _ _ _ ?_ ?_ (fun _ h=>by cases h)
       all_goals (simp only[Rows.uptoBulk,Rows.uptoBulkAll] at b0 b1 b2 ⊢;omega)
     ·have e3:c3=.slice (some a) len cap:=by simpa using e3
      subst e3
      have hlm:len<=m:=by rw[hm];split<;>omega
      simp only[Rows.uptoBulk,Rows.uptoBulkAll] at hb
      have each:∀ i,i < len->∃ c:Cd,(cnt c<=Rows.uptoBulk (D i)∧StrC (Rows.uptoBulk (D i)) c)∧∃ ecs:List Value,CdIn (fun _=>True) W c (.agg ecs.toArray)∧W.cells? 0 (a.add (i * 4)) 4=some ecs:=fun i hi=>by
       obtain⟨cs',g1,g2⟩:=hx i (by omega)
       have hbi:=bulk_mem (D:=D) hi
       obtain⟨c,g3,g4,g5⟩:=ih n' cs' _ g2 (by dsimp only;omega)
       rw[hc] at g1
       exact⟨c,⟨g4,g5⟩,cs',g3,g1⟩
      obtain⟨F,hF⟩:=Deep.choose_lt each
      have hrow:0 < len->∃ b off,a=⟨b,off,none⟩:=fun hp=>by
       obtain⟨_,ecs0,_,hc0⟩:=hF 0 hp
       obtain⟨_,hl0,hcell0⟩:=World.cells?_some hc0
       obtain⟨b,off,spot⟩:=a
       have g0:=hcell0 0 (by decide)
       have hv:ecs0[0]?=some ecs0[0]:=List.getElem?_eq_getElem (by omega)
       rw[hv] at g0
       have hspot:spot=none:=by
        have:=World.cell?_spot g0
        simpa [Addr.add] using this
       exact⟨b,off,by rw[hspot]⟩
      obtain⟨b,off,hab⟩:∃ b off,0 < len->a=⟨b,off,none⟩:=by
       rcases Nat.eq_zero_or_pos len with e|e
       ·exact⟨0,0,fun h=>by omega⟩
       ·obtain⟨b,off,h⟩:=hrow e;exact⟨b,off,fun _=>h⟩
      have hcell:∀ i,i < len->∃ e0 e1 e2 e3:Value,CdIn (fun _=>True) W (F i) (.agg #[e0,e1,e2,e3])∧W.cell? ⟨b,off+i * 4,none⟩=some e0∧W.cell? ⟨b,off+i * 4+1,none⟩=some e1∧W.cell? ⟨b,off+i * 4+2,none⟩=some e2∧W.cell? ⟨b,off+i * 4+3,none⟩=some e3:=fun i hi=>by
       obtain⟨_,ecs,hR,hcs⟩:=hF i hi
       rw[hab (by omega)] at hcs
       obtain⟨_,hl1,hcl⟩:=World.cells?_some hcs
       have g:∀ j,j < 4->W.cell? ⟨b,off+i * 4+j,none⟩=ecs[j]?:=fun j hj=>by
        have:=hcl j hj
        rwa [Deep.add_add,add_plain,<-Nat.add_assoc] at this
       match ecs,hl1,hR,g with
       | [e0,e1,e2,e3],_,hR,g=>exact⟨e0,e1,e2,e3,hR,g 0 (by decide),g 1 (by decide),g 2 (by decide),g 3 (by decide)⟩
      have hlen:((List.range len).map F).length=len:=by simp
      have u:∀ i,i < len->∀ j,j < 4->W.cell? ⟨b,off+i * 4+j,none⟩=some ((W.cell? ⟨b,off+i * 4+j,none⟩).getD z0):=fun i hi j hj=>by
       obtain⟨e0,e1,e2,e3,_,k0,k1,k2,k3⟩:=hcell i hi
       rcases (show j=0∨j=1∨j=2∨j=3 by omega) with rfl|rfl|rfl|rfl
       ·rw[show off+i * 4+0=off+i * 4 from rfl,k0];rfl
       ·rw[k1];rfl
       ·rw[k2];rfl
       ·rw[k3];rfl
      refine⟨.mk k nm vl ((List.range len).map F),?_,?_,?_⟩
      ·have:=CdIn.mk (P:=fun _=>True) (w:=W) k nm vl ((List.range len).map F) (some a) cap b off (fun i=>(W.cell? ⟨b,off+i * 4+0,none⟩).getD z0) (fun i=>(W.cell? ⟨b,off+i * 4+1,none⟩).getD z0) (fun i=>(W.cell? ⟨b,off+i * 4+2,none⟩).getD z0) (fun i=>(W.cell? ⟨b,off+i * 4+3,none⟩).getD z0)
        (fun h=>by rw[hab (by simpa using h)]) (fun _=>trivial) (fun j hj=>u j (by simpa using hj) 0 (by decide)) (fun j hj=>u j (by simpa using hj) 1 (by decide)) (fun j hj=>u j (by simpa using hj) 2 (by decide)) (fun j hj=>u j (by simpa using hj) 3 (by decide))
        (fun j hj=>by
          obtain⟨e0,e1,e2,e3,hR,k0,k1,k2,k3⟩:=hcell j (by simpa using hj)
          rw[show off+j * 4+0=off+j * 4 from rfl,k0,k1,k2,k3]
          simpa using hR)
       rwa [hlen] at this
      ·have:=bulkAll_le (H:=H) (n:=len) (D:=D) (bk:=fun i=>cnt (F i)) fun i hi=>(hF i hi).1.1
       have hs:∀ l:List Nat,cnts (l.map F)=(l.map fun i=>cnt (F i)).sum:=fun l=>by
        induction l with
        | nil=>rfl
        | cons a l ih=>simp only[List.map_cons,cnts,List.sum_cons,ih]
       rw[cnt_mk,hs]
       simp only[Rows.uptoBulk,Rows.uptoBulkAll]
       omega
      ·refine .mk _ _ _ _ ?_ ?_ (fun c hc=>?_)
       ·simp only[Rows.uptoBulk,Rows.uptoBulkAll] at b0 b1 b2 ⊢;omega
       ·simp only[Rows.uptoBulk,Rows.uptoBulkAll] at b0 b1 b2 ⊢;omega
       ·obtain⟨i,hi,rfl⟩:=List.mem_map.1 hc
        have hi:=List.mem_range.1 hi
        refine StrC.le ?_ (hF i hi).1.2
        have:=bulk_mem (D:=D) hi
        simp only[Rows.uptoBulk,Rows.uptoBulkAll]
        omega
end
end Go.Proofs.YtmnafaaijglnfaaGreatDoor
