/- Contract of ver.Has. Plain law: whether a condition holds. -/
import Derived.Test.YtmnafaaijglnfaaGreatDoorOm20
namespace Go.Proofs.YtmnafaaijglnfaaGreatDoor
section
open Go.RowKit
def hasE (l:List Sp) (v:V4):Int:=firstI [rngErr l,v.err]
def hasR (l:List Sp) (v:V4):Bool:=decide (hasE l v=0)&&hasL l v
theorem hasE_a {l:List Sp} {v:V4} (h:¬ rngErr l=0):hasE l v=rngErr l∧hasR l v=false:=by
 have e:hasE l v=rngErr l:=by rw[hasE,firstI,if_neg h]
 exact⟨e,by rw[hasR,e,decide_eq_false h];rfl⟩
theorem hasE_b {l:List Sp} {v:V4} (h:rngErr l=0) (h2:¬ v.err=0):hasE l v=v.err∧hasR l v=false:=by
 have e:hasE l v=v.err:=by rw[hasE,firstI,if_pos h,firstI,if_neg h2]
 exact⟨e,by rw[hasR,e,decide_eq_false h2];rfl⟩
theorem hasE_c {l:List Sp} {v:V4} (h:rngErr l=0) (h2:v.err=0):hasE l v=0∧hasR l v=hasL l v:=by
 have e:hasE l v=0:=by rw[hasE,firstI,if_pos h,firstI,if_pos h2,firstI]
 exact⟨e,by rw[hasR,e];rfl⟩
set_option maxHeartbeats 4000000 in
theorem Has_any (A:Option Addr) (n c:Nat) (l:List Sp) (v:V4) (w:World) (hg:Good w) (hn:l.length=n) (hr:RdS w A l) (hs:SmallS l) (hl:n<=2097152) (hv:v.a.size<=2097152) :
 Calls Tryz.prog 205 #[.agg #[.slice A n c],verV v] w fun e w'=>e=.returned (.tuple #[.bool (hasR l v),.int .i64 (hasE l v)])∧Ext w w':=by
 have cR:=fun W (h:Ext w W)=>CheckRange_any A n c l W (hg.ext h) hn (hr.ext h) hs hl
 have cH:=fun W (h:Ext w W)=>has_any A n c l v W (hg.ext h) hn (hr.ext h) hs hl hv
 have cV:=fun W (h:Ext w W)=>Check_any v.a1 v.a2 v.a3 v.a W (hg.ext h) hv
 rw[show checkV v.a1 v.a2 v.a3 (bs v.a)=v.err from rfl] at cV
 have hA:=hasE_a (l:=l) (v:=v)
 have hB:=hasE_b (l:=l) (v:=v)
 have hC:=hasE_c (l:=l) (v:=v)
 generalize hasR l v=HR at *
 generalize hasE l v=HE at *
 generalize hasL l v=HL at *
 generalize rngErr l=E1 at *
 generalize v.err=E2 at *
 obtain⟨v1,v2,v3,va⟩:=v
 dsimp only[verV] at cH cV ⊢
 have CR:=Hy cR;have CH:=Hy cH;have CV:=Hy cV
 have HA:=Hy hA;have HB:=Hy hB;have HC:=Hy hC
 clear cR cH cV hA hB hC hn hr hs
 have bR:=(Blk.new w 42 #[.slice A n c]).alloc (.cells #[.int .i64 v1,.int .i64 v2,.int .i64 v3,.string va] 23)
 have bV:=Blk.new (w.alloc (.cells #[.slice A n c] 42)) 23 #[.int .i64 v1,.int .i64 v2,.int .i64 v3,.string va]
 rw[World.size_alloc] at bV
 go_enter Tryz.func205,Tryz.ntmps205
 go_wp2_with fail
 refine (CR.out _ Ext.au).mono ?_
 rintro e w1 ⟨rfl,hx1⟩
 have hxa:Ext w w1:=Ext.trans Ext.au hx1
 have bR1:=bR.ext hx1;have bV1:=bV.ext hx1
 have c1:=bR1.cell;have c2:=bV1.cell;have l1:=bR1.lt;have l2:=bV1.lt
 by_cases h1:E1=0
 rotate_left
 ·obtain⟨e1,e2⟩:=HA.out h1
  have K1:=Hy e1;have K2:=Hy e2
  have hne:(E1 != 0)=true:=by rw[bne_iff_ne];exact h1
  clear e1 e2 h1
  go_wp2
  go_ret2
  exact⟨by rw[K1.out,K2.out];first|done|rfl,hxa⟩
 have H1:=Hy h1
 rw[h1]
 clear h1
 go_wp2_with fail
 refine (CV.out _ hxa).mono ?_
 rintro e w2 ⟨rfl,hx2⟩
 have hxb:=hxa.trans hx2
 have bR2:=bR1.ext hx2;have bV2:=bV1.ext hx2
 have d1:=bR2.cell;have d2:=bV2.cell;have m1:=bR2.lt;have m2:=bV2.lt
 by_cases h2:E2=0
 rotate_left
 ·obtain⟨e1,e2⟩:=HB.out H1.out h2
  have K1:=Hy e1;have K2:=Hy e2
  have hne:(E2 != 0)=true:=by rw[bne_iff_ne];exact h2
  clear e1 e2 h2
  go_wp2
  go_ret2
  exact⟨by rw[K1.out,K2.out];first|done|rfl,hxb⟩
 obtain⟨e1,e2⟩:=HC.out H1.out h2
 have K1:=Hy e1;have K2:=Hy e2
 rw[h2]
 clear h2 e1 e2
 go_wp2_with fail
 refine (CH.out _ hxb).mono ?_
 rintro e w3 ⟨rfl,hx3⟩
 go_wp2
 go_ret2
 exact⟨by rw[K1.out,K2.out];first|done|rfl,hxb.trans hx3⟩
end
section
def verIn (x s:Str):Bool:=decide ((pV s).2=0)&&hasL (parseR x).1 (pV s).1
mutual
def holdsC (F S:Str->Option Str):Cd->Bool
 | .mk k n x l =>
   if k=2 then decide (F (bs n)=some (bs x))
   else if k=3 then decide (S (bs n)=some (bs x))
   else if k=4 then (S (bs n)).isSome
   else if k=5 then (match F (bs n) with|some s=>verIn (bs x) s|none=>false)
   else if k=6 then !((holdsCs F S l).headD false)
   else if k=7 then (holdsCs F S l).all id
   else if k=8 then (holdsCs F S l).any id
   else true
def holdsCs (F S:Str->Option Str):List Cd->List Bool|[]=>[]|c::l=>holdsC F S c::holdsCs F S l
end
theorem holds_map (F S:Str->Option Str):∀ l:List Cd,holdsCs F S l=l.map (holdsC F S)
 | []=>by simp[holdsCs]
 | c::l=>by simp[holdsCs,holds_map F S l]
theorem holds_all (F S:Str->Option Str) (n x:ByteArray) (l:List Cd):holdsC F S (.mk 7 n x l)=!(l.any fun c=>!holdsC F S c):=by
 have h:holdsC F S (.mk 7 n x l)=(holdsCs F S l).all id:=by unfold holdsC;rfl
 rw[h,holds_map]
 generalize holdsC F S=f
 rw[List.all_map]
 clear h
 induction l with
 | nil=>rfl
 | cons a l ih =>
   rw[List.all_cons,List.any_cons,ih]
   show (f a&&_)=_
   cases f a<;>simp
theorem holds_some (F S:Str->Option Str) (n x:ByteArray) (l:List Cd):holdsC F S (.mk 8 n x l)=l.any fun c=>holdsC F S c:=by
 have h:holdsC F S (.mk 8 n x l)=(holdsCs F S l).any id:=by unfold holdsC;rfl
 rw[h,holds_map]
 generalize holdsC F S=f
 simp[List.any_map]
end
end Go.Proofs.YtmnafaaijglnfaaGreatDoor
