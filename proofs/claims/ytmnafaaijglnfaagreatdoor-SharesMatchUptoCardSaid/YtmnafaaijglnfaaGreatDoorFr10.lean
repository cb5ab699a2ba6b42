/- The condition reader of the program: 'take'. -/
import Derived.Test.YtmnafaaijglnfaaGreatDoorFr07
namespace Go.Proofs.YtmnafaaijglnfaaGreatDoor
open Go.RowKit
structure OkS (s:ByteArray) (σ:St):Prop where
 p:σ.p<=s.size
 a:σ.a<=s.size
 t:σ.t.size<=s.size
theorem unq_len {l t z:Str} (h:unq l=some (t,z)):t.length<=l.length∧z.length<=l.length:=by
 have e:=unq_back l.length l t z (Nat.le_refl _) h
 have:=esc_len t
 rw[e]
 simp only[List.length_append,List.length_cons]
 omega
theorem qat_le (s:ByteArray) (i:Nat):(qat (bs s) i).2.1<=s.size∧(qat (bs s) i).1.length<=s.size:=by
 unfold qat
 cases h:unq ((bs s).drop (i+1)) with
 | none=>exact⟨Nat.zero_le _,Nat.zero_le _⟩
 | some x =>
   obtain⟨t,z⟩:=x
   have:=unq_len h
   rw[List.length_drop,bs_length] at this
   rw[bs_length]
   exact⟨Nat.sub_le _ _,by have:=this.1;show t.length<=_;omega⟩
theorem tokF_ok {s:ByteArray} {σ:St} {i:Nat} (hi:i<=s.size):OkS s (tokF s σ i):=by
 unfold tokF
 split
 ·rename_i h
  split
  ·exact⟨by dsimp only;omega,hi,by show 1<=s.size;omega⟩
  ·split
   ·have:=qat_le s i
    split
    ·exact⟨this.1,hi,by show (qat (bs s) i).1.toArray.size<=_;simpa using this.2⟩
    ·exact⟨hi,hi,Nat.zero_le _⟩
   ·have:=run_le tokB s hi
    refine⟨this,hi,?_⟩
    dsimp only
    rw[ByteArray.size_extract]
    omega
 ·exact⟨hi,hi,Nat.zero_le _⟩
theorem advF_ok {s:ByteArray} {σ:St} (h:OkS s σ):OkS s (advF s σ):=tokF_ok (run_le blankB s h.p)
theorem tokF_wr (s:ByteArray) (σ:St) (i:Nat):(tokF s σ i).wr=σ.wr:=by
 unfold tokF
 repeat' split
 all_goals rfl
def takeF (s:ByteArray) (σ:St) (k:Int) (t:Str):ByteArray × St :=
 if ¬ σ.wr < 0 then (⟨#[]⟩,σ)
 else if σ.k≠k∨(t≠[]∧bs σ.t≠t) then (⟨#[]⟩,{ σ with wr:=σ.a })
 else (σ.t,advF s σ)
theorem takeF_ok {s:ByteArray} {σ:St} (h:OkS s σ) (k:Int) (t:Str):OkS s (takeF s σ k t).2∧(takeF s σ k t).1.size<=s.size:=by
 unfold takeF
 split
 ·exact⟨h,Nat.zero_le _⟩
 ·split
  ·exact⟨⟨h.p,h.a,h.t⟩,Nat.zero_le _⟩
  ·exact⟨advF_ok h,h.t⟩
set_option maxRecDepth 100000 in
set_option maxHeartbeats 4000000 in
theorem take_V (g:Nat) (s:ByteArray) (σ:St) (k:Int) (t:ByteArray) (w:World) (h:Rd w g s σ) (hs:s.size<=2097152) (ho:OkS s σ) :
 Calls Tryz.prog 170 #[.pointer (some ⟨g,0,none⟩),.int .i64 k,.string t] w fun e w'=>e=.returned (.string (takeF s σ k (bs t)).1)∧Rd w' g s (takeF s σ k (bs t)).2∧ExtX g w w':=by
 have hav:=advance_any g s σ w h hs ho.p
 obtain⟨p,sk,a,st,wr⟩:=σ
 have c:=h.cell;have f:=h.free
 unfold takeF
 dsimp only
 by_cases h1:wr < 0
 rotate_left
 ·rw[if_pos h1]
  have HF:=Hy h
  clear h hav
  go_enter Tryz.func170,Tryz.ntmps170
  go_wp2
  go_ret
  exact⟨rfl,HF.out,ExtX.refl g w⟩
 rw[if_neg (Classical.not_not.2 h1)]
 have hbad:Rd (w.setCell ⟨g,5,none⟩ (.int .i64 a)) g s ⟨p,sk,a,st,a⟩:=Rd.setW h a
 have HB:=Hy hbad
 have HAV:=Hy hav
 clear hbad hav h
 by_cases h2:sk=k
 rotate_left
 ·have e2:(sk != k)=true:=by rw[bne_iff_ne];exact h2
  rw[if_pos (.inl h2)]
  clear h2
  go_enter Tryz.func170,Tryz.ntmps170
  go_wp2
  go_ret
  exact⟨rfl,HB.out,(ExtX.refl g w).setG _ _⟩
 subst h2
 rcases Nat.eq_zero_or_pos t.size with ht|ht
 ·have he:=emp_bool ht
  have hn:bs t=[]:=bs_nil ht
  rw[hn,if_neg (by simp)]
  go_enter Tryz.func170,Tryz.ntmps170
  go_wp2_with fail
  refine HAV.out.mono ?_
  rintro e w1 ⟨rfl,hr,hx⟩
  go_wp2
  go_ret
  exact⟨rfl,hr,hx⟩
 have he:=nemp_bool ht
 have hn:bs t≠[]:=fun e=>by rw[<-bs_length,e] at ht;exact Nat.lt_irrefl _ ht
 by_cases h3:bs st=bs t
 ·have e3:(st.toList==t.toList)=true:=by rw[eqE,decide_eq_true h3]
  have e4:(st.toList != t.toList)=false:=by rw[bne,e3];rfl
  rw[if_neg (by rintro (x|x);exact x rfl;exact x.2 h3)]
  clear h3 hn
  go_enter Tryz.func170,Tryz.ntmps170
  go_wp2_with fail
  refine HAV.out.mono ?_
  rintro e w1 ⟨rfl,hr,hx⟩
  go_wp2
  go_ret
  exact⟨rfl,hr,hx⟩
 ·have e3:(st.toList==t.toList)=false:=by rw[eqE,decide_eq_false h3]
  have e4:(st.toList != t.toList)=true:=by rw[bne,e3];rfl
  rw[if_pos (.inr ⟨hn,h3⟩)]
  clear h3 hn
  go_enter Tryz.func170,Tryz.ntmps170
  go_wp2
  go_ret
  exact⟨rfl,HB.out,(ExtX.refl g w).setG _ _⟩
end Go.Proofs.YtmnafaaijglnfaaGreatDoor
