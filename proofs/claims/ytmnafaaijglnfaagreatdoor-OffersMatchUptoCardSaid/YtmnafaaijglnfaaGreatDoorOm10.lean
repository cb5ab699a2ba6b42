/- The condition reader of the program: 'take'. Plain law: the program's reading of a condition, as it runs; its places only go on. A condition in memory. Contract of the program's reading of one condition, given what it calls. (Printed by gen/cndh.py.) Plain law: the reference's words of a condition's text, its reading as it runs, and the program's states that fit it. Plain law: the program's and the reference's reading of a condition answer alike. Plain law: the program's reading of a condition and the reference's go alike. Plain law: the program's and the reference's reading of a condition answer alike, the whole. Contract of the reference's reading of conditions, all levels; plain: the parts of a condition, their errors. Plain law: what is read of a text as a condition has a bearable size. Plain law: what both readers make of a text. Contracts of slices.ContainsFunc over spans, outref2.Inside, HasOf. Plain law: the words of a text that is put together from pieces. Plain law: the text of a condition, its words. Plain law: a printed condition is read back. Plain law: the words of a right condition are read as that condition. Plain law: a printed condition is read back, whole. A condition among the arguments. Contracts of slices.BinarySearchFunc over settings, and of ver.valueOf. -/
import Derived.Test.YtmnafaaijglnfaaGreatDoorOm05
import Derived.Test.YtmnafaaijglnfaaGreatDoorOm06
import Derived.Deep.AppendLies
import Derived.Deep.RegionLaw
import Derived.MapKept
namespace Go.Proofs.YtmnafaaijglnfaaGreatDoor
section
open Go.RowKit
structure OkS (s:ByteArray) (σ:St):Prop where
 p:σ.p<=s.size
 a:σ.a<=s.size
 t:σ.t.size<=s.size
theorem unq_len {l t z:Str} (h:unq l=some (t,z)):t.length<=l.length∧z.length<=l.length:=by
 have e:=unq_back l.length l t z (Nat.le_refl _) h
 have:=esc_len t
 rw[e]
 simp only[List.length_append,List.length_cons]
 omega
theorem qat_le (s:ByteArray) (i:Nat):(qat (bs s) i).2.1<=s.size∧(qat (bs s) i).1.length<=s.size:=by
 unfold qat
 cases h:unq ((bs s).drop (i+1)) with
 | none=>exact⟨Nat.zero_le _,Nat.zero_le _⟩
 | some x =>
   obtain⟨t,z⟩:=x
   have:=unq_len h
   rw[List.length_drop,bs_length] at this
   rw[bs_length]
   exact⟨Nat.sub_le _ _,by have:=this.1;show t.length<=_;omega⟩
theorem tokF_ok {s:ByteArray} {σ:St} {i:Nat} (hi:i<=s.size):OkS s (tokF s σ i):=by
 unfold tokF
 split
 ·rename_i h
  split
  ·exact⟨by dsimp only;omega,hi,by show 1<=s.size;omega⟩
  ·split
   ·have:=qat_le s i
    split
    ·exact⟨this.1,hi,by show (qat (bs s) i).1.toArray.size<=_;simpa using this.2⟩
    ·exact⟨hi,hi,Nat.zero_le _⟩
   ·have:=run_le tokB s hi
    refine⟨this,hi,?_⟩
    dsimp only
    rw[ByteArray.size_extract]
    omega
 ·exact⟨hi,hi,Nat.zero_le _⟩
theorem advF_ok {s:ByteArray} {σ:St} (h:OkS s σ):OkS s (advF s σ):=tokF_ok (run_le blankB s h.p)
end
section
inductive Cd where
 | mk (kind:Int) (name value:ByteArray) (args:List Cd)
def zeroC:Cd:=.mk 0 ⟨#[]⟩ ⟨#[]⟩ []
abbrev wAlways:Str:=[97,108,119,97,121,115]
abbrev wFact:Str:=[102,97,99,116]
abbrev wSetting:Str:=[115,101,116,116,105,110,103]
abbrev wHas:Str:=[104,97,115]
abbrev wVersion:Str:=[118,101,114,115,105,111,110]
abbrev wNot:Str:=[110,111,116]
abbrev wIn:Str:=[105,110]
abbrev wAnd:Str:=[97,110,100]
abbrev wOr:Str:=[111,114]
section
variable (s:ByteArray) (f:Option (St->Cd × St))
end
structure On (s:ByteArray) (σ τ:St):Prop where
 ok:OkS s σ->OkS s τ
 p:OkS s σ->σ.p<=τ.p
 wr:¬ σ.wr < 0->τ.wr=σ.wr
theorem On.refl (s:ByteArray) (σ:St):On s σ σ:=⟨id,fun _=>Nat.le_refl _,fun _=>rfl⟩
theorem On.trans {s:ByteArray} {a b c:St} (h:On s a b) (k:On s b c):On s a c :=
 ⟨fun x=>k.ok (h.ok x),fun x=>Nat.le_trans (h.p x) (k.p (h.ok x)),fun x=>by rw[k.wr (by rw[h.wr x];exact x),h.wr x]⟩
theorem qat_ge (s:ByteArray) (i:Nat) (h:(qat (bs s) i).2.2=true):i < (qat (bs s) i).2.1:=by
 unfold qat at h ⊢
 cases hu:unq ((bs s).drop (i+1)) with
 | none=>rw[hu] at h;cases h
 | some x =>
   obtain⟨t,z⟩:=x
   have:=(unq_len hu).2
   have hne:(bs s).drop (i+1)≠[]:=fun e=>by rw[e,unq_nil] at hu;cases hu
   have hl:i+1 < (bs s).length:=by
    apply Classical.byContradiction
    intro hh
    exact hne (List.drop_of_length_le (by omega))
   rw[List.length_drop] at this
   show i < (bs s).length - z.length
   omega
theorem tokF_lt {s:ByteArray} {σ:St} {i:Nat} (hb:∀ h:i < s.size,blankB s[i]=false) (h0:(tokF s σ i).k≠0) (h4:(tokF s σ i).k≠4):i < (tokF s σ i).p:=by
 unfold tokF at h0 h4 ⊢
 split at h0
 ·rename_i hi
  rw[dif_pos hi] at h4 ⊢
  by_cases hs:signB s[i]=true
  ·rw[if_pos hs];show i < i+1;omega
  ·rw[if_neg hs] at h4 ⊢
   by_cases hq:s[i]=34
   ·rw[if_pos hq] at h4 ⊢
    by_cases ho:(qat (bs s) i).2.2=true
    ·rw[if_pos ho];exact qat_ge s i ho
    ·rw[if_neg ho] at h4;exact absurd rfl h4
   ·rw[if_neg hq]
    have hw:tokB s[i]=true:=by
     unfold tokB
     rw[hb hi,(Bool.not_eq_true _).mp hs]
     simpa using hq
    have:=runN_yes tokB s hi hw
    show i < i+runN tokB ((bs s).drop i)
    omega
 ·exact absurd rfl h0
theorem run_stop (f:UInt8->Bool) (s:ByteArray):∀ (m k:Nat),s.size - k=m->∀ h:k+runN f ((bs s).drop k) < s.size,f s[k+runN f ((bs s).drop k)]=false
 | m,k,hm,h=>by
   by_cases hk:k < s.size
   ·cases hf:f s[k]
    ·have e:=runN_no f s hk hf
     simp only[e];exact hf
    ·have e:=runN_yes f s hk hf
     simp only[e] at h ⊢
     exact run_stop f s (s.size - (k+1)) (k+1) rfl h
   ·have e:=runN_out f s (Nat.le_of_not_lt hk)
    omega
 termination_by m=>m
 decreasing_by omega
theorem advF_lt {s:ByteArray} {σ:St} (h0:(advF s σ).k≠0) (h4:(advF s σ).k≠4):σ.p < (advF s σ).p :=
 Nat.lt_of_le_of_lt (Nat.le_add_right _ _) (tokF_lt (fun h=>run_stop blankB s _ _ rfl h) h0 h4)
end
section
open Go.RowKit
inductive CdIn (P:Nat->Prop) (w:World):Cd->Value->Prop where
 | mk (k:Int) (n x:ByteArray) (l:List Cd) (A:Option Addr) (c b o:Nat) (u0 u1 u2 u3:Nat->Value) (hA:0 < l.length->A=some ⟨b,o,none⟩) (hb:0 < l.length->P b)
   (h0:∀ j,j < l.length->w.cell? ⟨b,o+j * 4,none⟩=some (u0 j)) (h1:∀ j,j < l.length->w.cell? ⟨b,o+j * 4+1,none⟩=some (u1 j))
   (h2:∀ j,j < l.length->w.cell? ⟨b,o+j * 4+2,none⟩=some (u2 j)) (h3:∀ j,j < l.length->w.cell? ⟨b,o+j * 4+3,none⟩=some (u3 j))
   (hr:∀ j (hj:j < l.length),CdIn P w l[j] (.agg #[u0 j,u1 j,u2 j,u3 j])):CdIn P w (.mk k n x l) (.agg #[.int .i64 k,.string n,.string x,.slice A l.length c])
abbrev CdAt (B:Nat):World->Cd->Value->Prop:=CdIn (fun b=>B<=b)
theorem CdIn.keep {P:Nat->Prop} {w w':World} (hc:∀ b o v,P b->w.cell? ⟨b,o,none⟩=some v->w'.cell? ⟨b,o,none⟩=some v) {c:Cd} {v:Value} (h:CdIn P w c v):CdIn P w' c v:=by
 induction h with
 | mk k n x l A c b o u0 u1 u2 u3 hA hb h0 h1 h2 h3 hr ih =>
   have hp:∀ j,j < l.length->P b:=fun j hj=>hb (by omega)
   exact .mk k n x l A c b o u0 u1 u2 u3 hA hb (fun j hj=>hc b _ _ (hp j hj) (h0 j hj)) (fun j hj=>hc b _ _ (hp j hj) (h1 j hj)) (fun j hj=>hc b _ _ (hp j hj) (h2 j hj)) (fun j hj=>hc b _ _ (hp j hj) (h3 j hj)) ih
theorem CdIn.imp {P P':Nat->Prop} {w:World} (hp:∀ b,b < w.heap.size->P b->P' b) {c:Cd} {v:Value} (h:CdIn P w c v):CdIn P' w c v:=by
 induction h with
 | mk k n x l A c b o u0 u1 u2 u3 hA hb h0 h1 h2 h3 hr ih =>
   exact .mk k n x l A c b o u0 u1 u2 u3 hA (fun h=>hp b (lt_of_cell (h0 0 h)) (hb h)) h0 h1 h2 h3 ih
theorem CdIn.ext {P:Nat->Prop} {w w':World} (hx:Ext w w') {c:Cd} {v:Value} (h:CdIn P w c v):CdIn P w' c v:=h.keep fun _ _ _ _ e=>hx.cell e
theorem CdAt.ext {B:Nat} {w w':World} (hx:Ext w w') {c:Cd} {v:Value} (h:CdAt B w c v):CdAt B w' c v:=h.keep fun _ _ _ _ e=>hx.cell e
theorem cell_set_far {w:World} {p:Addr} {u v:Value} {b o:Nat} (hb:b≠p.block) (e:w.cell? ⟨b,o,none⟩=some v):(w.setCell p u).cell? ⟨b,o,none⟩=some v:=by
 unfold World.cell? at e ⊢
 simp only[World.setCell,Array.getElem?_modify]
 rw[if_neg (by omega)]
 exact e
theorem CdIn.set {P:Nat->Prop} {w:World} {p:Addr} (hp:¬ P p.block) (u:Value) {c:Cd} {v:Value} (h:CdIn P w c v):CdIn P (w.setCell p u) c v:=h.keep fun _ _ _ hb e=>cell_set_far (fun x=>hp (x ▸ hb)) e
theorem CdAt.set {B:Nat} {w:World} {p:Addr} (hp:p.block < B) (u:Value) {c:Cd} {v:Value} (h:CdAt B w c v):CdAt B (w.setCell p u) c v:=h.keep fun _ _ _ hb e=>cell_set_far (by omega) e
theorem CdIn.leaf (P:Nat->Prop) (w:World) (k:Int) (n x:ByteArray):CdIn P w (.mk k n x []) (.agg #[.int .i64 k,.string n,.string x,.slice none 0 0]) :=
 .mk k n x [] none 0 0 0 (fun _=>.int .i64 0) (fun _=>.int .i64 0) (fun _=>.int .i64 0) (fun _=>.int .i64 0) (fun h=>absurd h (Nat.lt_irrefl _)) (fun h=>absurd h (Nat.lt_irrefl _)) (fun _ h=>absurd h (Nat.not_lt_zero _)) (fun _ h=>absurd h (Nat.not_lt_zero _)) (fun _ h=>absurd h (Nat.not_lt_zero _)) (fun _ h=>absurd h (Nat.not_lt_zero _)) (fun _ h=>absurd h (Nat.not_lt_zero _))
theorem CdAt.leaf (B:Nat) (w:World) (k:Int) (n x:ByteArray):CdAt B w (.mk k n x []) (.agg #[.int .i64 k,.string n,.string x,.slice none 0 0]):=CdIn.leaf _ w k n x
theorem CdIn.cells {P:Nat->Prop} {w:World} {c:Cd} {v:Value} (h:CdIn P w c v):∃ (k:Int) (n x:ByteArray) (A:Option Addr) (m cp:Nat),v=.agg #[.int .i64 k,.string n,.string x,.slice A m cp]:=by
 cases h with
 | mk k n x l A c b o u0 u1 u2 u3=>exact⟨k,n,x,A,_,c,rfl⟩
theorem CdAt.cells {B:Nat} {w:World} {c:Cd} {v:Value} (h:CdAt B w c v):∃ (k:Int) (n x:ByteArray) (A:Option Addr) (m cp:Nat),v=.agg #[.int .i64 k,.string n,.string x,.slice A m cp]:=CdIn.cells h
def z0:Value:=.bool false
structure CdRow (P:Nat->Prop) (w:World) (l:List Cd) (xs:List Value):Prop where
 len:xs.length=l.length * 4
 at_:∀ j (hj:j < l.length),CdIn P w l[j] (.agg #[xs.getD (j * 4) z0,xs.getD (j * 4+1) z0,xs.getD (j * 4+2) z0,xs.getD (j * 4+3) z0])
theorem CdRow.nil (P:Nat->Prop) (w:World):CdRow P w [] []:=⟨rfl,fun _ h=>absurd h (Nat.not_lt_zero _)⟩
theorem CdRow.keep {P P':Nat->Prop} {w w':World} {l:List Cd} {xs:List Value} (h:CdRow P w l xs) (hp:∀ b,b < w.heap.size->P b->P' b) (hc:∀ b o v,b < w.heap.size->P b->w.cell? ⟨b,o,none⟩=some v->w'.cell? ⟨b,o,none⟩=some v):CdRow P' w' l xs:=by
 refine⟨h.len,fun j hj=>?_⟩
 have h1:CdIn (fun b=>b < w.heap.size∧P b) w l[j] _:=(h.at_ j hj).imp fun b hb hP=>⟨hb,hP⟩
 have h2:CdIn (fun b=>b < w.heap.size∧P b) w' l[j] _:=h1.keep fun b o v hP e=>hc b o v hP.1 hP.2 e
 have h3:CdIn (fun b=>b < w.heap.size∧P b) w l[j] _:=h1
 clear h3
 -- the blocks told are the old world's
 have h4:∀ {c:Cd} {v:Value},CdIn (fun b=>b < w.heap.size∧P b) w' c v->CdIn P' w' c v:=by
  intro c v h
  induction h with
  | mk k n x l A c b o u0 u1 u2 u3 hA hb h0 h1 h2 h3 hr ih=>exact .mk k n x l A c b o u0 u1 u2 u3 hA (fun h=>hp b (hb h).1 (hb h).2) h0 h1 h2 h3 ih
 exact h4 h2
theorem CdRow.ext {P:Nat->Prop} {w w':World} {l:List Cd} {xs:List Value} (h:CdRow P w l xs) (hx:Ext w w'):CdRow P w' l xs:=h.keep (fun _ _ h=>h) fun _ _ _ _ _ e=>hx.cell e
theorem CdRow.snoc {P:Nat->Prop} {w:World} {l:List Cd} {xs:List Value} (h:CdRow P w l xs) {c:Cd} {u0 u1 u2 u3:Value} (hc:CdIn P w c (.agg #[u0,u1,u2,u3])):CdRow P w (l++[c]) (xs++[u0,u1,u2,u3]):=by
 refine⟨by rw[List.length_append,List.length_append,h.len];simp;omega,fun j hj=>?_⟩
 rw[List.length_append] at hj
 by_cases hlt:j < l.length
 ·have hx:∀ i,i < 4->(xs++[u0,u1,u2,u3]).getD (j * 4+i) z0=xs.getD (j * 4+i) z0:=fun i hi=>by
   rw[List.getD_eq_getElem?_getD,List.getD_eq_getElem?_getD,List.getElem?_append_left (by rw[h.len];omega)]
  have h0:=hx 0 (by omega)
  rw[Nat.add_zero] at h0
  rw[h0,hx 1 (by omega),hx 2 (by omega),hx 3 (by omega),List.getElem_append_left hlt]
  exact h.at_ j hlt
 ·have e:j=l.length:=by simp at hj;omega
  subst e
  have hx:∀ i u,([u0,u1,u2,u3]:List Value)[i]?=some u->(xs++[u0,u1,u2,u3]).getD (l.length * 4+i) z0=u:=fun i u hu=>by
   rw[List.getD_eq_getElem?_getD,List.getElem?_append_right (by rw[h.len];omega),h.len,Nat.add_sub_cancel_left,hu]
   rfl
  have h0:=hx 0 u0 rfl
  rw[Nat.add_zero] at h0
  rw[h0,hx 1 u1 rfl,hx 2 u2 rfl,hx 3 u3 rfl]
  simpa using hc
theorem CdIn.ofRow {P:Nat->Prop} {w:World} {l:List Cd} {xs:List Value} (h:CdRow P w l xs) (k:Int) (n x:ByteArray) {A:Option Addr} {cp b:Nat} (hA:0 < l.length->A=some ⟨b,0,none⟩) (hb:0 < l.length->P b) (hc:∀ j u,xs[j]?=some u->w.cell? ⟨b,j,none⟩=some u) :
 CdIn P w (.mk k n x l) (.agg #[.int .i64 k,.string n,.string x,.slice A l.length cp]):=by
 have hx:∀ j i,j < l.length->i < 4->w.cell? ⟨b,0+j * 4+i,none⟩=some (xs.getD (j * 4+i) z0):=fun j i hj hi=>by
  have hlt:j * 4+i < xs.length:=by rw[h.len];omega
  rw[Nat.zero_add]
  refine hc _ _ ?_
  rw[List.getD_eq_getElem?_getD,List.getElem?_eq_getElem hlt]
  rfl
 exact .mk k n x l A cp b 0 (fun j=>xs.getD (j * 4) z0) (fun j=>xs.getD (j * 4+1) z0) (fun j=>xs.getD (j * 4+2) z0) (fun j=>xs.getD (j * 4+3) z0) hA hb
  (fun j hj=>hx j 0 hj (by omega)) (fun j hj=>hx j 1 hj (by omega)) (fun j hj=>hx j 2 hj (by omega)) (fun j hj=>hx j 3 hj (by omega)) (fun j hj=>h.at_ j hj)
theorem CdAt.one {B:Nat} {w:World} {k:Int} {n x:ByteArray} {c:Cd} {b cp:Nat} {u0 u1 u2 u3:Value} (hb:B<=b) (h0:w.cell? ⟨b,0,none⟩=some u0) (h1:w.cell? ⟨b,1,none⟩=some u1) (h2:w.cell? ⟨b,2,none⟩=some u2) (h3:w.cell? ⟨b,3,none⟩=some u3)
 (h:CdAt B w c (.agg #[u0,u1,u2,u3])):CdAt B w (.mk k n x [c]) (.agg #[.int .i64 k,.string n,.string x,.slice (some ⟨b,0,none⟩) 1 cp]):=by
 have z:∀ j,j < [c].length->j=0:=fun j hj=>by simpa using hj
 exact .mk k n x [c] _ cp b 0 (fun _=>u0) (fun _=>u1) (fun _=>u2) (fun _=>u3) (fun _=>rfl) (fun _=>hb)
  (fun j hj=>by obtain rfl:=z j hj;exact h0) (fun j hj=>by obtain rfl:=z j hj;exact h1) (fun j hj=>by obtain rfl:=z j hj;exact h2) (fun j hj=>by obtain rfl:=z j hj;exact h3)
  (fun j hj=>by obtain rfl:=z j hj;exact h)
end
section
open Go.RowKit
end
section
structure Wd where
 t:ByteArray
 k:UInt8
 a:Nat
 v:ByteArray
abbrev zeroW:Wd:=⟨⟨#[]⟩,0,0,⟨#[]⟩⟩
def kindW (k:Int) (t:ByteArray):UInt8:=if k=3 then t.data.toList.headD 0 else if k=2 then 113 else 119
def wdOf (k:Int) (a:Nat) (t:ByteArray):Wd:=if k=2 then ⟨⟨#[]⟩,113,a,t⟩ else ⟨t,kindW k t,a,⟨#[]⟩⟩
def endW (s:ByteArray):Wd:=⟨⟨#[]⟩,101,s.size,⟨#[]⟩⟩
def badW (a:Nat):Wd:=⟨⟨#[]⟩,33,a,⟨#[]⟩⟩
abbrev at0 (i:Nat):St:=⟨i,0,0,⟨#[]⟩,-1⟩
def wordsT (s:ByteArray) (i:Nat):List Wd :=
 if _h0:(advF s (at0 i)).k=0 then [endW s]
 else if _h4:(advF s (at0 i)).k=4 then [badW (advF s (at0 i)).a,endW s]
 else if _hp:(advF s (at0 i)).p<=s.size then wdOf (advF s (at0 i)).k (advF s (at0 i)).a (advF s (at0 i)).t::wordsT s (advF s (at0 i)).p
 else []
 termination_by s.size - i
 decreasing_by
  have:=advF_lt _h0 _h4
  dsimp only at this
  omega
structure Rs where
 l:List Wd
 bad:Int
def Rs.hd (τ:Rs):Wd:=τ.l.headD zeroW
section
variable (f:Rs->Cd × Rs)
end
end
section
def LastE (W:List Wd):Prop:=∃ P e,W=P++[e]∧e.k=101
def SufR (W:List Wd) (τ:Rs):Prop:=∃ j,j < W.length∧τ.l=W.drop j
structure OnR (W:List Wd) (τ υ:Rs):Prop where
 suf:SufR W τ->SufR W υ
 len:υ.l.length<=τ.l.length
 bad:¬ τ.bad < 0->υ.bad=τ.bad
theorem OnR.refl (W:List Wd) (τ:Rs):OnR W τ τ:=⟨id,Nat.le_refl _,fun _=>rfl⟩
theorem OnR.trans {W:List Wd} {a b c:Rs} (h:OnR W a b) (k:OnR W b c):OnR W a c :=
 ⟨fun x=>k.suf (h.suf x),Nat.le_trans k.len h.len,fun x=>by rw[k.bad (by rw[h.bad x];exact x),h.bad x]⟩
section
variable {W:List Wd} (hW:LastE W)
include hW
end
end
section
def Sim (s:ByteArray) (σ:St) (τ:Rs):Prop :=
 (σ.wr < 0∧τ.bad < 0∧∃ i,i<=s.size∧(σ.k=(advF s (at0 i)).k∧σ.a=(advF s (at0 i)).a∧σ.t=(advF s (at0 i)).t∧σ.p=(advF s (at0 i)).p)∧τ.l=wordsT s i)∨(¬ σ.wr < 0∧τ.bad=σ.wr)
section
variable {s:ByteArray}
theorem Sim.err {σ:St} {τ:Rs} (h:¬ σ.wr < 0) (e:τ.bad=σ.wr):Sim s σ τ:=.inr ⟨h,e⟩
end
end
section
section
variable {s:ByteArray}
theorem Sim.ok {σ:St} {τ:Rs} (h:Sim s σ τ) (hw:σ.wr < 0):OkS s σ:=by
 rcases h with ⟨_,_,i,hi,⟨ek,ea,et,ep⟩,_⟩|⟨h1,_⟩
 ·have:=advF_ok (s:=s) (σ:=at0 i) ⟨hi,Nat.zero_le _,Nat.zero_le _⟩
  exact⟨by rw[ep];exact this.p,by rw[ea];exact this.a,by rw[et];exact this.t⟩
 ·exact absurd hw h1
end
end
section
open Go.RowKit
def Cd.kind:Cd->Int|.mk k _ _ _=>k
def Cd.name:Cd->ByteArray|.mk _ n _ _=>n
def Cd.value:Cd->ByteArray|.mk _ _ x _=>x
def Cd.args:Cd->List Cd|.mk _ _ _ l=>l
mutual
def cnt:Cd->Nat|.mk _ _ _ l=>1+cnts l
def cnts:List Cd->Nat|[]=>0|c::l=>cnt c+cnts l
end
mutual
def prt (lev:Nat):Cd->List (Cd × Nat)|.mk k n x l=>(.mk k n x l,lev)::prts (lev+1) l
def prts (lev:Nat):List Cd->List (Cd × Nat)|[]=>[]|c::l=>prt lev c++prts lev l
end
theorem cnt_pos (c:Cd):0 < cnt c:=by cases c;unfold cnt;omega
mutual
theorem prt_len (lev:Nat):∀ c:Cd,(prt lev c).length=cnt c
 | .mk k n x l=>by unfold prt cnt;rw[List.length_cons,prts_len (lev+1) l];omega
theorem prts_len (lev:Nat):∀ l:List Cd,(prts lev l).length=cnts l
 | []=>rfl
 | c::l=>by unfold prts cnts;rw[List.length_append,prt_len lev c,prts_len lev l]
end
theorem prts_append (lev:Nat) (a b:List Cd):prts lev (a++b)=prts lev a++prts lev b:=by
 induction a with
 | nil=>simp[prts]
 | cons x r ih=>simp only[List.cons_append,prts,ih,List.append_assoc]
inductive SmallC:Cd->Prop where
 | mk (k:Int) (n x:ByteArray) (l:List Cd) (hn:n.size<=2097152) (hx:x.size<=2097152) (hl:l.length<=100000000) (hr:∀ c∈l,SmallC c):SmallC (.mk k n x l)
def namedK (k:Int):Bool:=decide (2<=k)&&decide (k<=5)
def valuedK (k:Int):Bool:=namedK k&&!decide (k=4)
def formBad (k:Int) (n x:Str) (m:Nat):Bool :=
 (!namedK k&&!n.isEmpty)||(!valuedK k&&!x.isEmpty)||(!decide (6<=k)&&decide (0 < m))||(decide (k=6)&&!decide (m=1))
def partErr (k:Int) (n x:Str) (m:Nat):Int :=
 if k < 1∨8 < k then 1
 else if formBad k n x m=true then 2
 else if namedK k=false then 0
 else if (!(if k=3∨k=4 then pathL n else nameL n))=true then 5
 else if (!valueL x)=true then 2
 else if k=5 then (parseR x).2 else 0
def partC (c:Cd):Int:=partErr c.kind (bs c.name) (bs c.value) c.args.length
def firstErr:List (Cd × Nat)->Int
 | []=>0
 | p::r=>if partC p.1=0 then firstErr r else partC p.1
def checkC (c:Cd):Int :=
 if 100 < cnt c then 4
 else if firstErr (prt 0 c)≠0 then firstErr (prt 0 c)
 else if (prt 0 c).any (fun p=>decide (20 < p.2))=true then 4 else 0
end
section
inductive StrC (m:Nat):Cd->Prop where
 | mk (k:Int) (n x:ByteArray) (l:List Cd) (hn:n.size<=m) (hx:x.size<=m) (hr:∀ c∈l,StrC m c):StrC m (.mk k n x l)
theorem StrC.zero (m:Nat):StrC m zeroC:=.mk _ _ _ _ (Nat.zero_le _) (Nat.zero_le _) (fun _ h=>by cases h)
theorem cnts_mem:∀ {l:List Cd} {c:Cd},c∈l->cnt c<=cnts l
 | a::l,c,h=>by
   rcases List.mem_cons.1 h with rfl|h
   ·simp only[cnts];omega
   ·have:=cnts_mem h
    simp only[cnts];omega
theorem cnts_len':∀ (l:List Cd),l.length<=cnts l
 | []=>Nat.le_refl _
 | c::l=>by
   have:=cnts_len' l
   have:=cnt_pos c
   simp only[cnts,List.length_cons]
   omega
theorem small_of {m:Nat} (hm:m<=2097152) {c:Cd} (h:StrC m c) (hc:cnt c<=100000000):SmallC c:=by
 induction h with
 | mk k n x l hn hx hr ih =>
   unfold cnt at hc
   have:=cnts_len' l
   exact .mk k n x l (by omega) (by omega) (by omega) fun c hcl=>ih c hcl (by have:=cnts_mem hcl;omega)
section
variable {s:ByteArray}
theorem cnt_mk (k:Int) (n x:ByteArray) (l:List Cd):cnt (.mk k n x l)=1+cnts l:=by simp[cnt]
theorem cnt_leaf (k:Int) (n x:ByteArray):cnt (.mk k n x [])=1:=by simp[cnt,cnts]
end
end
section
section
variable {s:ByteArray}
end
end
section
open Go.RowKit
theorem any_at {α:Type} {p:α->Bool} {l:List α} {k:Nat} (h:k < l.length) (e:p l[k]=true):l.any p=true:=List.any_eq_true.2 ⟨_,List.getElem_mem h,e⟩
theorem any_none {α:Type} {p:α->Bool} {l:List α} (h:∀ k (hk:k < l.length),p l[k]=false):l.any p=false:=by
 rw[List.any_eq_false]
 intro s hs
 obtain⟨k,hk,rfl⟩:=List.mem_iff_getElem.1 hs
 rw[h k hk]
 decide
set_option maxHeartbeats 4000000 in
theorem IndexFuncS_any (A:Option Addr) (n c:Nat) (l:List Sp) (f:FuncId) (lb:Array Value) (p:Sp->Bool) (w:World) (hn:l.length=n) (hr:RdS w A l) (hl:n<=2097152)
 (hen:∀ xs w,Sem.run Tryz.prog (callFunc f xs) w=.ok (.enter f xs) w)
 (hp:∀ k (hk:k < l.length) W,Ext w W->Calls Tryz.prog f (#[spV l[k]]++lb) W fun e w'=>e=.returned (.bool (p l[k]))∧Ext W w') :
 Calls Tryz.prog 254 #[.slice A n c,.func (.func f) #[] lb] w fun e w'=>∃ z:Int,e=.returned (.int .i64 z)∧(0<=z↔l.any p=true)∧Ext w w':=by
 have HN:=Hy hn
 have HP:=Hy hp
 clear hn hp
 go_enter Tryz.func254,Tryz.ntmps254
 go_wp2
 go_loopw [8] (fun i wr=>∃ k:Nat,k<=n∧i=.int .i64 k∧Hid (∀ j (hj:j < l.length),j < k->p l[j]=false)∧Ext w wr) (fun i _=>n - (intOf i).toNat)
 case atStart=>exact⟨0,Nat.zero_le _,rfl,fun j _ h=>absurd h (Nat.not_lt_zero _),Ext.refl _⟩
 case round =>
  obtain⟨k,hk,rfl,HALL,hxr⟩:=hrel
  by_cases hlt:k < n
  ·have hk1:k < l.length:=by rw[HN.out];exact hlt
   obtain⟨b,o,rfl,hX⟩:=hr (fun e=>by rw[e] at hk1;exact absurd hk1 (Nat.not_lt_zero _))
   have X:=hX.ext hxr
   have x0:=X.c0 k hk1;have x1:=X.c1 k hk1;have x2:=X.c2 k hk1;have x3:=X.c3 k hk1;have x4:=X.c4 k hk1
   have x5:=X.c5 k hk1;have x6:=X.c6 k hk1;have x7:=X.c7 k hk1;have x8:=X.c8 k hk1;have x9:=X.c9 k hk1
   have HNX:=Hy (show p l[k]=false->∀ j (hj:j < l.length),j < k+1->p l[j]=false from fun e j hj h=>by
    by_cases hjk:j=k
    ·subst hjk;exact e
    ·exact HALL.out j hj (by omega))
   have HYES:=Hy (fun e=>any_at (p:=p) hk1 e)
   have hc:=HP.out k hk1
   clear X
   generalize p l[k]=r at *
   generalize l[k]=s at *
   obtain⟨hf,ht,⟨f1,f2,f3,fa⟩,⟨t1,t2,t3,ta⟩⟩:=s
   dsimp only[spV] at x0 x1 x2 x3 x4 x5 x6 x7 x8 x9 hc
   have HC:=Hy hc
   clear hc
   go_wp2_with fail
   refine (HC.out _ hxr).mono ?_
   rintro e w1 ⟨rfl,hx1⟩
   cases r
   ·have HF:=Hy (HNX.out rfl)
    go_wp2
    go_roundw
    case rel=>exact⟨k+1,by omega,by go_num,HF.out,hxr.trans hx1⟩
    case measure=>simp[intOf];omega
   ·have HF:=Hy (HYES.out rfl)
    go_wp2
    go_ret
    exact⟨(k:Int),rfl,⟨fun _=>HF.out,fun _=>by omega⟩,hxr.trans hx1⟩
  ·obtain rfl:k=n:=by omega
   have HF:=Hy (any_none (p:=p) fun j hj=>HALL.out j hj (by have:=HN.out;omega))
   go_wp2
   go_ret
   exact⟨-1,rfl,⟨fun h=>by omega,fun h=>by rw[HF.out] at h;cases h⟩,hxr⟩
set_option maxHeartbeats 4000000 in
theorem ContainsFuncS_any (A:Option Addr) (n c:Nat) (l:List Sp) (f:FuncId) (lb:Array Value) (p:Sp->Bool) (w:World) (hn:l.length=n) (hr:RdS w A l) (hl:n<=2097152)
 (hen:∀ xs w,Sem.run Tryz.prog (callFunc f xs) w=.ok (.enter f xs) w)
 (hp:∀ k (hk:k < l.length) W,Ext w W->Calls Tryz.prog f (#[spV l[k]]++lb) W fun e w'=>e=.returned (.bool (p l[k]))∧Ext W w') :
 Calls Tryz.prog 207 #[.slice A n c,.func (.func f) #[] lb] w fun e w'=>e=.returned (.bool (l.any p))∧Ext w w':=by
 have CI:=Hy (IndexFuncS_any A n c l f lb p w hn hr hl hen hp)
 clear hn hr hp
 generalize l.any p=r at *
 go_enter Tryz.func207,Tryz.ntmps207
 go_wp2_with fail
 refine CI.out.mono ?_
 rintro e w1 ⟨z,rfl,hz,hx1⟩
 have HZ:=Hy hz
 clear hz
 go_wp2
 go_ret
 refine⟨ret_bool ?_,hx1⟩
 have h:=HZ.out
 cases r
 ·have:¬ 0<=z:=fun e=>by have:=h.1 e;cases this
  simp;omega
 ·have:=h.2 rfl
  simp;omega
set_option maxHeartbeats 8000000 in
theorem Inside_any (s:Sp) (v:V4) (w:World) (hg:GoodN w) (h1:s.f.a.size<=2097152) (h2:s.t.a.size<=2097152) (h3:v.a.size<=2097152) (e1:s.f.err=0) (e2:s.t.err=0) (e3:v.err=0) :
 Calls Tryz.prog 209 #[spV s,verV v] w fun e w'=>e=.returned (.bool (insideL s v))∧Ext w w':=by
 have cF:=fun W (h:Ext w W)=>CompareOf_any v.a1 v.a2 v.a3 s.f.a1 s.f.a2 s.f.a3 v.a s.f.a W (hg.ext h) h3 h1 e3 e1
 have cT:=fun W (h:Ext w W)=>CompareOf_any v.a1 v.a2 v.a3 s.t.a1 s.t.a2 s.t.a3 v.a s.t.a W (hg.ext h) h3 h2 e3 e2
 have hi:insideL s v=(!(s.hf&&decide (orderL v.a1 v.a2 v.a3 (bs v.a) s.f.a1 s.f.a2 s.f.a3 (bs s.f.a) < 0))&&!(s.ht&&decide (0<=orderL v.a1 v.a2 v.a3 (bs v.a) s.t.a1 s.t.a2 s.t.a3 (bs s.t.a)))):=rfl
 rw[hi]
 generalize orderL v.a1 v.a2 v.a3 (bs v.a) s.f.a1 s.f.a2 s.f.a3 (bs s.f.a)=OF at *
 generalize orderL v.a1 v.a2 v.a3 (bs v.a) s.t.a1 s.t.a2 s.t.a3 (bs s.t.a)=OT at *
 obtain⟨hf,ht,⟨f1,f2,f3,fa⟩,⟨t1,t2,t3,ta⟩⟩:=s
 obtain⟨v1,v2,v3,va⟩:=v
 dsimp only[spV,verV] at cF cT ⊢
 have CF:=Hy cF;have CT:=Hy cT
 clear cF cT hi e1 e2 e3
 have b1:=(Blk.new w 130 #[.bool hf,.bool ht,.int .i64 f1,.int .i64 f2,.int .i64 f3,.string fa,.int .i64 t1,.int .i64 t2,.int .i64 t3,.string ta]).alloc (.cells #[.int .i64 v1,.int .i64 v2,.int .i64 v3,.string va] 23)
 have b2:=Blk.new (w.alloc (.cells #[.bool hf,.bool ht,.int .i64 f1,.int .i64 f2,.int .i64 f3,.string fa,.int .i64 t1,.int .i64 t2,.int .i64 t3,.string ta] 130)) 23 #[.int .i64 v1,.int .i64 v2,.int .i64 v3,.string va]
 rw[World.size_alloc] at b2
 have hx0:Ext w ((w.alloc (.cells #[.bool hf,.bool ht,.int .i64 f1,.int .i64 f2,.int .i64 f3,.string fa,.int .i64 t1,.int .i64 t2,.int .i64 t3,.string ta] 130)).alloc (.cells #[.int .i64 v1,.int .i64 v2,.int .i64 v3,.string va] 23)):=((Ext.refl w).alloc _).alloc _
 -- the second half,from whatever world
 cases hf
 ·cases ht
  ·go_enter Tryz.func209,Tryz.ntmps209
   go_wp2
   go_ret
   exact⟨rfl,hx0⟩
  ·go_enter Tryz.func209,Tryz.ntmps209
   go_wp2_with fail
   refine (CT.out _ hx0).mono ?_
   rintro e w1 ⟨rfl,hx1⟩
   go_wp2
   go_ret
   refine⟨ret_bool ?_,hx0.trans hx1⟩
   simp
 ·cases ht
  ·go_enter Tryz.func209,Tryz.ntmps209
   go_wp2_with fail
   refine (CF.out _ hx0).mono ?_
   rintro e w1 ⟨rfl,hx1⟩
   have c1:=(b1.ext hx1).cell;have c2:=(b2.ext hx1).cell;have l1:=(b1.ext hx1).lt;have l2:=(b2.ext hx1).lt
   by_cases hF:OF < 0
   ·have HF:=Hy hF
    go_wp2
    go_ret
    refine⟨ret_bool ?_,hx0.trans hx1⟩
    simp[HF.out]
   ·have HF:=Hy hF
    go_wp2
    go_ret
    refine⟨ret_bool ?_,hx0.trans hx1⟩
    have:=HF.out
    first|(simp;done)|(simp;omega)
  ·go_enter Tryz.func209,Tryz.ntmps209
   go_wp2_with fail
   refine (CF.out _ hx0).mono ?_
   rintro e w1 ⟨rfl,hx1⟩
   have c1:=(b1.ext hx1).cell;have c2:=(b2.ext hx1).cell;have l1:=(b1.ext hx1).lt;have l2:=(b2.ext hx1).lt
   by_cases hF:OF < 0
   ·have HF:=Hy hF
    go_wp2
    go_ret
    refine⟨ret_bool ?_,hx0.trans hx1⟩
    simp[HF.out]
   ·have HF:=Hy (decide_eq_false hF)
    go_wp2_with fail
    refine (CT.out _ (hx0.trans hx1)).mono ?_
    rintro e w2 ⟨rfl,hx2⟩
    go_wp2
    go_ret
    refine⟨ret_bool ?_,(hx0.trans hx1).trans hx2⟩
    simp[HF.out]
end
section
structure Aw where
 k:UInt8
 t:Str
 v:Str
def Wd.ab (d:Wd):Aw:=⟨d.k,bs d.t,bs d.v⟩
def stopS:Str->Prop
 | []=>True
 | c::_=>tokB c=false
def TokOf (L:Str) (A:List Aw):Prop:=∀ (s:ByteArray) (i:Nat) (R:Str),(bs s).drop i=L++R->stopS R->∃ W,wordsT s i=W++wordsT s (i+L.length)∧W.map Wd.ab=A
def TokS (L:Str) (A:List Aw):Prop:=∀ (s:ByteArray) (i:Nat) (R:Str),(bs s).drop i=L++R->∃ W,wordsT s i=W++wordsT s (i+L.length)∧W.map Wd.ab=A
theorem TokS.of {L:Str} {A:List Aw} (h:TokS L A):TokOf L A:=fun s i R e _=>h s i R e
end
section
def joinT (w:Str):List Str->Str
 | []=>[]
 | [a]=>a
 | a::b::l=>a++(32::(w++32::joinT w (b::l)))
def groupT (w:Str):List Str->Str
 | []=>40::(w++[41])
 | [a]=>40::(w++(32::(a++[41])))
 | a::b::l=>40::(joinT w (a::b::l)++[41])
mutual
def ctL:Cd->Str
 | .mk k n x l =>
   if k=1 then wAlways
   else if k=2 then wFact++(32::(bs n++(32::61::32::quoteL (bs x))))
   else if k=3 then wSetting++(32::(bs n++(32::61::32::quoteL (bs x))))
   else if k=4 then wHas++(32::bs n)
   else if k=5 then wVersion++(32::(bs n++(32::(wIn++(32::quoteL (bs x))))))
   else if k=6 then wNot++(32::(ctsL l).headD [])
   else groupT (if k=8 then wOr else wAnd) (ctsL l)
def ctsL:List Cd->List Str|[]=>[]|c::l=>ctL c::ctsL l
end
abbrev aw (t:Str):Aw:=⟨119,t,[]⟩
abbrev sg (c:UInt8):Aw:=⟨c,[c],[]⟩
abbrev qt (x:Str):Aw:=⟨113,[],x⟩
def joinW (w:Str):List (List Aw)->List Aw
 | []=>[]
 | [a]=>a
 | a::b::l=>a++(aw w::joinW w (b::l))
def groupW (w:Str):List (List Aw)->List Aw
 | []=>[sg 40,aw w,sg 41]
 | [a]=>sg 40::aw w::(a++[sg 41])
 | a::b::l=>sg 40::(joinW w (a::b::l)++[sg 41])
mutual
def cwL:Cd->List Aw
 | .mk k n x l =>
   if k=1 then [aw wAlways]
   else if k=2 then [aw wFact,aw (bs n),sg 61,qt (bs x)]
   else if k=3 then [aw wSetting,aw (bs n),sg 61,qt (bs x)]
   else if k=4 then [aw wHas,aw (bs n)]
   else if k=5 then [aw wVersion,aw (bs n),aw wIn,qt (bs x)]
   else if k=6 then aw wNot::(cwsL l).headD []
   else groupW (if k=8 then wOr else wAnd) (cwsL l)
def cwsL:List Cd->List (List Aw)|[]=>[]|c::l=>cwL c::cwsL l
end
end
section
def OkD:Nat->Cd->Prop
 | 0,.mk k n x l=>partErr k (bs n) (bs x) l.length=0∧k < 6
 | m+1,.mk k n x l=>partErr k (bs n) (bs x) l.length=0∧∀ c∈l,OkD m c
theorem OkD.part {m:Nat} {k:Int} {n x:ByteArray} {l:List Cd} (h:OkD m (.mk k n x l)):partErr k (bs n) (bs x) l.length=0:=by
 cases m with
 | zero=>exact h.1
 | succ m=>exact h.1
theorem part_kind {k:Int} {n x:Str} {m:Nat} (h:partErr k n x m=0):1<=k∧k<=8:=by
 unfold partErr at h
 split at h
 ·cases h
 ·omega
theorem part_form {k:Int} {n x:Str} {m:Nat} (h:partErr k n x m=0):formBad k n x m=false:=by
 have hk:=part_kind h
 unfold partErr at h
 rw[if_neg (by omega)] at h
 split at h
 ·cases h
 ·rename_i hf;exact (Bool.not_eq_true _).mp hf
theorem form_leaf {k:Int} {n x:Str} {m:Nat} (h:formBad k n x m=false):(namedK k=false->n=[])∧(valuedK k=false->x=[])∧(k < 6->m=0)∧(k=6->m=1):=by
 unfold formBad at h
 simp only[Bool.or_eq_false_iff,Bool.and_eq_false_iff,Bool.not_eq_false',decide_eq_false_iff_not,List.isEmpty_iff,decide_eq_true_eq] at h
 obtain⟨⟨⟨h1,h2⟩,h3⟩,h4⟩:=h
 refine⟨fun e=>?_,fun e=>?_,fun e=>?_,fun e=>?_⟩
 ·rcases h1 with h|h
  ·rw[e] at h;cases h
  ·exact h
 ·rcases h2 with h|h
  ·rw[e] at h;cases h
  ·exact h
 ·rcases h3 with h|h<;>omega
 ·rcases h4 with h|h
  ·exact absurd e h
  ·exact h
end
section
theorem map_cons {W:List Wd} {a:Aw} {r:List Aw} (h:W.map Wd.ab=a::r):∃ d V,W=d::V∧d.ab=a∧V.map Wd.ab=r:=by
 obtain⟨d,V,rfl,h1,h2⟩:=List.map_eq_cons_iff.1 h
 exact⟨d,V,rfl,h1,h2⟩
end
section
end
section
open Go.ChangeShapes Go.WideShapes Go.ChangeAt Go.RowKit Go.WideElems Go.Joins
theorem StrC.le {m m':Nat} (hm:m<=m') {c:Cd} (h:StrC m c):StrC m' c:=by
 induction h with
 | mk k n x l hn hx _ ih=>exact .mk k n x l (by omega) (by omega) ih
instance:Inhabited Cd:=⟨zeroC⟩
theorem bulk_mem {H:Type} {n:Nat} {D:Nat->DataW H} {i:Nat} (h:i < n):Rows.uptoBulk (D i)<=Rows.uptoBulkAll ((List.range n).map D):=by
 suffices ∀ l:List Nat,i∈l->Rows.uptoBulk (D i)<=Rows.uptoBulkAll (l.map D) from this _ (List.mem_range.2 h)
 intro l
 induction l with
 | nil=>intro h;cases h
 | cons a l ih =>
   intro h
   simp only[List.map_cons,Rows.uptoBulkAll]
   rcases List.mem_cons.1 h with rfl|h
   ·omega
   ·have:=ih h;omega
set_option maxRecDepth 100000 in
theorem opens_cond (H:Type) (enc:TypeId × Value->H) (W:World):∀ (N fuel:Nat) (cs:List Value) (x:DataW H × List MemPlace),DataW.trod enc Tryz.prog W 0 (fun _=>true) true fuel 52 cs=some x->Rows.uptoBulk x.1<=N ->
 ∃ c:Cd,CdIn (fun _=>True) W c (.agg cs.toArray)∧cnt c<=Rows.uptoBulk x.1∧StrC (Rows.uptoBulk x.1) c:=by
 intro N
 induction N with
 | zero =>
   intro fuel cs x h hb
   obtain⟨y0,y1,y2,y3,n,rfl,hl,h0,h1,h2,h3⟩:=trod_struct4 Tryz.underlying52 h
   simp only[Rows.uptoBulk,Rows.uptoBulkAll] at hb
   omega
 | succ N ih =>
   intro fuel cs x h hb
   obtain⟨y0,y1,y2,y3,n,rfl,hl,h0,h1,h2,h3⟩:=trod_struct4 Tryz.underlying52 h
   have hc:Tryz.prog.cellsOf 52=4:=by kernel_rfl
   have ci:Tryz.prog.cellsOf 3=1:=by kernel_rfl
   have cst:Tryz.prog.cellsOf 9=1:=by kernel_rfl
   have csl:Tryz.prog.cellsOf 50=1:=by kernel_rfl
   rw[hc] at hl
   match cs,hl with
   | [c0,c1,c2,c3],_ =>
     dsimp only at h0 h1 h2 h3
     rw[ci] at h0
     rw[cst] at h1 h2
     rw[csl] at h3
     obtain⟨k,e0,b0⟩:=opens_int Tryz.underlying3 H enc W n _ _ h0
     obtain⟨nm,e1,b1⟩:=opens_string Tryz.underlying9 H enc W n _ _ h1
     obtain⟨vl,e2,b2⟩:=opens_string Tryz.underlying9 H enc W n _ _ h2
     simp at e0 e1 e2
     subst e0 e1 e2
     rcases Deep.open_slice Tryz.underlying50 h3 with ⟨e3,rfl⟩|⟨a,len,cap,m,n',D,Pl,e3,_,hlc,_,hm,rfl,hx⟩
     ·simp at e3
      subst e3
      refine⟨.mk k nm vl [],CdIn.leaf _ W k nm vl,?_,?_⟩
      ·simp only[cnt_leaf,Rows.uptoBulk,Rows.uptoBulkAll];omega
      ·refine .mk _ _ _ _ ?_ ?_ (fun _ h=>by cases h)
       all_goals (simp only[Rows.uptoBulk,Rows.uptoBulkAll] at b0 b1 b2 ⊢;omega)
     ·have e3:c3=.slice (some a) len cap:=by simpa using e3
      subst e3
      have hlm:len<=m:=by rw[hm];split<;>omega
      simp only[Rows.uptoBulk,Rows.uptoBulkAll] at hb
      have each:∀ i,i < len->∃ c:Cd,(cnt c<=Rows.uptoBulk (D i)∧StrC (Rows.uptoBulk (D i)) c)∧∃ ecs:List Value,CdIn (fun _=>True) W c (.agg ecs.toArray)∧W.cells? 0 (a.add (i * 4)) 4=some ecs:=fun i hi=>by
       obtain⟨cs',g1,g2⟩:=hx i (by omega)
       have hbi:=bulk_mem (D:=D) hi
       obtain⟨c,g3,g4,g5⟩:=ih n' cs' _ g2 (by dsimp only;omega)
       rw[hc] at g1
       exact⟨c,⟨g4,g5⟩,cs',g3,g1⟩
      obtain⟨F,hF⟩:=Deep.choose_lt each
      have hrow:0 < len->∃ b off,a=⟨b,off,none⟩:=fun hp=>by
       obtain⟨_,ecs0,_,hc0⟩:=hF 0 hp
       obtain⟨_,hl0,hcell0⟩:=World.cells?_some hc0
       obtain⟨b,off,spot⟩:=a
       have g0:=hcell0 0 (by decide)
       have hv:ecs0[0]?=some ecs0[0]:=List.getElem?_eq_getElem (by omega)
       rw[hv] at g0
       have hspot:spot=none:=by
        have:=World.cell?_spot g0
        simpa [Addr.add] using this
       exact⟨b,off,by rw[hspot]⟩
      obtain⟨b,off,hab⟩:∃ b off,0 < len->a=⟨b,off,none⟩:=by
       rcases Nat.eq_zero_or_pos len with e|e
       ·exact⟨0,0,fun h=>by omega⟩
       ·obtain⟨b,off,h⟩:=hrow e;exact⟨b,off,fun _=>h⟩
      have hcell:∀ i,i < len->∃ e0 e1 e2 e3:Value,CdIn (fun _=>True) W (F i) (.agg #[e0,e1,e2,e3])∧W.cell? ⟨b,off+i * 4,none⟩=some e0∧W.cell? ⟨b,off+i * 4+1,none⟩=some e1∧W.cell? ⟨b,off+i * 4+2,none⟩=some e2∧W.cell? ⟨b,off+i * 4+3,none⟩=some e3:=fun i hi=>by
       obtain⟨_,ecs,hR,hcs⟩:=hF i hi
       rw[hab (by omega)] at hcs
       obtain⟨_,hl1,hcl⟩:=World.cells?_some hcs
       have g:∀ j,j < 4->W.cell? ⟨b,off+i * 4+j,none⟩=ecs[j]?:=fun j hj=>by
        have:=hcl j hj
        rwa [Deep.add_add,add_plain,<-Nat.add_assoc] at this
       match ecs,hl1,hR,g with
       | [e0,e1,e2,e3],_,hR,g=>exact⟨e0,e1,e2,e3,hR,g 0 (by decide),g 1 (by decide),g 2 (by decide),g 3 (by decide)⟩
      have hlen:((List.range len).map F).length=len:=by simp
      have u:∀ i,i < len->∀ j,j < 4->W.cell? ⟨b,off+i * 4+j,none⟩=some ((W.cell? ⟨b,off+i * 4+j,none⟩).getD z0):=fun i hi j hj=>by
       obtain⟨e0,e1,e2,e3,_,k0,k1,k2,k3⟩:=hcell i hi
       rcases (show j=0∨j=1∨j=2∨j=3 by omega) with rfl|rfl|rfl|rfl
       ·rw[show off+i * 4+0=off+i * 4 from rfl,k0];rfl
       ·rw[k1];rfl
       ·rw[k2];rfl
       ·rw[k3];rfl
      refine⟨.mk k nm vl ((List.range len).map F),?_,?_,?_⟩
      ·have:=CdIn.mk (P:=fun _=>True) (w:=W) k nm vl ((List.range len).map F) (some a) cap b off (fun i=>(W.cell? ⟨b,off+i * 4+0,none⟩).getD z0) (fun i=>(W.cell? ⟨b,off+i * 4+1,none⟩).getD z0) (fun i=>(W.cell? ⟨b,off+i * 4+2,none⟩).getD z0) (fun i=>(W.cell? ⟨b,off+i * 4+3,none⟩).getD z0)
        (fun h=>by rw[hab (by simpa using h)]) (fun _=>trivial) (fun j hj=>u j (by simpa using hj) 0 (by decide)) (fun j hj=>u j (by simpa using hj) 1 (by decide)) (fun j hj=>u j (by simpa using hj) 2 (by decide)) (fun j hj=>u j (by simpa using hj) 3 (by decide))
        (fun j hj=>by
          obtain⟨e0,e1,e2,e3,hR,k0,k1,k2,k3⟩:=hcell j (by simpa using hj)
          rw[show off+j * 4+0=off+j * 4 from rfl,k0,k1,k2,k3]
          simpa using hR)
       rwa [hlen] at this
      ·have:=bulkAll_le (H:=H) (n:=len) (D:=D) (bk:=fun i=>cnt (F i)) fun i hi=>(hF i hi).1.1
       have hs:∀ l:List Nat,cnts (l.map F)=(l.map fun i=>cnt (F i)).sum:=fun l=>by
        induction l with
        | nil=>rfl
        | cons a l ih=>simp only[List.map_cons,cnts,List.sum_cons,ih]
       rw[cnt_mk,hs]
       simp only[Rows.uptoBulk,Rows.uptoBulkAll]
       omega
      ·refine .mk _ _ _ _ ?_ ?_ (fun c hc=>?_)
       ·simp only[Rows.uptoBulk,Rows.uptoBulkAll] at b0 b1 b2 ⊢;omega
       ·simp only[Rows.uptoBulk,Rows.uptoBulkAll] at b0 b1 b2 ⊢;omega
       ·obtain⟨i,hi,rfl⟩:=List.mem_map.1 hc
        have hi:=List.mem_range.1 hi
        refine StrC.le ?_ (hF i hi).1.2
        have:=bulk_mem (D:=D) hi
        simp only[Rows.uptoBulk,Rows.uptoBulkAll]
        omega
end
section
open Go.RowKit
set_option maxHeartbeats 4000000 in
theorem cmpKey_any (s:Se) (k:ByteArray) (w:World) :
 Calls Tryz.prog 274 #[.agg #[.string s.k,.string s.v],.string k] w fun e w'=>e=.returned (.int .i64 (Lib.compareBytes (bs s.k) (bs k)))∧Ext w w':=by
 go_enter Tryz.func274,Tryz.ntmps274
 go_wp2_with fail
 refine (Tryz.strings_Compare s.k k _).mono ?_
 rintro e w1 ⟨rfl,rfl⟩
 go_wp2
 go_ret
 exact⟨rfl,Ext.au⟩
set_option maxHeartbeats 4000000 in
set_option maxRecDepth 100000 in
theorem BinS_any (A:Option Addr) (n c:Nat) (l:List Se) (key:ByteArray) (w:World) (hn:l.length=n) (hr:RdE w A l) (hl:n<=2097152) (ha:Asc l) :
 Calls Tryz.prog 273 #[.slice A n c,.string key,.func (.func 274) #[] #[]] w fun e w' =>
  ∃ (i:Nat) (r:Bool),e=.returned (.tuple #[.int .i64 i,.bool r])∧(r=true->∃ h:i < l.length,bs l[i].k=bs key)∧(r=false->tbl l (bs key)=none)∧Ext w w':=by
 have hen:∀ xs w,Sem.run Tryz.prog (callFunc 274 xs) w=.ok (.enter 274 xs) w:=fun xs w=>by kernel_rfl
 have HN:=Hy hn
 have HR:=Hy hr
 have HASC:=Hy ha
 clear hn hr ha
 go_enter Tryz.func273,Tryz.ntmps273
 go_wp2
 go_loopg [9,10] n (fun kx s9 s10 wr=>∃ lo hi:Nat,s9=.int .i64 lo∧s10=.int .i64 hi∧lo<=hi∧hi<=n∧hi - lo<=kx∧Ext w wr∧Hid (Below_ l (bs key) lo∧Above_ l (bs key) hi))
 case atStart=>exact⟨0,n,rfl,rfl,Nat.zero_le _,Nat.le_refl _,by omega,Ext.refl _,Hy ⟨fun k _ h=>absurd h (Nat.not_lt_zero _),fun k hk h=>by have:=HN.out;omega⟩⟩
 case round =>
  obtain⟨lo,hi,rfl,rfl,hlh,hin,hg,hxr,I⟩:=hrel
  by_cases hlt:lo < hi
  ·have hk1:(lo+hi) / 2 < l.length:=by rw[HN.out];omega
   obtain⟨b,o,rfl,hX⟩:=HR.out (fun e=>by rw[e] at hk1;exact absurd hk1 (Nat.not_lt_zero _))
   have X:=hX.ext hxr
   have x0:=X.c0 _ hk1
   have x1:=X.c1 _ hk1
   have hlb:=lt_of_cell x0
   have HBN:=Hy (fun e=>below_next (l:=l) HASC.out (x:=bs key) hk1 e)
   have HAN:=Hy (fun e=>above_next (l:=l) HASC.out (x:=bs key) hk1 e)
   have CK:=Hy (fun W=>cmpKey_any l[(lo+hi) / 2] key W)
   have CL:=Hy (cmpB_lt (bs l[(lo+hi) / 2].k) (bs key))
   clear X hX
   generalize l[(lo+hi) / 2]=s at *
   obtain⟨sk,sv⟩:=s
   dsimp only at x0 x1
   by_cases hyx:Lib.compareBytes (bs sk) (bs key) < 0
   ·have hbn:=HBN.out (CL.out.1 hyx)
    have HB2:=Hy hbn
    clear hbn HBN HAN
    have ck:=fun W=>(CK.out W)
    dsimp only at ck
    generalize Lib.compareBytes (bs sk) (bs key)=z at *
    go_wp2_with fail
    refine (ck _).mono ?_
    rintro e w1 ⟨rfl,hx1⟩
    go_wp2
    go_roundg (hi - ((lo+hi) / 2+1))
    case measure=>omega
    case rel=>exact⟨(lo+hi) / 2+1,hi,by rw[show ((lo:Int)+(hi:Int)) / 2+1=(((lo+hi) / 2+1:Nat):Int) by omega],rfl,by omega,hin,Nat.le_refl _,hxr.trans hx1,Hy ⟨HB2.out,I.out.2⟩⟩
   ·have hbn:=HAN.out (fun e=>hyx (CL.out.2 e))
    have HB2:=Hy hbn
    clear hbn HBN HAN
    have ck:=fun W=>(CK.out W)
    dsimp only at ck
    generalize Lib.compareBytes (bs sk) (bs key)=z at *
    go_wp2_with fail
    refine (ck _).mono ?_
    rintro e w1 ⟨rfl,hx1⟩
    go_wp2
    go_roundg ((lo+hi) / 2 - lo)
    case measure=>omega
    case rel=>exact⟨lo,(lo+hi) / 2,rfl,by rw[show ((lo:Int)+(hi:Int)) / 2=(((lo+hi) / 2:Nat):Int) by omega],by omega,by omega,Nat.le_refl _,hxr.trans hx1,Hy ⟨I.out.1,HB2.out⟩⟩
  ·obtain rfl:lo=hi:=by omega
   by_cases hn:lo < n
   ·have hk1:lo < l.length:=by rw[HN.out];exact hn
    obtain⟨b,o,rfl,hX⟩:=HR.out (fun e=>by rw[e] at hk1;exact absurd hk1 (Nat.not_lt_zero _))
    have X:=hX.ext hxr
    have x0:=X.c0 _ hk1
    have x1:=X.c1 _ hk1
    have hlb:=lt_of_cell x0
    have CK:=Hy (fun W=>cmpKey_any l[lo] key W)
    have HFIN:=Hy (show (Lib.compareBytes (bs l[lo].k) (bs key)=0->∃ h:lo < l.length,bs l[lo].k=bs key)∧(¬ Lib.compareBytes (bs l[lo].k) (bs key)=0->tbl l (bs key)=none) from
     ⟨fun e=>⟨hk1,(cmpB_zero _ _).1 e⟩,fun e=>search_miss HASC.out I.out.1 I.out.2 fun h e2=>e ((cmpB_zero _ _).2 e2)⟩)
    clear X hX
    generalize l[lo]=s at *
    obtain⟨sk,sv⟩:=s
    dsimp only at x0 x1
    have ck:=fun W=>(CK.out W)
    dsimp only at ck HFIN
    generalize Lib.compareBytes (bs sk) (bs key)=z at *
    by_cases hz:z=0
    ·go_wp2_with fail
     refine (ck _).mono ?_
     rintro e w1 ⟨rfl,hx1⟩
     go_wp2
     go_ret2
     exact⟨lo,true,by simp,fun _=>⟨hk1,(HFIN.out.1 hz).2⟩,(fun h=>by cases h),hxr.trans hx1⟩
    ·go_wp2_with fail
     refine (ck _).mono ?_
     rintro e w1 ⟨rfl,hx1⟩
     go_wp2
     go_ret2
     exact⟨lo,false,by simp[hz],(fun h=>by cases h),fun _=>HFIN.out.2 hz,hxr.trans hx1⟩
   ·have HFIN:=Hy (show tbl l (bs key)=none from search_miss HASC.out I.out.1 I.out.2 fun h=>absurd h (by rw[HN.out];exact hn))
    go_wp2
    go_ret2
    exact⟨lo,false,by simp,(fun h=>by cases h),fun _=>HFIN.out,hxr⟩
set_option maxHeartbeats 4000000 in
theorem valueOf_any (A:Option Addr) (n c:Nat) (l:List Se) (key:ByteArray) (w:World) (hn:l.length=n) (hr:RdE w A l) (hl:n<=2097152) (ha:Asc l) :
 Calls Tryz.prog 251 #[.slice A n c,.string key] w fun e w'=>e=.returned (.tuple #[S ((tbl l (bs key)).getD []),.bool (tbl l (bs key)).isSome])∧Ext w w':=by
 have CB:=Hy (fun W (h:Ext w W)=>BinS_any A n c l key W hn (hr.ext h) hl ha)
 have HN:=Hy hn
 have HR:=Hy hr
 have HASC:=Hy ha
 clear hn hr ha
 go_enter Tryz.func251,Tryz.ntmps251
 go_wp2_with fail
 refine (CB.out _ Ext.au).mono ?_
 rintro e w1 ⟨i,r,rfl,h1,h2,hx1⟩
 have hxa:Ext w w1:=Ext.trans Ext.au hx1
 cases r
 ·have HT:=Hy (h2 rfl)
  clear h1 h2
  go_wp2
  go_ret2
  rw[HT.out]
  exact⟨rfl,hxa⟩
 ·obtain⟨hk1,hk2⟩:=h1 rfl
  have HT:=Hy (search_hit HASC.out hk1 hk2)
  obtain⟨b,o,rfl,hX⟩:=HR.out (fun e=>by rw[e] at hk1;exact absurd hk1 (Nat.not_lt_zero _))
  have X:=hX.ext hxa
  have x0:=X.c0 _ hk1
  have x1:=X.c1 _ hk1
  have hlb:=lt_of_cell x0
  have hin:i < n:=by rw[<-HN.out];exact hk1
  clear X hX h1 h2 hk2
  generalize l[i]=s at *
  obtain⟨sk,sv⟩:=s
  dsimp only at x0 x1
  go_wp2
  go_ret2
  rw[HT.out]
  exact⟨by simp[S_bs],hxa⟩
end
end Go.Proofs.YtmnafaaijglnfaaGreatDoor
