/- Plain law: ranges, their errors, their texts, and what reads them; the reference's reading is the program's. The law outlaw2.RangesPrint: its walk. A condition in memory. Contract of the program's reading of conditions in brackets, given what it calls. (Printed by gen/cndi.py.) Ranges as intervals of places: what two ranges have in common, span by span and by a scan over all ends. Plain words. -/
import Derived.Test.YtmpccllnpcbgcaaGreatDoorPk04
namespace Go.Proofs.YtmpccllnpcbgcaaGreatDoor
section
theorem rng_ok {l:List Sp} (h:rngErr l=0):l.length<=10∧∀ k,k < l.length->errAt l k=0:=by
 unfold rngErr at h
 by_cases h1:10 < l.length
 ·rw[if_pos h1] at h;cases h
 ·rw[if_neg h1] at h
  exact⟨by omega,fun k hk=>firstI_ne h _ (List.mem_map.2 ⟨k,List.mem_range.2 hk,rfl⟩)⟩
end
section
open Go.RowKit
theorem spans_len (q:List (Sp × Int)):(spansOf q).1.length<=10:=by
 unfold spansOf
 split
 ·exact Nat.zero_le _
 ·split
  ·exact Nat.zero_le _
  ·rename_i h
   exact (rng_ok (Classical.not_not.1 h)).1
theorem parse_len (s:Str):(parseR s).1.length<=10:=by
 unfold parseR
 split
 ·exact Nat.zero_le _
 ·split
  ·exact Nat.zero_le _
  ·split
   ·exact Nat.zero_le _
   ·exact spans_len _
end
section
open Go.RowKit
theorem CdIn.ofRow {P:Nat->Prop} {w:World} {l:List Cd} {xs:List Value} (h:CdRow P w l xs) (k:Int) (n x:ByteArray) {A:Option Addr} {cp b:Nat} (hA:0 < l.length->A=some ⟨b,0,none⟩) (hb:0 < l.length->P b) (hc:∀ j u,xs[j]?=some u->w.cell? ⟨b,j,none⟩=some u) :
 CdIn P w (.mk k n x l) (.agg #[.int .i64 k,.string n,.string x,.slice A l.length cp]):=by
 have hx:∀ j i,j < l.length->i < 4->w.cell? ⟨b,0+j * 4+i,none⟩=some (xs.getD (j * 4+i) z0):=fun j i hj hi=>by
  have hlt:j * 4+i < xs.length:=by rw[h.len];omega
  rw[Nat.zero_add]
  refine hc _ _ ?_
  rw[List.getD_eq_getElem?_getD,List.getElem?_eq_getElem hlt]
  rfl
 exact .mk k n x l A cp b 0 (fun j=>xs.getD (j * 4) z0) (fun j=>xs.getD (j * 4+1) z0) (fun j=>xs.getD (j * 4+2) z0) (fun j=>xs.getD (j * 4+3) z0) hA hb
  (fun j hj=>hx j 0 hj (by omega)) (fun j hj=>hx j 1 hj (by omega)) (fun j hj=>hx j 2 hj (by omega)) (fun j hj=>hx j 3 hj (by omega)) (fun j hj=>h.at_ j hj)
end
section
open Go.RowKit
theorem info_cond:(Tryz.prog.info? 52).map (fun i=>(i.zero,i.size,i.bytes))=some (some (.agg #[.int .i64 0,.string ⟨#[]⟩,.string ⟨#[]⟩,.slice none 0 0]),4,64):=by kernel_rfl
theorem grown_set (w:World) (p:Addr) (u:Value):w.grownBy (w.setCell p u) (some p.block) :=
 ⟨rfl,rfl,rfl,by simp[World.setCell],fun k _ hk=>by simp only[World.setCell,Array.getElem?_modify];rw[if_neg (fun e=>hk (by rw[e]))]⟩
end
section
def insideL (s:Sp) (v:V4):Bool:=!(s.hf&&decide (v.ord s.f < 0))&&!(s.ht&&decide (0<=v.ord s.t))
theorem spErr_parts {s:Sp} (h:spErr s=0):(s.hf=false->s.f=zeroV)∧(s.ht=false->s.t=zeroV)∧s.f.err=0∧s.t.err=0∧(s.hf=true->s.ht=true->s.f.ord s.t < 0):=by
 unfold spErr at h
 by_cases h1:(!s.hf&&decide (s.f≠zeroV)||!s.ht&&decide (s.t≠zeroV))=true
 ·rw[if_pos h1] at h;cases h
 rw[if_neg h1] at h
 by_cases h2:s.f.err=0
 ·rw[if_neg (by simpa using h2)] at h
  by_cases h3:s.t.err=0
  ·rw[if_neg (by simpa using h3)] at h
   by_cases h4:(s.hf&&s.ht&&decide (0<=s.f.ord s.t))=true
   ·rw[if_pos h4] at h;cases h
   ·refine⟨fun e=>?_,fun e=>?_,h2,h3,fun e1 e2=>?_⟩
    ·rw[e] at h1
     simp at h1
     exact h1.1
    ·rw[e] at h1
     simp at h1
     exact h1.2
    ·rw[e1,e2] at h4
     simpa using h4
  ·rw[if_pos h3] at h;exact absurd h h3
 ·rw[if_pos h2] at h;exact absurd h h2
theorem rng_each {l:List Sp} (h:rngErr l=0) {k:Nat} (hk:k < l.length):spErr l[k]=0:=by
 have h1:=(rng_ok h).2 k hk
 unfold errAt at h1
 have e:l.getD k zeroS=l[k]:=by simp[List.getD,List.getElem?_eq_getElem hk]
 rw[e] at h1
 by_cases h2:spErr l[k]=0
 ·exact h2
 ·rw[if_pos h2] at h1;exact absurd h1 h2
end
end Go.Proofs.YtmpccllnpcbgcaaGreatDoor
