/- Versions, spans and ranges among the arguments. slices.Clone over conditions. (As PlY, without the texts that PlY needs.) -/
import Derived.Test.YtmnafaaijglnfaaGreatDoorMg14
import Derived.Test.YtmnafaaijglnfaaGreatDoorMg10
namespace Go.Proofs.YtmnafaaijglnfaaGreatDoor
section
open Go.ChangeShapes Go.WideShapes Go.ChangeAt Go.RowKit Go.WideElems Go.Joins
set_option maxRecDepth 100000 in
theorem opens_ver:Opens 23 (fun _ (v:V4) cs=>cs=[.int .i64 v.a1,.int .i64 v.a2,.int .i64 v.a3,.string v.a]) (fun v=>v.a.size+4):=fun H enc W fuel cs x h=>by
 obtain⟨y0,y1,y2,y3,n,rfl,hl,h0,h1,h2,h3⟩:=trod_struct4 Tryz.underlying23 h
 have hc:Tryz.prog.cellsOf 23=4:=by kernel_rfl
 have ci:Tryz.prog.cellsOf 3=1:=by kernel_rfl
 have cst:Tryz.prog.cellsOf 9=1:=by kernel_rfl
 rw[hc] at hl
 match cs,hl with
 | [c0,c1,c2,c3],_ =>
   dsimp only at h0 h1 h2 h3
   rw[ci] at h0 h1 h2
   rw[cst] at h3
   obtain⟨a1,e1,b1⟩:=opens_int Tryz.underlying3 H enc W n _ _ h0
   obtain⟨a2,e2,b2⟩:=opens_int Tryz.underlying3 H enc W n _ _ h1
   obtain⟨a3,e3,b3⟩:=opens_int Tryz.underlying3 H enc W n _ _ h2
   obtain⟨a,e4,b4⟩:=opens_string Tryz.underlying9 H enc W n _ _ h3
   simp at e1 e2 e3 e4
   subst e1 e2 e3 e4
   exact⟨⟨a1,a2,a3,a⟩,rfl,by dsimp only at b1 b2 b3 b4 ⊢;simp only[Rows.uptoBulk,Rows.uptoBulkAll];omega⟩
set_option maxRecDepth 100000 in
theorem opens_span:Opens 130 (fun _ (s:Sp) cs=>cs=[.bool s.hf,.bool s.ht,.int .i64 s.f.a1,.int .i64 s.f.a2,.int .i64 s.f.a3,.string s.f.a,.int .i64 s.t.a1,.int .i64 s.t.a2,.int .i64 s.t.a3,.string s.t.a]) (fun s=>s.f.a.size+s.t.a.size+10):=fun H enc W fuel cs x h=>by
 obtain⟨y0,y1,y2,y3,n,rfl,hl,h0,h1,h2,h3⟩:=trod_struct4 Tryz.underlying130 h
 have hc:Tryz.prog.cellsOf 130=10:=by kernel_rfl
 have cb:Tryz.prog.cellsOf 4=1:=by kernel_rfl
 have cv:Tryz.prog.cellsOf 23=4:=by kernel_rfl
 rw[hc] at hl
 match cs,hl with
 | [c0,c1,c2,c3,c4,c5,c6,c7,c8,c9],_ =>
   dsimp only at h0 h1 h2 h3
   rw[cb] at h0 h1
   rw[cv] at h2 h3
   obtain⟨hf,e1,b1⟩:=opens_bool Tryz.underlying4 H enc W n _ _ h0
   obtain⟨ht,e2,b2⟩:=opens_bool Tryz.underlying4 H enc W n _ _ h1
   obtain⟨f,e3,b3⟩:=opens_ver H enc W n _ _ h2
   obtain⟨t,e4,b4⟩:=opens_ver H enc W n _ _ h3
   simp at e1 e2 e3 e4
   obtain⟨rfl,rfl,rfl,rfl⟩:=e3
   obtain⟨rfl,rfl,rfl,rfl⟩:=e4
   subst e1 e2
   exact⟨⟨hf,ht,f,t⟩,rfl,by dsimp only at b1 b2 b3 b4 ⊢;simp only[Rows.uptoBulk,Rows.uptoBulkAll];omega⟩
instance:Inhabited V4:=⟨⟨0,0,0,⟨#[]⟩⟩⟩
instance:Inhabited Sp:=⟨⟨false,false,default,default⟩⟩
theorem rowOf_spans {W:World} {A:Option Addr} {l:List Sp} (h:RowOf (fun _ (s:Sp) cs=>cs=[.bool s.hf,.bool s.ht,.int .i64 s.f.a1,.int .i64 s.f.a2,.int .i64 s.f.a3,.string s.f.a,.int .i64 s.t.a1,.int .i64 s.t.a2,.int .i64 s.t.a3,.string s.t.a]) 10 W A l):RdS W A l:=fun hne=>by
 obtain⟨b,o,rfl,hc⟩:=h hne
 refine⟨b,o,rfl,?_,?_,?_,?_,?_,?_,?_,?_,?_,?_⟩<;>intro k hk<;>obtain⟨ecs,rfl,_,hj⟩:=hc k hk
 ·exact hj 0 (by omega)
 ·exact hj 1 (by omega)
 ·exact hj 2 (by omega)
 ·exact hj 3 (by omega)
 ·exact hj 4 (by omega)
 ·exact hj 5 (by omega)
 ·exact hj 6 (by omega)
 ·exact hj 7 (by omega)
 ·exact hj 8 (by omega)
 ·exact hj 9 (by omega)
set_option maxRecDepth 100000 in
theorem opens_range:Opens 42 (fun W (l:List Sp) cs=>∃ A c,cs=[.slice A l.length c]∧RdS W A l) (fun l=>(l.map fun s=>s.f.a.size+s.t.a.size+10).sum+1):=fun H enc W fuel cs x h=>by
 obtain⟨l,⟨A,c,e,hr⟩,hb⟩:=opens_struct1 Tryz.underlying42 rfl (by kernel_rfl) (opens_slice (sz:=10) Tryz.underlying40 (by kernel_rfl) (by decide) opens_span) H enc W fuel cs x h
 exact⟨l,⟨A,c,e,rowOf_spans hr⟩,hb⟩
end
section
open Go.RowKit
set_option maxHeartbeats 2000000 in
set_option maxRecDepth 100000 in
theorem CloneCd_any (xs:List Value) (A:Option Addr) (n c:Nat) (w:World) (hlen:xs.length=n * 4) (hr:0 < n->∃ b o,A=some ⟨b,o,none⟩∧∀ j u,xs[j]?=some u->w.cell? ⟨b,o+j,none⟩=some u) (hone:∀ u∈xs,u.oneCell'=true) (hl:n<=2097152) :
 Calls Tryz.prog 236 #[.slice A n c] w fun e w'=>∃ v,e=.returned v∧w'.ownsRow w.heap.size 52 4 v n xs∧Ext w w':=by
 obtain⟨i,hi,hz0,hz1,hz2⟩:=info_parts info_cond
 cases A with
 | none =>
   have q0:∀ w,Sem.run Tryz.prog (binOp BinOp.eql 50 (.slice none n c) (.slice none 0 0)) w=.ok (.bool true) w:=fun _=>by kernel_rfl
   obtain rfl:n=0:=by
    rcases Nat.eq_zero_or_pos n with h|h
    ·exact h
    ·obtain⟨_,_,e,_⟩:=hr h;cases e
   obtain rfl:xs=[]:=List.eq_nil_of_length_eq_zero (by omega)
   go_enter Tryz.func236,Tryz.ntmps236
   go_wp2
   go_ret
   exact⟨_,rfl,World.ownsRow_nil _ _ _ _,Ext.refl _⟩
 | some ad =>
   have q0:∀ w,Sem.run Tryz.prog (binOp BinOp.eql 50 (.slice (some ad) n c) (.slice none 0 0)) w=.ok (.bool false) w:=fun _=>by kernel_rfl
   have hown:=World.ownsRow_lit (base:=w.heap.size) (e:=52) (size:=4) w #[] 0 (Nat.le_refl _) (Nat.zero_le _) rfl
   have hxa:Ext w (w.alloc (.cells #[] 52)):=(Ext.refl w).alloc _
   have hcells:∀ j u,xs[j]?=some u->(w.alloc (.cells #[] 52)).cell? (ad.add j)=some u:=fun j u hu=>by
    rcases Nat.eq_zero_or_pos n with h|h
    ·subst h
     obtain rfl:xs=[]:=List.eq_nil_of_length_eq_zero (by omega)
     cases hu
    ·obtain⟨b,o,e,hX⟩:=hr h
     injection e with e
     subst e
     rw[Addr.add_lit,hxa.cell (hX j u hu)]
   go_enter Tryz.func236,Tryz.ntmps236
   go_wp2_with (at_builtin;refine wpList_append_own _ rfl _ _ 50 rfl w.heap.size 52 i (.agg #[.int .i64 0,.string ⟨#[]⟩,.string ⟨#[]⟩,.slice none 0 0]) 4 64 Tryz.underlying50 hi hz0 hz1 hz2 rfl (by decide) _ 0 [] rfl hown ad n c xs rfl hlen hcells hone (by simp only[maxLen];omega) (by omega) hxa.size ?_;intro v' w' hown' hg _)
   go_ret
   refine⟨v',rfl,by simpa using hown',hxa.grown hown ?_ hg⟩
   exact Nat.le_refl _
end
end Go.Proofs.YtmnafaaijglnfaaGreatDoor
