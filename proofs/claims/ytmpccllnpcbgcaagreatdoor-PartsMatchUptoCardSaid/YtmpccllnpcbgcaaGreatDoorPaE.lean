/- The closures that visit components and what they need: pack.Steps's, outref2.StepsOf's. (Printed by gen/pae.py.) -/
import Derived.Test.YtmpccllnpcbgcaaGreatDoorPk02
import Derived.Test.YtmpccllnpcbgcaaGreatDoorPk04
import Derived.Test.YtmpccllnpcbgcaaGreatDoorPk08
import Derived.Test.YtmpccllnpcbgcaaGreatDoorPk09
import Derived.Test.YtmpccllnpcbgcaaGreatDoorPk10
import Derived.Test.YtmpccllnpcbgcaaGreatDoorPk17
import Derived.Test.YtmpccllnpcbgcaaGreatDoorPk19
import Derived.Test.YtmpccllnpcbgcaaGreatDoorPk22
import Derived.Test.YtmpccllnpcbgcaaGreatDoorPk25
import Derived.Test.YtmpccllnpcbgcaaGreatDoorPk27
import Derived.Test.YtmpccllnpcbgcaaGreatDoorPk29
import Derived.Test.YtmpccllnpcbgcaaGreatDoorPk32
import Derived.Test.YtmpccllnpcbgcaaGreatDoorPk34
import Derived.Test.YtmpccllnpcbgcaaGreatDoorPk35
import Derived.Test.YtmpccllnpcbgcaaGreatDoorPk39
import Derived.Test.YtmpccllnpcbgcaaGreatDoorPk40
import Derived.Test.YtmpccllnpcbgcaaGreatDoorPk41
import Derived.Test.YtmpccllnpcbgcaaGreatDoorPaL
import Derived.Test.YtmpccllnpcbgcaaGreatDoorProg
import Derived.Test.YtmpccllnpcbgcaaGreatDoorShelf
import Derived.Lib.Split
import Derived.Lib.IndexBytes
import Derived.Lib.ItoaLen
import Derived.WalkKit
import Derived.WalkSpells
import Derived.WalkLawsBesides
import Derived.LoopTactic
import Derived.Outline
import Derived.Lib.Hide
import Derived.Lib.LaidTab
import Derived.Lib.ConvBytes
import Derived.Lib.ItoaNum
import Derived.WalkSmall
import Derived.Sort.Grow
import Derived.Deep.QuietTactic
import Derived.BigQuiet
import Derived.Lib.Replace
import Derived.Lib.SplitLaws
import Derived.Laws.AppendOwn
import Derived.Laws.OwnMore
import Derived.Maps.AppendAt
import Derived.OwnWalk
import Derived.Lib.Join
import Derived.StillTail
import Derived.Lib.AtoiAll
import Derived.Lib.Small
import Derived.Lib.Bytealg
import Derived.Deep.DeepCutAuto
import Derived.Deep.AppendLies
import Derived.Deep.RegionHeld3
import Derived.Deep.RegionLaw
import Derived.MapKept
import Derived.Laws.StructEq
import Derived.Deep.LoopGhost
import Derived.Laws.Cells
import Derived.Maps.OwnSet
import Derived.Maps.StringElems
import Derived.Sort.Walk0
import Derived.Sort.KeysCollected
import Derived.Lib.SlicesCompact
import Derived.Maps.RangeWalk
import Derived.Deep.Upon
import Derived.ArgAppend
import Derived.Laws.MakeOwn
import Derived.DeepKeys3
import Derived.Laws.EntriesVeiled
import Derived.Lib.SliceRun
import Derived.Laws.IdiomCopy
namespace Go.Proofs.YtmpccllnpcbgcaaGreatDoor
open Go.RowKit
open Go.Maps (Keyed has)
abbrev stCaps (bD bP bV bO:Nat):Array Value:=#[.pointer (some ⟨bD,0,none⟩),.pointer (some ⟨bP,0,none⟩),.pointer (some ⟨bV,0,none⟩),.pointer (some ⟨bO,0,none⟩)]
structure ExtS (B V U:Nat) (a b:World):Prop where
 os:b.os=a.os
 tape:b.tape=a.tape
 output:b.output=a.output
 size:a.heap.size<=b.heap.size
 block:∀ k,k < a.heap.size->k≠V->k≠U->(k < B∨∀ cs p,a.heap[k]?≠some (.cells cs 108 p))->b.heap[k]?=a.heap[k]?
namespace ExtS
variable {B V U:Nat} {a b c:World}
theorem ofExt (h:Ext a b):ExtS B V U a b:=⟨h.os,h.tape,h.output,h.size,fun k hk _ _ _=>h.block k hk⟩
theorem refl (a:World):ExtS B V U a a:=ofExt (Ext.refl a)
theorem trans (h:ExtS B V U a b) (k:ExtS B V U b c):ExtS B V U a c :=
 ⟨k.os.trans h.os,k.tape.trans h.tape,k.output.trans h.output,Nat.le_trans h.size k.size,fun i hi hv hu hc=>by
   have e:=h.block i hi hv hu hc
   rw[<-e]
   refine k.block i (Nat.lt_of_lt_of_le hi h.size) hv hu ?_
   rw[e]
   exact hc⟩
theorem turned {w w':World} (hg:w.grownBy w' (some U)):ExtS B V U w w':=⟨hg.os,hg.tape,hg.output,hg.size,fun k hk _ hu _=>hg.block k hk (fun e=>hu (by injection e))⟩
theorem put (w:World) (u:Value):ExtS B V U w (w.setCell ⟨V,0,none⟩ u) :=
 have h:=(ExtC.refl (·=V) w).set (p:=⟨V,0,none⟩) (.inl rfl) u
 ⟨h.os,h.tape,h.output,h.size,fun k hk hv _ _=>h.block k hk hv⟩
theorem grown {w w':World} {v:Value} {n:Nat} {xs:List Value} (ho:w.ownsRow B 108 3 v n xs) (hg:w.grownBy w' v.ownBlock):ExtS B V U w w':=by
 refine⟨hg.os,hg.tape,hg.output,hg.size,fun k hk _ _ hc=>hg.block k hk fun e=>?_⟩
 rcases ho.2 with ⟨rfl,_⟩|⟨g,cap,cur,rfl,hb,hgc,_⟩
 ·cases e
 ·injection e with e
  subst e
  rcases hc with h|h
  ·omega
  ·exact h _ _ hgc
end ExtS
theorem Blk.extS {B V U:Nat} {w w':World} {k:Nat} {t:TypeId} {cs:Array Value} (h:Blk w k t cs) (hx:ExtS B V U w w') (ht:t≠108) (hv:k≠V) (hu:k≠U):Blk w' k t cs :=
 (hx.block k h.lt hv hu (.inr fun cs p e=>by rw[show w.heap[k]?=_ from h] at e;injection e with e;injection e with _ e;exact ht e)).trans h
structure StSt (fid:FuncId) (w0:World) (bP:Nat) (pc:Array Value) (bO bM bD bV B N:Nat) (M:List ByteArray) (O:List Sto) (w:World):Prop where
 p:Blk w bP 76 pc
 d:Blk w bD 191 #[.map (some bM)]
 m:KSet w bM N (M.map bs)
 v:Blk w bV 211 #[.func (.func fid) #[] (stCaps bD bP bV bO)]
 o:∃ u,Blk w bO 80 #[u]∧w.ownsRow B 108 3 u O.length (O.flatMap stoC)
 x:Ext w0 w
 zo:w0.heap.size<=bO
 zm:w0.heap.size<=bM
 ne:bP≠bM∧bD≠bM∧bV≠bM∧bO≠bM∧bP≠bO∧bD≠bO∧bV≠bO
 lt:bO < B∧bM < B∧bP < B∧bD < B∧bV < B
 zb:B<=w.heap.size
namespace StSt
variable {fid:FuncId} {w0 w w':World} {bP:Nat} {pc:Array Value} {bO bM bD bV B N N':Nat} {M M':List ByteArray} {O O':List Sto}
theorem ext (h:StSt fid w0 bP pc bO bM bD bV B N M O w) (hx:Ext w w'):StSt fid w0 bP pc bO bM bD bV B N M O w':=by
 obtain⟨u,h1,h2⟩:=h.o
 exact⟨h.p.ext hx,h.d.ext hx,h.m.ext hx,h.v.ext hx,⟨u,h1.ext hx,own_ext h2 hx⟩,h.x.trans hx,h.zo,h.zm,h.ne,h.lt,Nat.le_trans h.zb hx.size⟩
theorem upd (h:StSt fid w0 bP pc bO bM bD bV B N M O w) (hg:w.grownBy w' (some bM)) (hm:KSet w' bM N' (M'.map bs)):StSt fid w0 bP pc bO bM bD bV B N' M' O w':=by
 obtain⟨u,h1,h2⟩:=h.o
 obtain⟨n1,n2,n3,n4,n5,n6,n7⟩:=h.ne
 have hl:=h.lt.2.1
 refine⟨h.p.turned hg (by simpa using n1),h.d.turned hg (by simpa using n2),hm,h.v.turned hg (by simpa using n3),⟨u,h1.turned hg (by simpa using n4),h2.kept hg ?_⟩,h.x.row hg h.zm,h.zo,h.zm,h.ne,h.lt,Nat.le_trans h.zb hg.size⟩
 cases e:u.ownBlock with
 | none=>exact .inl rfl
 | some k =>
   refine .inr fun e2=>?_
   injection e2 with e2
   have:=(h2.lt k e).1
   omega
theorem app (h:StSt fid w0 bP pc bO bM bD bV B N M O w) {u v':Value} {n:Nat} {xs:List Value} (ho:w.ownsRow B 108 3 u n xs) (hg:w.grownBy w' u.ownBlock) (ho':w'.ownsRow B 108 3 v' O'.length (O'.flatMap stoC)):StSt fid w0 bP pc bO bM bD bV B N M O' (w'.setCell ⟨bO,0,none⟩ v'):=by
 obtain⟨u0,h1,_⟩:=h.o
 obtain⟨n1,n2,n3,n4,n5,n6,n7⟩:=h.ne
 obtain⟨l1,l2,l3,l4,l5⟩:=h.lt
 have far:∀ {k},k < B->some k≠u.ownBlock:=fun hk e=>by have:=(ho.lt _ e.symm).1;omega
 have hm':KSet w' bM N (M.map bs):=by
  cases e:u.ownBlock with
  | none=>rw[e] at hg;exact h.m.far (g:=w.heap.size) ⟨hg.os,hg.tape,hg.output,hg.size,fun k hk _=>hg.block k hk (fun e=>by cases e)⟩ (by have:=h.m.lt;omega)
  | some g=>rw[e] at hg;exact h.m.far hg (fun e2=>far l2 (by rw[e,e2]))
 have hx':Ext w0 w':=by
  have hz:=h.zo
  exact⟨hg.os.trans h.x.os,hg.tape.trans h.x.tape,hg.output.trans h.x.output,Nat.le_trans h.x.size hg.size,fun k hk=>(hg.block k (Nat.lt_of_lt_of_le hk h.x.size) (far (by omega))).trans (h.x.block k hk)⟩
 have hs:w'.grownBy (w'.setCell ⟨bO,0,none⟩ v') (some bO):=ExtC.grown ((ExtC.refl (·=bO) w').set (p:=⟨bO,0,none⟩) (.inl rfl) v')
 exact⟨(h.p.turned hg (far l3)).far n5 _,(h.d.turned hg (far l4)).far n6 _,hm'.far hs (fun e=>n4 e.symm),(h.v.turned hg (far l5)).far n7 _,⟨v',(h1.turned hg (far l1)).set 0 v',ownsRow_setCell_below ho' l1 _⟩,hx'.setCell (p:=⟨bO,0,none⟩) h.zo _,h.zo,h.zm,h.ne,h.lt,Nat.le_trans (Nat.le_trans h.zb hg.size) hs.size⟩
end StSt
theorem comp_name_small {l:List Cmp} (h:∀ c∈l,SmallCm c) {a:ByteArray} (hc:isComp l a=true):a.size<=2097152:=by
 obtain⟨k,hk,_,_,hn⟩:=compN_mem hc
 rw[<-hn]
 exact (h _ (List.getElem_mem hk)).name
set_option maxHeartbeats 8000000 in
set_option maxRecDepth 100000 in
theorem visP_any (w0:World) (l:List Cmp) (bP bO bM bD bV B:Nat) (pn:ByteArray) (v1 v2 v3:Int) (va pt:ByteArray) (A:Option Addr) (l1 c:Nat) (A2:Option Addr) (l2 c2:Nat) (A3:Option Addr) (n c3:Nat) (A4:Option Addr) (l4 c4:Nat) (hn:l.length=n) (h30:n<=30) (hcap:n<=c3) (hr:RdC w0 A3 l) (hnc:∀ c∈l,∀ x∈c.needs,isComp l x=true) (hsm:∀ c∈l,SmallCm c) :
 ∀ (g:Nat) (a:ByteArray) (M:List ByteArray) (O:List Sto) (N:Nat) (w:World),isComp l a=true->frC l M<=g->N+frC l M<=30->O.length+frC l M * 2097152<=62914560->StSt 137 w0 bP #[.string pn,.int .i64 v1,.int .i64 v2,.int .i64 v3,.string va,.string pt,.slice A l1 c,.slice A2 l2 c2,.slice A3 n c3,.slice A4 l4 c4] bO bM bD bV B N M O w ->
  Calls Tryz.prog 137 (#[.string a]++stCaps bD bP bV bO) w fun e w'=>e=.returned (.tuple #[])∧∃ N',N'+frC l (visS l g a (M,O)).1<=30∧StSt 137 w0 bP #[.string pn,.int .i64 v1,.int .i64 v2,.int .i64 v3,.string va,.string pt,.slice A l1 c,.slice A2 l2 c2,.slice A3 n c3,.slice A4 l4 c4] bO bM bD bV B N' (visS l g a (M,O)).1 (visS l g a (M,O)).2 w'∧ExtS B bO bM w w':=by
 intro g
 induction g with
 | zero =>
   intro a M O N w hc hfr hN hO hst
   have hm:=frC_zero (Nat.le_zero.1 hfr) hc
   rw[visS_in hm]
   have hsz:=comp_name_small hsm hc
   have hlook:=hst.m.look (t:=191) Tryz.underlying191 a (by omega)
   rw[decide_eq_true (mem_bs.2 (memB_iff.1 hm))] at hlook
   have cD:=hst.d.cell;have lD:=hst.d.lt
   go_enter Tryz.func137,Tryz.ntmps137
   go_wp2
   exact bodyPost_ret (results_none rfl _ _ _) rfl ⟨rfl,N,hN,hst,ExtS.refl _⟩
 | succ g ih =>
   intro a M O N w hc hfr hN hO hst
   have hsz:=comp_name_small hsm hc
   cases hm:memB a M with
   | true =>
     rw[visS_in hm]
     have hlook:=hst.m.look (t:=191) Tryz.underlying191 a (by omega)
     rw[decide_eq_true (mem_bs.2 (memB_iff.1 hm))] at hlook
     have cD:=hst.d.cell;have lD:=hst.d.lt
     go_enter Tryz.func137,Tryz.ntmps137
     go_wp2
     exact bodyPost_ret (results_none rfl _ _ _) rfl ⟨rfl,N,hN,hst,ExtS.refl _⟩
   | false =>
     obtain⟨k,hk,hat,hcn,hname⟩:=compN_mem hc
     have HIH:=Hy ih
     have HNM:=Hy hname
     have HOUT:=Hy (visS_new (l:=l) (n:=g) (a:=a) (M:=M) (O:=O) hm)
     rw[hcn] at HOUT
     have hmk:=frC_mark hc hm
     have hkn:k < n:=by rw[<-hn];exact hk
     have hkc:k<=c3:=by omega
     have HNC:=Hy (hnc _ (List.getElem_mem hk))
     have HSM:=Hy (hsm _ (List.getElem_mem hk))
     have HSUB:=Hy (fun ns s=>visF_sub l g ns s)
     have HLEN:=Hy (fun ns s=>visF_len (l:=l) (K:=2097152) (fun c hc=>(hsm c hc).slen) g ns s)
     have HSUC:=Hy (fun ns s j (hj:j < ns.length)=>visF_succ l g ns s hj)
     obtain⟨b,o,rfl,hX⟩:=hr (fun e=>by rw[e] at hk;exact absurd hk (Nat.not_lt_zero _))
     obtain⟨k0,n0,x0,A5,m5,c5,A6,c6,A7,c7,A8,c8,hrow⟩:=hX k hk
     have HROW:=Hy hrow
     have HST:=Hy hst
     have hlook:=hst.m.look (t:=191) Tryz.underlying191 a (by omega)
     rw[decide_eq_false (fun h=>by rw[memB_iff.2 (mem_bs.1 h)] at hm;cases hm)] at hlook
     obtain⟨w4,hr4,hm4,hg4⟩:=hst.m.updB (t:=191) Tryz.underlying191 a (by omega) (by omega)
     rw[show M.map bs++[bs a]=(M++[a]).map bs from by simp] at hm4
     have HS4:=Hy (hst.upd hg4 hm4)
     have hgw:=hg4
     have cD:=hst.d.cell;have lD:=hst.d.lt
     have CA:=Hy (fun W (h:Ext w4 W)=>at_any #[.string pn,.int .i64 v1,.int .i64 v2,.int .i64 v3,.string va,.string pt,.slice A l1 c,.slice A2 l2 c2,.slice (some ⟨b,o,none⟩) n c3,.slice A4 l4 c4] l (some ⟨b,o,none⟩) n c3 a W rfl rfl hn ((show RdC w0 (some ⟨b,o,none⟩) l from fun _=>⟨b,o,rfl,hX⟩).ext (HS4.out.x.trans h)) (by omega))
     rw[hat] at CA
     have hx04:=HS4.out.x
     have pP:=HS4.out.p
     clear hrow hX hat hcn hname hsm hnc ih hm4 hg4 hst hm hc hsz
     generalize hq:l[k]=q at *
     clear hq
     obtain⟨qn,qt,qd,qa,qw,qe,qi,qs⟩:=q
     have cP:=pP.cell;have lP:=pP.lt
     go_enter Tryz.func137,Tryz.ntmps137
     go_upto_region 2 with fail
     go_cut [6] (fun v wx=>∃ z,v=.pointer (some ⟨z,0,none⟩)∧w4.heap.size<=z∧Hid (Blk wx z 82 #[.string qn,.string qt,.bool qd,.bool qa,.int .i64 k0,.string n0,.string x0,.slice A5 m5 c5,.slice A6 qe.length c6,.slice A7 qi.length c7,.slice A8 qs.length c8])∧Ext w4 wx)
     case first =>
      have xO:Ext w4 w4.drew:=(Ext.refl w4).drew
      go_region_with (first
       | (go_at_call 117;with_reducible refine (CA.out _ Ext.au).mono ?_;rintro e w5 ⟨rfl,hx5⟩;(have hx45:Ext w4 w5:=Ext.trans Ext.au hx5);(obtain⟨r0,r1,r2,r3,r4,r5,r6,r7,r8,r9,r10,_⟩:=HROW.out.ext (hx04.trans hx45));(have rl:=lt_of_cell r0);(have cP5:=(pP.ext hx45).cell);(have lP5:=(pP.ext hx45).lt);(try have bz:Blk w5 w4.heap.size 82 _:=(Blk.new w4 82 #[.string ⟨#[]⟩,.string ⟨#[]⟩,.bool false,.bool false,.int .i64 0,.string ⟨#[]⟩,.string ⟨#[]⟩,.slice none 0 0,.slice none 0 0,.slice none 0 0,.slice none 0 0]).ext (Ext.trans ((Ext.refl _).drew) hx5));(try (have bc:=bz.cell;have bf:=bz.free;have bl:=bz.lt))))
      all_goals first
       | (have bq:=bz
          have bq:Blk _ w4.heap.size 82 #[.string qn,.string ⟨#[]⟩,.bool false,.bool false,.int .i64 0,.string ⟨#[]⟩,.string ⟨#[]⟩,.slice none 0 0,.slice none 0 0,.slice none 0 0,.slice none 0 0]:=bq.set 0 (.string qn)
          have bq:Blk _ w4.heap.size 82 #[.string qn,.string qt,.bool false,.bool false,.int .i64 0,.string ⟨#[]⟩,.string ⟨#[]⟩,.slice none 0 0,.slice none 0 0,.slice none 0 0,.slice none 0 0]:=bq.set 1 (.string qt)
          have bq:Blk _ w4.heap.size 82 #[.string qn,.string qt,.bool qd,.bool false,.int .i64 0,.string ⟨#[]⟩,.string ⟨#[]⟩,.slice none 0 0,.slice none 0 0,.slice none 0 0,.slice none 0 0]:=bq.set 2 (.bool qd)
          have bq:Blk _ w4.heap.size 82 #[.string qn,.string qt,.bool qd,.bool qa,.int .i64 0,.string ⟨#[]⟩,.string ⟨#[]⟩,.slice none 0 0,.slice none 0 0,.slice none 0 0,.slice none 0 0]:=bq.set 3 (.bool qa)
          have bq:Blk _ w4.heap.size 82 #[.string qn,.string qt,.bool qd,.bool qa,.int .i64 k0,.string ⟨#[]⟩,.string ⟨#[]⟩,.slice none 0 0,.slice none 0 0,.slice none 0 0,.slice none 0 0]:=bq.set 4 (.int .i64 k0)
          have bq:Blk _ w4.heap.size 82 #[.string qn,.string qt,.bool qd,.bool qa,.int .i64 k0,.string n0,.string ⟨#[]⟩,.slice none 0 0,.slice none 0 0,.slice none 0 0,.slice none 0 0]:=bq.set 5 (.string n0)
          have bq:Blk _ w4.heap.size 82 #[.string qn,.string qt,.bool qd,.bool qa,.int .i64 k0,.string n0,.string x0,.slice none 0 0,.slice none 0 0,.slice none 0 0,.slice none 0 0]:=bq.set 6 (.string x0)
          have bq:Blk _ w4.heap.size 82 #[.string qn,.string qt,.bool qd,.bool qa,.int .i64 k0,.string n0,.string x0,.slice A5 m5 c5,.slice none 0 0,.slice none 0 0,.slice none 0 0]:=bq.set 7 (.slice A5 m5 c5)
          have bq:Blk _ w4.heap.size 82 #[.string qn,.string qt,.bool qd,.bool qa,.int .i64 k0,.string n0,.string x0,.slice A5 m5 c5,.slice A6 qe.length c6,.slice none 0 0,.slice none 0 0]:=bq.set 8 (.slice A6 qe.length c6)
          have bq:Blk _ w4.heap.size 82 #[.string qn,.string qt,.bool qd,.bool qa,.int .i64 k0,.string n0,.string x0,.slice A5 m5 c5,.slice A6 qe.length c6,.slice A7 qi.length c7,.slice none 0 0]:=bq.set 9 (.slice A7 qi.length c7)
          have bq:Blk _ w4.heap.size 82 #[.string qn,.string qt,.bool qd,.bool qa,.int .i64 k0,.string n0,.string x0,.slice A5 m5 c5,.slice A6 qe.length c6,.slice A7 qi.length c7,.slice A8 qs.length c8]:=bq.set 10 (.slice A8 qs.length c8)
          have xq:=hx45
          have xq:=xq.setCell (p:=⟨w4.heap.size,0,none⟩) (Nat.le_refl _) (.string qn)
          have xq:=xq.setCell (p:=⟨w4.heap.size,1,none⟩) (Nat.le_refl _) (.string qt)
          have xq:=xq.setCell (p:=⟨w4.heap.size,2,none⟩) (Nat.le_refl _) (.bool qd)
          have xq:=xq.setCell (p:=⟨w4.heap.size,3,none⟩) (Nat.le_refl _) (.bool qa)
          have xq:=xq.setCell (p:=⟨w4.heap.size,4,none⟩) (Nat.le_refl _) (.int .i64 k0)
          have xq:=xq.setCell (p:=⟨w4.heap.size,5,none⟩) (Nat.le_refl _) (.string n0)
          have xq:=xq.setCell (p:=⟨w4.heap.size,6,none⟩) (Nat.le_refl _) (.string x0)
          have xq:=xq.setCell (p:=⟨w4.heap.size,7,none⟩) (Nat.le_refl _) (.slice A5 m5 c5)
          have xq:=xq.setCell (p:=⟨w4.heap.size,8,none⟩) (Nat.le_refl _) (.slice A6 qe.length c6)
          have xq:=xq.setCell (p:=⟨w4.heap.size,9,none⟩) (Nat.le_refl _) (.slice A7 qi.length c7)
          have xq:=xq.setCell (p:=⟨w4.heap.size,10,none⟩) (Nat.le_refl _) (.slice A8 qs.length c8)
          go_wp2_with fail
          go_meet
          case rel=>exact⟨_,rfl,Nat.le_refl _,Hy bq,xq⟩)
       | (go_wp2_with fail
          go_meet
          case rel=>exact⟨_,rfl,hx45.size,Hy (Blk.new _ _ _),hx45.alloc _⟩)
     case rest =>
      obtain⟨z,rfl,hz4,BK,hxc⟩:=hcut
      have hzO:z≠bO:=fun e=>by have:=HS4.out.lt.1;have:=HS4.out.zb;omega
      have hzM:z≠bM:=fun e=>by have:=HS4.out.lt.2.1;have:=HS4.out.zb;omega
      have HSc:=Hy (HS4.out.ext hxc)
      have hnl:=HSM.out.nlen;have hsl:=HSM.out.slen
      dsimp only at hnl hsl
      have hzc:=BK.out.lt
      have cZ:=BK.out.cell;have lZ:=BK.out.lt
      have hxg:ExtS B bO bM w wc:=(ExtS.turned hgw).trans (ExtS.ofExt hxc)
      clear CA HS4 cP lP pP cD lD hlook hr4 hx04
      go_wp2
      clear cZ lZ
      go_loopw [24] (fun i wr=>∃ (j Nj:Nat),i=.int .i64 j∧j<=qe.length∧Nj+frC l (visF l g (qe.take j) (M++[a],O)).1<=30∧Hid (StSt 137 w0 bP #[.string pn,.int .i64 v1,.int .i64 v2,.int .i64 v3,.string va,.string pt,.slice A l1 c,.slice A2 l2 c2,.slice (some ⟨b,o,none⟩) n c3,.slice A4 l4 c4] bO bM bD bV B Nj (visF l g (qe.take j) (M++[a],O)).1 (visF l g (qe.take j) (M++[a],O)).2 wr)∧ExtS B bO bM wc wr) (fun i _=>qe.length - (intOf i).toNat)
      case atStart=>exact⟨0,N+1,rfl,Nat.zero_le _,by show N+1+frC l (M++[a])<=30;omega,HSc,ExtS.refl _⟩
      case round =>
       obtain⟨j,Nj,rfl,hj,hNj,HSj,hxj⟩:=hrel
       obtain⟨wo,rfl⟩:∃ wo:World,wo=wr:=⟨_,rfl⟩
       have hsub:=frC_le l (HSUB.out (qe.take j) (M++[a],O))
       have hlen:=HLEN.out (qe.take j) (M++[a],O)
       by_cases hlt:j < qe.length
       ·obtain⟨b6,o6,rfl,hX6⟩:=HROW.out.has.needs (fun e=>by dsimp only at e;rw[e] at hlt;exact absurd hlt (Nat.not_lt_zero _))
        have hc6:=HSj.out.x.cell (hX6 j hlt)
        have hcl:=lt_of_cell hc6
        have HSX:=Hy (HSUC.out qe (M++[a],O) j hlt)
        have HCX:=Hy (HNC.out qe[j] (List.getElem_mem hlt))
        have hcap6:=HROW.out.has.cap.1
        dsimp only at hcap6 hsub hlen
        have HR:=Hy (HIH.out qe[j] _ _ Nj wo HCX.out (by omega) hNj (by omega) HSj.out)
        have cV:=HSj.out.v.cell;have lV:=HSj.out.v.lt
        clear hX6
        generalize qe[j]=x at *
        go_wp2_with fail
        refine HR.out.mono ?_
        rintro e w5 ⟨rfl,N',hN',hst',hxs⟩
        have HST5:=Hy hst'
        clear hst' cV lV hc6 hcl
        go_wp2
        go_roundw
        case rel=>exact⟨j+1,N',by go_num,by omega,by rw[HSX.out];exact hN',by rw[HSX.out];exact HST5,hxj.trans hxs⟩
        case measure=>simp[intOf];omega
       ·obtain rfl:j=qe.length:=by omega
        have HF:=Hy (show visF l g (qe.take qe.length) (M++[a],O)=visF l g qe (M++[a],O) from by rw[List.take_length])
        rw[HF.out] at HSj hsub hlen hNj
        dsimp only at hlen hsub
        have BZ:=BK.out.extS hxj (by decide) hzO hzM
        have cZ:=BZ.cell;have lZ:=BZ.lt
        obtain⟨u,hbo,hown⟩:=HSj.out.o
        have HOWN:=Hy hown
        have HBO:=Hy hbo
        have hzb:=HSj.out.zb
        have hbB:=HSj.out.lt.1
        have cO:=hbo.cell;have lO:=hbo.lt
        have HST:=Hy (HROW.out.has.steps.ext HSj.out.x)
        have HA8:=Hy (show A8=none->qs.length=0 from fun e=>by
         by_cases h:qs=[]
         ·rw[h];rfl
         ·obtain⟨_,_,h2,_⟩:=HST.out h
          rw[e] at h2;cases h2)
        have HNW:=Hy (show ∀ ad,A8=some ad->∀ j u,(qs.flatMap stoC)[j]?=some u->wo.cell? (ad.add j)=some u from fun ad e j u hu=>by
         by_cases h:qs=[]
         ·rw[h] at hu;simp at hu
         ·obtain⟨b8,o8,h2,hX8⟩:=HST.out h
          rw[e] at h2
          injection h2 with h2
          subst h2
          rw[addr_at]
          exact stoC_cells hX8 j u hu)
        have hol:(visF l g qe (M++[a],O)).2.length+qs.length<=100000000:=by omega
        generalize hR1:(visF l g qe (M++[a],O)).1=R1 at *
        generalize hR2:(visF l g qe (M++[a],O)).2=R2 at *
        clear hsub hlen HF hR1 hR2
        obtain⟨i,hi,hz0,hz1,hz2⟩:=info_parts info_sto
        go_wp2_with (at_builtin;refine wpList_appAny _ rfl _ _ 80 rfl B 108 i _ 3 40 Tryz.underlying80 hi hz0 hz1 hz2 rfl (by decide) u _ _ rfl hown A8 qs.length c8 (qs.flatMap stoC) rfl (stoC_flat qs) HA8.out HNW.out (stoC_one qs) (by simp only[maxLen];omega) (by omega) hzb ?_;intro v' w' hown' hg;(obtain⟨Aw,cw,rfl⟩:=slice_of hown');(have hbo':=hbo.turned hg (fun e=>by have:=(hown.lt _ e.symm).1;omega));(have cO':=hbo'.cell;have fO':=hbo'.free;have lO':=hbo'.lt))
        refine bodyPost_end (results_none rfl _ _ _) rfl ⟨rfl,Nj,?_⟩
        rw[HOUT.out]
        exact⟨hNj,HSj.out.app (O':=R2++qs) HOWN.out hg (by rw[List.length_append,List.flatMap_append];exact hown'),hxg.trans (hxj.trans ((ExtS.grown HOWN.out hg).trans (ExtS.put _ _)))⟩
end Go.Proofs.YtmpccllnpcbgcaaGreatDoor
