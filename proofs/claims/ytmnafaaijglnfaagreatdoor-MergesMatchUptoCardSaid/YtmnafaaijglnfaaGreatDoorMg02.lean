/- Plain laws on strings as lists of bytes: cutting at one byte. What all walks of this seat share: a world that has only grown ('Ext'), the package variables as the row lists them ('Good', 'GoodN'), endings. Contracts of the byte predicates of package ver. Contracts of ver.IsName, isPart, IsValue, isNumeral, outside; outref2.In, When, First. Contracts of outref2.First, cmp.Or[int]: the first of several numbers that is not 0. The library's contracts in this claim's words: a world that has only grown, texts as lists of bytes. A region that draws its order, walked by an invariant over what has come up: each operation once, no branching over orders. A region that draws its order: ONE walk of the lexical order, where operations and callees may make memory whose place hangs on the order. A region that draws its order: RgS's walk of the lexical order, with a tail in one forced order (stores, calls that write old memory) and with operations that yield one value in whatever world. Contracts of ver.IsPath, isEarly, Check. Contracts of ver.text. A region that draws its order: a quiet beginning in a class of worlds, then a tail in one forced order. Plain laws: decimal numbers and their texts; the order of words. Plain laws: the order of words of early versions, and of versions. Plain law: ver.Parse reads what ver.Print writes. What the proofs of all rows of this seat share: the package variables out of the row's list, arguments that stay as they were, the row's last step behind a world that has only grown. append of one element onto a slice of the call's own, in a world that grows; strings.Join over such a slice. Contract of ver.PrintRange. What the rows of this seat share that list the library's tables and errors: their variables at the start, and a world for the witness. Arguments opened: what a reading of cells at a type says of memory, and of the reading's bulk. One law a kind of type: numbers, texts, structs of one field, slices. Plain law: rules, their errors, their texts, and what reads them; the reference's reading is the program's. Plain law: a text in quotes, by two replacements of one byte each; its length; what a loop over it has written. Bytes as cells; texts compared. Reading a text in quotes, byte by byte; contract of outref2.quotedAt. Contracts of ver.quotedAt, ver.isBlank, ver.kindOf. The condition reader of the program in memory: its state; 'is', 'fail'. Plain law: the program's reading of a condition goes on, and its loop ends. A world of which some blocks alone were written. A struct that is loaded at one step: in a walk, and in a region that draws. slices.IndexFunc and slices.ContainsFunc over texts, with any closure. (Own rows of PkI, PkH, MvL, PkQ, for seats without packages.) A struct that is stored over a block at one step. The pins of the row of outlaw2.MergesMatch. -/
import Derived.Lib.Split
import Derived.Lib.IndexBytes
import Derived.Lib.ItoaLen
import Derived.Test.YtmnafaaijglnfaaGreatDoorProg
import Derived.WalkKit
import Derived.WalkSpells
import Derived.WalkLawsBesides
import Derived.LoopTactic
import Derived.Outline
import Derived.Lib.Hide
import Derived.Lib.LaidTab
import Derived.Lib.ConvBytes
import Derived.Lib.ItoaNum
import Derived.WalkSmall
import Derived.Sort.Grow
import Derived.Deep.QuietTactic
import Derived.BigQuiet
import Derived.Test.YtmnafaaijglnfaaGreatDoorShelf
import Derived.OrdersHeld
import Derived.RegionTactic
import Derived.Deep.Quiet
import Derived.StillTail
import Derived.Lib.AtoiAll
import Derived.Lib.Small
import Derived.Lib.Bytealg
import Derived.Test.YtmnafaaijglnfaaGreatDoorCards
import Derived.Test.YtmnafaaijglnfaaGreatDoorTie
import Derived.ProofKit
import Derived.OpenShut
import Derived.Deep.DeepHandedRow
import Derived.Deep.DeepWitnessRowRef
import Derived.Lib.LaidIn
import Derived.Lib.SmallJoins
import Derived.Stop.LaidErr
import Derived.LaidSub
import Derived.SizedLaws
import Derived.Laws.AppendOwn
import Derived.Laws.OwnMore
import Derived.Maps.AppendAt
import Derived.OwnWalk
import Derived.Lib.Join
import Derived.Deep.LoopGhost
import Derived.Laws.StructEq
import Derived.Deep.Slices
import Derived.Lib.Replace
import Derived.Lib.SplitLaws
import Derived.Laws.Cells
import Derived.Laws.CopyRow
namespace Go.Proofs.YtmnafaaijglnfaaGreatDoor
section
abbrev Str:=List UInt8
abbrev bs (s:ByteArray):Str:=s.data.toList
abbrev S (l:Str):Value:=.string ⟨l.toArray⟩
def splitC (c:UInt8):Str->List Str
 | []=>[[]]
 | x::r=>if x=c then []::splitC c r else (match splitC c r with|[]=>[[x]]|p::q=>(x::p)::q)
theorem splitC_ne (c:UInt8) (l:Str):splitC c l≠[]:=by
 cases l with
 | nil=>simp[splitC]
 | cons x r =>
   simp only[splitC]
   split
   ·simp
   ·split<;>simp
theorem indexByte_none (c:UInt8):∀ l:Str,c ∉ l->Lib.indexByte l c=-1
 | [],_=>rfl
 | b::l,h=>by
   have h1:¬ b=c:=fun e=>h (by simp[e])
   have h2:=indexByte_none c l (fun e=>h (by simp[e]))
   simp[Lib.indexByte,h1,h2]
theorem indexByte_app (c:UInt8) (r:Str):∀ a:Str,c ∉ a->Lib.indexByte (a++c::r) c=a.length
 | [],_=>by simp[Lib.indexByte]
 | b::l,h=>by
   have h1:¬ b=c:=fun e=>h (by simp[e])
   have h2:=indexByte_app c r l (fun e=>h (by simp[e]))
   have h3:¬ ((l.length:Int)=-1):=by omega
   simp[Lib.indexByte,h1,h2,h3]
theorem index_none (c:UInt8) (l:Str) (h:c ∉ l):Lib.index l [c]=-1:=by rw[Lib.index_one,indexByte_none c l h]
theorem index_app (c:UInt8) (a r:Str) (h:c ∉ a):Lib.index (a++c::r) [c]=a.length:=by rw[Lib.index_one,indexByte_app c r a h]
theorem first_cut (c:UInt8):∀ l:Str,c ∉ l∨∃ a r,c ∉ a∧l=a++c::r
 | []=>.inl (by simp)
 | x::l=>by
   by_cases hx:x=c
   ·exact .inr ⟨[],l,by simp,by simp[hx]⟩
   ·rcases first_cut c l with h|⟨a,r,ha,rfl⟩
    ·exact .inl (by simp[h,Ne.symm hx])
    ·exact .inr ⟨x::a,r,by simp[ha,Ne.symm hx],by simp⟩
theorem splitC_none (c:UInt8):∀ l:Str,c ∉ l->splitC c l=[l]
 | [],_=>rfl
 | x::l,h=>by
   have h1:¬ x=c:=fun e=>h (by simp[e])
   simp[splitC,h1,splitC_none c l (fun e=>h (by simp[e]))]
theorem splitC_app (c:UInt8) (r:Str):∀ a:Str,c ∉ a->splitC c (a++c::r)=a::splitC c r
 | [],_=>by simp[splitC]
 | x::a,h=>by
   have h1:¬ x=c:=fun e=>h (by simp[e])
   simp[splitC,h1,splitC_app c r a (fun e=>h (by simp[e]))]
theorem count_one_none (c:UInt8) (l:Str) (h:c ∉ l):Lib.count l [c]=0:=Lib.count_miss (index_none c l h)
theorem count_one_app (c:UInt8) (a r:Str) (h:c ∉ a):Lib.count (a++c::r) [c]=1+Lib.count r [c]:=by
 rw[Lib.count_hit (by simp) (index_app c a r h)]
 congr 2
 rw[<-List.drop_drop]
 simp
theorem splitK_one (c:UInt8):∀ (n:Nat) (l:Str),l.length<=n->Lib.splitK [c] 0 (Lib.count l [c]) l=splitC c l:=by
 intro n
 induction n with
 | zero =>
   intro l hl
   have:l=[]:=List.eq_nil_of_length_eq_zero (by omega)
   subst this
   rw[count_one_none c [] (by simp),splitC_none c [] (by simp)]
   rfl
 | succ n ih =>
   intro l hl
   rcases first_cut c l with h|⟨a,r,ha,rfl⟩
   ·rw[count_one_none c l h,splitC_none c l h]
    rfl
   ·rw[count_one_app c a r ha,splitC_app c r a ha,Nat.add_comm,Lib.splitK]
    rw[index_app c a r ha]
    have h3:¬ (((a.length:Int))==-1)=true:=by rw[beq_iff_eq];omega
    rw[if_neg h3]
    congr 1
    ·simp
    ·rw[Int.toNat_natCast,<-List.drop_drop]
     simp only[List.drop_left',List.length_cons,List.length_nil,Nat.zero_add,List.drop_succ_cons,List.drop_zero]
     exact ih r (by simp at hl;omega)
theorem splitC_count (c:UInt8):∀ (n:Nat) (l:Str),l.length<=n->(splitC c l).length=Lib.count l [c]+1:=by
 intro n
 induction n with
 | zero =>
   intro l hl
   have:l=[]:=List.eq_nil_of_length_eq_zero (by omega)
   subst this
   rw[count_one_none c [] (by simp)]
   rfl
 | succ n ih =>
   intro l hl
   rcases first_cut c l with h|⟨a,r,ha,rfl⟩
   ·rw[count_one_none c l h,splitC_none c l h]
    rfl
   ·rw[count_one_app c a r ha,splitC_app c r a ha,List.length_cons,ih r (by simp at hl;omega)]
    omega
theorem splitB_one (c:UInt8) (s:ByteArray):(Lib.splitB ⟨#[c]⟩ 0 (Lib.countB s ⟨#[c]⟩) s).map (·.data.toList)=splitC c (bs s):=by
 rw[Lib.splitB_data]
 exact splitK_one c _ _ (Nat.le_refl _)
def cutC (c:UInt8) (l:Str):Str × Str × Bool:=(l.takeWhile (· != c),(l.dropWhile (· != c)).drop 1,l.contains c)
theorem while_all (p:UInt8->Bool):∀ l:Str,(∀ x∈l,p x=true)->l.takeWhile p=l∧l.dropWhile p=[]
 | [],_=>⟨rfl,rfl⟩
 | x::l,h=>by
   have hx:=h x (by simp)
   obtain⟨h1,h2⟩:=while_all p l (fun y hy=>h y (by simp[hy]))
   simp[hx,h1,h2]
theorem cutC_none (c:UInt8) (l:Str) (h:c ∉ l):cutC c l=(l,[],false):=by
 unfold cutC
 have h1:∀ x∈l,(x != c)=true:=fun x hx=>by
  rw[bne_iff_ne];rintro rfl;exact h hx
 rw[(while_all _ l h1).1,(while_all _ l h1).2]
 simp[h]
theorem cutC_app (c:UInt8) (a r:Str) (h:c ∉ a):cutC c (a++c::r)=(a,r,true):=by
 unfold cutC
 have h1:∀ x∈a,(x != c)=true:=fun x hx=>by
  rw[bne_iff_ne];rintro rfl;exact h hx
 rw[List.takeWhile_append_of_pos h1,List.dropWhile_append_of_pos h1]
 simp
theorem cut_one (c:UInt8) (l:Str):Lib.cut l [c]=cutC c l:=by
 unfold Lib.cut
 rcases first_cut c l with h|⟨a,r,ha,rfl⟩
 ·rw[index_none c l h,cutC_none c l h]
  rfl
 ·rw[index_app c a r ha,cutC_app c a r ha]
  rw[if_pos (by omega)]
  simp only[Int.toNat_natCast,List.length_cons,List.length_nil]
  rw[<-List.drop_drop]
  simp
theorem splitC_length (c:UInt8) (s:ByteArray):(Lib.splitB ⟨#[c]⟩ 0 (Lib.countB s ⟨#[c]⟩) s).length=(splitC c (bs s)).length:=by
 rw[<-splitB_one];simp
theorem bs_append (x y:ByteArray):bs (x++y)=bs x++bs y:=by simp[bs]
end
section
open Go.RowKit
def Ext (w w':World):Prop:=Below w.heap.size w w'
namespace Ext
variable {a b c w w':World}
theorem refl (w:World):Ext w w:=Below.refl _ _
theorem size (h:Ext a b):a.heap.size<=b.heap.size:=Below.size h
theorem trans (h:Ext a b) (k:Ext b c):Ext a c:=Below.trans h (Below.mono k h.size)
theorem alloc (h:Ext a w) (o:Obj):Ext a (w.alloc o):=Below.alloc h h.size o
theorem drew (h:Ext a w):Ext a w.drew:=Below.drew h
theorem drewN (h:Ext a w) (n:Nat):Ext a (w.drewN n):=⟨h.os,h.tape,h.output,h.size,h.block⟩
theorem setCell (h:Ext a w) {p:Addr} (hp:a.heap.size<=p.block) (u:Value):Ext a (w.setCell p u):=Below.setCell h hp u
theorem grow (h:Ext a w) (os:Array Obj):Ext a (Sort.grow w os) :=
 h.trans ⟨rfl,rfl,rfl,by simp[Sort.grow],fun k hk=>by simp[Sort.grow,Array.getElem?_append,hk]⟩
theorem freeze (h:Ext a w) {p:Addr} (hp:a.heap.size<=p.block) (n:Nat):Ext a (w.freeze p n):=by
 refine Below.trans h ?_
 unfold World.freeze
 split
 ·exact Below.refl _ _
 ·exact⟨rfl,rfl,rfl,by simp,fun k hk=>by simp only[Array.getElem?_modify];rw[if_neg (by omega)]⟩
theorem bytesWorld (h:Ext a w) (t:TypeId) (s:ByteArray):Ext a (Lib.bytesWorld w t s):=freeze (alloc (drew h) _) h.size _
theorem cells (h:Ext a b):(∀ k o,k < a.heap.size->b.cell? ⟨k,o,none⟩=a.cell? ⟨k,o,none⟩)∧(∀ k o,k < a.heap.size->b.frozen? ⟨k,o,none⟩=a.frozen? ⟨k,o,none⟩) :=
 ⟨fun k o hk=>Below.cell (p:=⟨k,o,none⟩) h hk,fun k o hk=>Below.frozen (p:=⟨k,o,none⟩) h hk⟩
theorem below (h:Ext a b):Below a.heap.size a b:=h
end Ext
theorem lt_of_cell {w:World} {k o:Nat} {v:Value} (h:w.cell? ⟨k,o,none⟩=some v):k < w.heap.size:=by
 unfold World.cell? at h
 rcases Nat.lt_or_ge k w.heap.size with hlt|hge
 ·exact hlt
 ·rw[Array.getElem?_eq_none hge] at h;cases h
theorem Ext.cell {a b:World} (h:Ext a b) {k o:Nat} {v:Value} (hc:a.cell? ⟨k,o,none⟩=some v):b.cell? ⟨k,o,none⟩=some v:=(h.cells.1 k o (lt_of_cell hc)).trans hc
theorem Ext.var {a b:World} (h:Ext a b) {n:String} {cs:Array Value} (hv:a.var? Tryz.prog n=some cs):b.var? Tryz.prog n=some cs:=by
 unfold World.var? at hv ⊢
 cases hg:Tryz.prog.globalNamed n with
 | none=>rw[hg] at hv;cases hv
 | some g =>
   rw[hg] at hv
   simp only[Option.bind_some] at hv ⊢
   rcases Nat.lt_or_ge g a.heap.size with hlt|hge
   ·rw[Below.block h g hlt];exact hv
   ·rw[Array.getElem?_eq_none hge] at hv;cases hv
def Blk (w:World) (g:Nat) (t:TypeId) (cs:Array Value):Prop:=w.heap[g]?=some (.cells cs t (0,0))
namespace Blk
variable {w w':World} {g:Nat} {t:TypeId} {cs:Array Value}
theorem lt (h:Blk w g t cs):g < w.heap.size:=by
 rcases Nat.lt_or_ge g w.heap.size with hlt|hge
 ·exact hlt
 ·unfold Blk at h;rw[Array.getElem?_eq_none hge] at h;cases h
theorem cell (h:Blk w g t cs) (i:Nat):w.cell? ⟨g,i,none⟩=cs[i]?:=cell_of_row w g i cs t (0,0) h
theorem free (h:Blk w g t cs) (i:Nat):w.frozen? ⟨g,i,none⟩=false:=by
 unfold Blk at h
 simp[World.frozen?,h]
theorem new (w:World) (t:TypeId) (cs:Array Value):Blk (w.alloc (.cells cs t)) w.heap.size t cs:=heap_alloc_new w _
theorem ext (h:Blk w g t cs) (hx:Ext w w'):Blk w' g t cs:=(Below.block hx g h.lt).trans h
theorem alloc (h:Blk w g t cs) (o:Obj):Blk (w.alloc o) g t cs:=h.ext ((Ext.refl w).alloc o)
theorem set (h:Blk w g t cs) (i:Nat) (u:Value):Blk (w.setCell ⟨g,i,none⟩ u) g t (cs.setIfInBounds i u):=by
 unfold Blk at h ⊢
 simp[World.setCell,Array.getElem?_modify,h]
theorem far (h:Blk w g t cs) {p:Addr} (hp:g≠p.block) (u:Value):Blk (w.setCell p u) g t cs:=(Below.heap_setCell w p u g hp).trans h
end Blk
theorem wp_region_ext {P:Program} {id:Nat} {Q:Exit->Act->World->Prop} {a:Act} {w:World} {l:List Oper} (hm:P.follows .mixedOrders=true) (hB:Region.lexB .any l.toArray=true)
 (h:wpQuiet P l.toArray (Ext w) (fun a'=>∀ w',Ext w w'->Q .normal a' w') l a):(Code.region id l.toArray true).wp P Q a w :=
 wp_region_quiet (C:=Ext w) hm hB ((Ext.refl w).drewN 1) (by simpa using h)
structure Good (w:World):Prop where
 maxLen:∃ m,w.cell? ⟨0,0,none⟩=some (.int .i64 m)
theorem Good.ext {w w':World} (g:Good w) (h:Ext w w'):Good w':=⟨let ⟨m,hm⟩:=g.maxLen;⟨m,h.cell hm⟩⟩
structure GoodN (w:World):Prop extends Good w where
 pow10:Lib.TabIs Tryz.prog w "internal/strconv.uint64pow10" .u64 Lib.pow10Tab
 errS:∃ tp p,w.var? Tryz.prog "strconv.ErrSyntax"=some #[.iface tp p]
 errR:∃ tp p,w.var? Tryz.prog "strconv.ErrRange"=some #[.iface tp p]
theorem GoodN.ext {w w':World} (g:GoodN w) (h:Ext w w'):GoodN w' :=
 ⟨g.toGood.ext h,h.var g.pow10,let ⟨t,p,e⟩:=g.errS;⟨t,p,h.var e⟩,let ⟨t,p,e⟩:=g.errR;⟨t,p,h.var e⟩⟩
theorem ret_bool {a b:Bool} (h:a=b):Ending.returned (.bool a)=.returned (.bool b):=by rw[h]
theorem ret_int {k:IntKind} {a b:Int} (h:a=b):Ending.returned (.int k a)=.returned (.int k b):=by rw[h]
theorem toList_length (s:ByteArray):s.toList.length=s.size:=by rw[ByteArray.toList_eq,Array.length_toList];rfl
theorem bs_length (s:ByteArray):(bs s).length=s.size:=by rw[<-toList_length,ByteArray.toList_eq]
theorem size_zero {s:ByteArray} (h:s.toList=[]):s.size=0:=by rw[<-toList_length,h];rfl
theorem size_pos {s:ByteArray} (h:¬ s.toList=[]):0 < s.size:=by
 rw[<-toList_length]
 exact List.length_pos_iff.2 h
theorem take_size (s:ByteArray):s.data.toList.take s.size=s.data.toList:=List.take_of_length_le (by simp)
theorem emp_of_size {s:ByteArray} (h:s.size=0):s.toList=[]:=List.eq_nil_of_length_eq_zero (by rw[toList_length,h])
theorem nemp_of_size {s:ByteArray} (h:0 < s.size):¬ s.toList=[]:=fun e=>by have:=size_zero e;omega
theorem emp_bool {s:ByteArray} (h:s.size=0):s.toList.isEmpty=true:=by rw[emp_of_size h];rfl
theorem nemp_bool {s:ByteArray} (h:0 < s.size):s.toList.isEmpty=false:=by
 have:=nemp_of_size h
 simpa using this
theorem mk_bs (s:ByteArray):(⟨(bs s).toArray⟩:ByteArray)=s:=Lib.mk_data s
theorem S_bs (s:ByteArray):S (bs s)=.string s:=by rw[S,mk_bs]
theorem bs_mk (l:Str):bs ⟨l.toArray⟩=l:=by simp[bs]
theorem Ext.au {a w:World} (h:Ext a w:=by repeat (first|with_reducible exact Ext.refl _|with_reducible assumption|with_reducible apply Ext.drewN|with_reducible apply Ext.drew|with_reducible apply Ext.alloc|exact Ext.refl _|assumption|apply Ext.drewN|apply Ext.drew|apply Ext.alloc)):Ext a w:=h
theorem Ext.ad {a w:World} (h:Ext a w:=by repeat (first|with_reducible exact Ext.refl _|with_reducible assumption|with_reducible apply Ext.drewN|with_reducible apply Ext.drew|with_reducible apply Ext.alloc|((with_reducible refine Ext.setCell ?_ ?_ _);rotate_left;(first|(dsimp only;omega)|(simp;omega)|skip))|exact Ext.refl _|assumption|apply Ext.drewN|apply Ext.drew|apply Ext.alloc|refine Ext.setCell ?_ (by first|(dsimp only;omega)|(simp;omega)) _)):Ext a w:=h
theorem Hy {p:Prop} (h:p):Go.RowKit.Hid p:=Lib.hid h
end
section
open Go.RowKit
def smallB (c:UInt8):Bool:=decide (97<=c.toNat)&&decide (c.toNat<=122)
def digitB (c:UInt8):Bool:=decide (48<=c.toNat)&&decide (c.toNat<=57)
def greatB (c:UInt8):Bool:=decide (65<=c.toNat)&&decide (c.toNat<=90)
def nameB (c:UInt8):Bool:=smallB c||digitB c||decide (c.toNat=45)||decide (c.toNat=46)
def partB (c:UInt8):Bool:=smallB c||greatB c||digitB c||decide (c.toNat=45)||decide (c.toNat=46)||decide (c.toNat=95)
def valueB (c:UInt8):Bool:=decide (32<=c.toNat)&&decide (c.toNat<=126)
def wordB (c:UInt8):Bool:=smallB c||digitB c
set_option maxHeartbeats 400000 in
theorem isSmall_any (c:UInt8) (w:World) :
 Calls Tryz.prog 78 #[.int .u8 c.toNat] w fun e w'=>e=.returned (.bool (smallB c))∧w=w':=by
 go_enter Tryz.func78,Tryz.ntmps78
 go_wp2
 all_goals go_ret
 all_goals refine⟨ret_bool ?_,rfl⟩
 all_goals rw[Bool.eq_iff_iff]
 all_goals simp only[smallB,Bool.and_eq_true,decide_eq_true_eq,Bool.false_eq_true,false_iff,not_and]
 all_goals omega
set_option maxHeartbeats 400000 in
theorem isDigit_any (c:UInt8) (w:World) :
 Calls Tryz.prog 79 #[.int .u8 c.toNat] w fun e w'=>e=.returned (.bool (digitB c))∧w=w':=by
 go_enter Tryz.func79,Tryz.ntmps79
 go_wp2
 all_goals go_ret
 all_goals refine⟨ret_bool ?_,rfl⟩
 all_goals rw[Bool.eq_iff_iff]
 all_goals simp only[digitB,Bool.and_eq_true,decide_eq_true_eq,Bool.false_eq_true,false_iff,not_and]
 all_goals omega
set_option maxHeartbeats 400000 in
theorem isName1_any (c:UInt8) (w:World) :
 Calls Tryz.prog 77 #[.int .u8 c.toNat] w fun e w'=>e=.returned (.bool (nameB c))∧w=w':=by
 go_enter Tryz.func77,Tryz.ntmps77
 go_wp2_with (first|(go_at_call 78;refine (isSmall_any _ _).mono ?_;rintro e w' ⟨rfl,rfl⟩)|(go_at_call 79;refine (isDigit_any _ _).mono ?_;rintro e w' ⟨rfl,rfl⟩))
 all_goals go_ret
 all_goals refine⟨ret_bool ?_,rfl⟩
 all_goals rw[Bool.eq_iff_iff]
 all_goals simp[nameB, *]
 all_goals omega
set_option maxHeartbeats 400000 in
theorem isValue1_any (c:UInt8) (w:World) :
 Calls Tryz.prog 81 #[.int .u8 c.toNat] w fun e w'=>e=.returned (.bool (valueB c))∧w=w':=by
 go_enter Tryz.func81,Tryz.ntmps81
 go_wp2
 all_goals go_ret
 all_goals refine⟨ret_bool ?_,rfl⟩
 all_goals rw[Bool.eq_iff_iff]
 all_goals simp only[valueB,Bool.and_eq_true,decide_eq_true_eq,Bool.false_eq_true,false_iff,not_and]
 all_goals omega
set_option maxHeartbeats 400000 in
theorem isEarly1_any (c:UInt8) (w:World) :
 Calls Tryz.prog 149 #[.int .u8 c.toNat] w fun e w'=>e=.returned (.bool (wordB c))∧w=w':=by
 go_enter Tryz.func149,Tryz.ntmps149
 go_wp2_with (first|(go_at_call 78;refine (isSmall_any _ _).mono ?_;rintro e w' ⟨rfl,rfl⟩)|(go_at_call 79;refine (isDigit_any _ _).mono ?_;rintro e w' ⟨rfl,rfl⟩))
 all_goals go_ret
 all_goals refine⟨ret_bool ?_,rfl⟩
 all_goals simp[wordB, *]
set_option maxHeartbeats 400000 in
theorem isPart1_any (c:UInt8) (w:World) :
 Calls Tryz.prog 151 #[.int .u8 c.toNat] w fun e w'=>e=.returned (.bool (partB c))∧w=w':=by
 go_enter Tryz.func151,Tryz.ntmps151
 go_wp2_with (first|(go_at_call 78;refine (isSmall_any _ _).mono ?_;rintro e w' ⟨rfl,rfl⟩)|(go_at_call 79;refine (isDigit_any _ _).mono ?_;rintro e w' ⟨rfl,rfl⟩))
 all_goals go_ret
 all_goals refine⟨ret_bool ?_,rfl⟩
 all_goals rw[Bool.eq_iff_iff]
 all_goals simp[partB,greatB, *]
 all_goals omega
structure IsPred (f:FuncId) (p:UInt8->Bool):Prop where
 enter:∀ xs w,Sem.run Tryz.prog (callFunc f xs) w=.ok (.enter f xs) w
 calls:∀ (c:UInt8) (w:World),Calls Tryz.prog f #[.int .u8 c.toNat] w fun e w'=>e=.returned (.bool (p c))∧w=w'
theorem isDigit_pred:IsPred 79 digitB:=⟨fun xs w=>by kernel_rfl,isDigit_any⟩
theorem isValue1_pred:IsPred 81 valueB:=⟨fun xs w=>by kernel_rfl,isValue1_any⟩
theorem isEarly1_pred:IsPred 149 wordB:=⟨fun xs w=>by kernel_rfl,isEarly1_any⟩
theorem isPart1_pred:IsPred 151 partB:=⟨fun xs w=>by kernel_rfl,isPart1_any⟩
theorem isName1_pred:IsPred 77 nameB:=⟨fun xs w=>by kernel_rfl,isName1_any⟩
theorem all_take_succ (p:UInt8->Bool) (s:ByteArray) (k:Nat) (h:k < s.size):(s.data.toList.take (k+1)).all p=((s.data.toList.take k).all p&&p s[k]):=by
 rw[List.take_succ_eq_append_getElem (by simpa using h)]
 simp[ByteArray.getElem_eq_getElem_data]
theorem all_false_of (p:UInt8->Bool) (s:ByteArray) (k:Nat) (h:k < s.size) (hp:p s[k]=false):s.data.toList.all p=false:=by
 rw[List.all_eq_false]
 exact⟨s[k],by simp[ByteArray.getElem_eq_getElem_data],by simp[hp]⟩
def eachB (p:UInt8->Bool) (s:ByteArray) (n:Int):Bool:=s.data.toList.all p&&decide (0 < s.size)&&decide ((s.size:Int)<=n)
set_option maxHeartbeats 400000 in
theorem each_any (f:FuncId) (p:UInt8->Bool) (s:ByteArray) (n:Int) (w:World) (hs:s.size<=2097152) (hf:IsPred f p) :
 Calls Tryz.prog 76 #[.string s,.int .i64 n,.func (.func f) #[] #[]] w fun e w'=>e=.returned (.bool (eachB p s n))∧w=w':=by
 have hen:=hf.enter
 go_enter Tryz.func76,Tryz.ntmps76
 go_wp2
 go_loop [7] (fun i=>∃ k:Nat,k<=s.size∧i=.int .i64 k∧(s.data.toList.take k).all p=true) (fun i=>s.size - (intOf i).toNat)
 case atStart=>exact⟨0,Nat.zero_le _,rfl,by simp⟩
 case round =>
  obtain⟨k,hk,rfl,hall⟩:=hrel
  have HALL:=Hy hall
  clear hall
  by_cases hlt:k < s.size
  ·go_wp2_with (fail)
   refine (hf.calls _ _).mono ?_
   rintro e w' ⟨rfl,rfl⟩
   cases hp:p s[k]
   ·go_wp2
    go_ret
    refine⟨ret_bool ?_,rfl⟩
    unfold eachB
    rw[all_false_of p s k hlt hp]
    rfl
   ·go_wp2
    go_round
    case rel=>exact⟨k+1,by omega,by go_num,by rw[all_take_succ _ _ _ hlt,HALL.out,hp];rfl⟩
    case measure=>simp[intOf];omega
  ·obtain rfl:k=s.size:=by omega
   go_wp2
   all_goals go_ret
   all_goals refine⟨ret_bool ?_,rfl⟩
   all_goals rw[take_size] at HALL
   all_goals unfold eachB
   all_goals rw[HALL.out]
   ·simp[size_zero ‹_›]
   ·simp[size_pos ‹_›,‹¬ s.toList=[]›]
end
section
open Go.RowKit
theorem size_list (s:ByteArray):s.size=(bs s).length:=(bs_length s).symm
def eachL (p:UInt8->Bool) (l:Str) (n:Nat):Bool:=l.all p&&decide (0 < l.length)&&decide (l.length<=n)
theorem eachB_L (p:UInt8->Bool) (s:ByteArray) (n:Nat):eachB p s (n:Int)=eachL p (bs s) n:=by
 unfold eachB eachL
 rw[size_list]
 congr 1
 rw[decide_eq_decide]
 omega
theorem eachL_pos {p:UInt8->Bool} {s:ByteArray} {n:Nat} (h:eachL p (bs s) n=true):0 < s.size:=by
 unfold eachL at h
 simp only[Bool.and_eq_true,decide_eq_true_eq] at h
 rw[size_list];exact h.1.2
theorem each_list (f:FuncId) (p:UInt8->Bool) (s:ByteArray) (n:Nat) (w:World) (hs:s.size<=2097152) (hf:IsPred f p) :
 Calls Tryz.prog 76 #[.string s,.int .i64 n,.func (.func f) #[] #[]] w fun e w'=>e=.returned (.bool (eachL p (bs s) n))∧w=w' :=
 (each_any f p s n w hs hf).mono fun _ _ ⟨h,k⟩=>⟨by rw[h,eachB_L],k⟩
def nameL (l:Str):Bool:=eachL nameB l 40&&smallB (l.headD 0)
theorem head_bs (s:ByteArray) (h:0 < s.size):(bs s).headD 0=s[0]:=by
 have h1:s.data.toList[0]?=some s[0]:=Lib.data_getElem? s 0 h
 unfold bs
 cases hl:s.data.toList with
 | nil=>rw[hl] at h1;cases h1
 | cons x r=>rw[hl] at h1;simpa using h1
set_option maxHeartbeats 400000 in
theorem IsName_any (s:ByteArray) (w:World) (hs:s.size<=2097152) :
 Calls Tryz.prog 18 #[.string s] w fun e w'=>e=.returned (.bool (nameL (bs s)))∧w=w':=by
 go_enter Tryz.func18,Tryz.ntmps18
 go_wp2_with fail
 refine (each_list _ _ s 40 _ hs isName1_pred).mono ?_
 rintro e w' ⟨rfl,rfl⟩
 cases h:eachL nameB (bs s) 40
 ·go_wp2
  go_ret
  exact⟨ret_bool (by rw[nameL,h];rfl),rfl⟩
 ·have hp:=eachL_pos h
  go_wp2_with (go_at_call 78;refine (isSmall_any _ _).mono ?_;rintro e w' ⟨rfl,rfl⟩)
  go_ret
  exact⟨ret_bool (by rw[nameL,h,head_bs s hp];rfl),rfl⟩
def partL (l:Str):Bool:=eachL partB l 40&&(l != [46])&&(l != [46,46])
theorem lit_beq (s:ByteArray) (l:Str):(s.toList==l)=(bs s==l):=by rw[ByteArray.toList_eq]
set_option maxHeartbeats 400000 in
theorem isPart_any (s:ByteArray) (w:World) (hs:s.size<=2097152) :
 Calls Tryz.prog 80 #[.string s] w fun e w'=>e=.returned (.bool (partL (bs s)))∧w=w':=by
 go_enter Tryz.func80,Tryz.ntmps80
 go_wp2_with fail
 refine (each_list _ _ s 40 _ hs isPart1_pred).mono ?_
 rintro e w' ⟨rfl,rfl⟩
 cases h:eachL partB (bs s) 40
 ·go_wp2
  go_ret
  exact⟨ret_bool (by rw[partL,h];rfl),rfl⟩
 ·go_wp2
  all_goals go_ret
  all_goals refine⟨ret_bool ?_,rfl⟩
  all_goals simp_all [partL,ByteArray.toList_eq]
  all_goals rfl
def valueL (l:Str):Bool:=l.all valueB&&decide (l.length<=1000)
theorem bs_nil {s:ByteArray} (h:s.size=0):bs s=[]:=List.eq_nil_of_length_eq_zero (by rw[bs_length,h])
theorem eachL_value {s:ByteArray} (h:0 < s.size):eachL valueB (bs s) 1000=valueL (bs s):=by
 unfold eachL valueL
 rw[bs_length,decide_eq_true h,Bool.and_true]
set_option maxHeartbeats 400000 in
theorem IsValue_any (s:ByteArray) (w:World) (hs:s.size<=2097152) :
 Calls Tryz.prog 22 #[.string s] w fun e w'=>e=.returned (.bool (valueL (bs s)))∧w=w':=by
 go_enter Tryz.func22,Tryz.ntmps22
 rcases Nat.eq_zero_or_pos s.size with h0|h0
 ·have he:=emp_of_size h0
  go_wp2
  go_ret
  exact⟨ret_bool (by rw[bs_nil h0];rfl),rfl⟩
 ·have he:=nemp_of_size h0
  go_wp2_with (go_at_call 76;refine (each_list _ _ s 1000 _ hs isValue1_pred).mono ?_;rintro e w' ⟨rfl,rfl⟩)
  go_ret
  have hi:s.toList.isEmpty=false:=by simpa using he
  exact⟨ret_bool (by rw[eachL_value h0,hi];rfl),rfl⟩
def numeralL (l:Str):Bool:=eachL digitB l 10
set_option maxHeartbeats 400000 in
theorem isNumeral_any (s:ByteArray) (w:World) (hs:s.size<=2097152) :
 Calls Tryz.prog 150 #[.string s] w fun e w'=>e=.returned (.bool (numeralL (bs s)))∧w=w':=by
 go_enter Tryz.func150,Tryz.ntmps150
 go_wp2_with (go_at_call 76;refine (each_list _ _ s 10 _ hs isDigit_pred).mono ?_;rintro e w' ⟨rfl,rfl⟩)
 go_ret
 exact⟨rfl,rfl⟩
set_option maxHeartbeats 400000 in
theorem outside_any (n a b:Int) (w:World) :
 Calls Tryz.prog 74 #[.int .i64 n,.int .i64 a,.int .i64 b] w fun e w'=>e=.returned (.bool (decide (n < a∨b < n)))∧w=w':=by
 go_enter Tryz.func74,Tryz.ntmps74
 go_wp2
 all_goals go_ret
 all_goals refine⟨ret_bool ?_,rfl⟩
 all_goals simp
 all_goals omega
set_option maxHeartbeats 400000 in
theorem In_any (n a b:Int) (w:World) :
 Calls Tryz.prog 58 #[.int .i64 n,.int .i64 a,.int .i64 b] w fun e w'=>e=.returned (.bool (decide (a<=n∧n<=b)))∧w=w':=by
 go_enter Tryz.func58,Tryz.ntmps58
 go_wp2
 all_goals go_ret
 all_goals refine⟨ret_bool ?_,rfl⟩
 all_goals simp
 all_goals omega
set_option maxHeartbeats 400000 in
theorem When_any (b:Bool) (n:Int) (w:World) :
 Calls Tryz.prog 38 #[.bool b,.int .i64 n] w fun e w'=>e=.returned (.int .i64 (if b then n else 0))∧w=w':=by
 go_enter Tryz.func38,Tryz.ntmps38
 cases b
 all_goals go_wp2
 all_goals go_ret
 all_goals exact⟨rfl,rfl⟩
end
section
open Go.RowKit
def firstI:List Int->Int
 | []=>0
 | e::r=>if e=0 then firstI r else e
theorem firstI_zero:∀ {l:List Int},(∀ x∈l,x=0)->firstI l=0
 | [],_=>rfl
 | e::r,h=>by
   unfold firstI
   rw[if_pos (h e (by simp)),firstI_zero fun x hx=>h x (by simp[hx])]
theorem firstI_at:∀ {l:List Int} {k:Nat} (hk:k < l.length),(∀ x∈l.take k,x=0)->l[k]≠0->firstI l=l[k]
 | e::r,0,_,_,h=>by unfold firstI;rw[if_neg (by simpa using h)];rfl
 | e::r,k+1,hk,h0,h=>by
   unfold firstI
   rw[if_pos (h0 e (by simp))]
   exact firstI_at (l:=r) (k:=k) (by simpa using hk) (fun x hx=>h0 x (by simp[hx])) (by simpa using h)
theorem take_zero_succ {l:List Int} {k:Nat} (hk:k < l.length) (h:∀ x∈l.take k,x=0) (h0:l[k]=0):∀ x∈l.take (k+1),x=0:=by
 intro x hx
 rw[List.take_succ_eq_append_getElem hk,List.mem_append] at hx
 rcases hx with hx|hx
 ·exact h x hx
 ·simp at hx;rw[hx,h0]
set_option maxHeartbeats 400000 in
theorem First_any (b c:Nat) (es:List Int) (w:World) (hc:∀ k (h:k < es.length),w.cell? ⟨b,k,none⟩=some (.int .i64 es[k])) (hl:es.length<=1000) :
 Calls Tryz.prog 11 #[.slice (some ⟨b,0,none⟩) es.length c] w fun e w'=>e=.returned (.int .i64 (firstI es))∧w=w':=by
 go_enter Tryz.func11,Tryz.ntmps11
 go_wp2
 go_loop [7] (fun i=>∃ k:Nat,k<=es.length∧i=.int .i64 k∧∀ x∈es.take k,x=0) (fun i=>es.length - (intOf i).toNat)
 case atStart=>exact⟨0,Nat.zero_le _,rfl,by simp⟩
 case round =>
  obtain⟨k,hk,rfl,hall⟩:=hrel
  have HALL:=Hy hall
  clear hall
  by_cases hlt:k < es.length
  ·have hk1:=hc k hlt
   have HC:=Hy hc
   clear hc
   by_cases h0:es[k]=0
   ·have H0:=Hy h0
    rw[h0] at hk1
    clear h0
    go_wp2
    go_round
    case rel=>exact⟨k+1,by omega,by go_num,take_zero_succ hlt HALL.out H0.out⟩
    case measure=>simp[intOf];omega
   ·go_wp2
    go_ret
    exact⟨ret_int (firstI_at hlt HALL.out h0).symm,rfl⟩
  ·obtain rfl:k=es.length:=by omega
   have HC:=Hy hc
   clear hc
   go_wp2
   go_ret
   exact⟨ret_int (firstI_zero (by simpa using HALL.out)).symm,rfl⟩
end
section
open Go.RowKit
structure Strs (w:World) (b:Nat) (xs:List ByteArray):Prop where
 lt:b < w.heap.size
 cell:∀ k (h:k < xs.length),w.cell? ⟨b,k,none⟩=some (.string xs[k])
theorem Strs.ext {w w':World} {b:Nat} {xs:List ByteArray} (h:Strs w b xs) (hx:Ext w w'):Strs w' b xs:=⟨Nat.lt_of_lt_of_le h.lt hx.size,fun k hk=>hx.cell (h.cell k hk)⟩
theorem split_any (c:UInt8) (s:ByteArray) (w:World) (hg:Good w) (hs:s.size<=2097152) :
 Calls Tryz.prog 70 #[.string s,.string ⟨#[c]⟩] w fun e w'=>∃ (b:Nat) (xs:List ByteArray),
  e=.returned (.slice (some ⟨b,0,none⟩) xs.length xs.length)∧w.heap.size<=b∧Strs w' b xs∧xs.map bs=splitC c (bs s)∧Ext w w':=by
 obtain⟨m,hm⟩:=hg.maxLen
 refine (Tryz.strings_Split s ⟨#[c]⟩ m w (by omega) hm (Nat.le_refl _)).mono ?_
 rintro e w' ⟨rfl,rfl⟩
 have hlen:(Lib.splitB ⟨#[c]⟩ 0 (Lib.countB s ⟨#[c]⟩) s).length=Lib.countB s ⟨#[c]⟩+1:=by
  rw[splitC_length,splitC_count c _ _ (Nat.le_refl _)]
 refine⟨w.heap.size,_,by rw[hlen],Nat.le_refl _,⟨by simp,?_⟩,splitB_one c s,(Ext.refl w).alloc _⟩
 intro k hk
 rw[World.cell?_alloc_at _ _ _ _ rfl]
 simp[hk]
theorem cut_any (c:UInt8) (s:ByteArray) (w:World) (hg:Good w) (hs:s.size<=2097152) :
 Calls Tryz.prog 86 #[.string s,.string ⟨#[c]⟩] w fun e w'=>e=.returned (.tuple #[S (cutC c (bs s)).1,S (cutC c (bs s)).2.1,.bool (cutC c (bs s)).2.2])∧Ext w w':=by
 obtain⟨m,hm⟩:=hg.maxLen
 refine (Tryz.strings_Cut s ⟨#[c]⟩ m w (by omega) hm).mono ?_
 rintro e w' ⟨rfl,n,rfl⟩
 exact⟨by rw[show (⟨#[c]⟩:ByteArray).data.toList=[c] from rfl,cut_one],(Ext.refl w).drewN n⟩
theorem cutC_size (c:UInt8) (l:Str):(cutC c l).1.length<=l.length∧(cutC c l).2.1.length<=l.length:=by
 rcases first_cut c l with h|⟨a,r,ha,rfl⟩
 ·rw[cutC_none c l h];simp
 ·rw[cutC_app c a r ha];simp;omega
theorem cut_ex (c:UInt8) (s:ByteArray) (w:World) (hg:Good w) (hs:s.size<=2097152) :
 Calls Tryz.prog 86 #[.string s,.string ⟨#[c]⟩] w fun e w'=>∃ (a b:ByteArray) (f:Bool),e=.returned (.tuple #[.string a,.string b,.bool f])∧cutC c (bs s)=(bs a,bs b,f)∧a.size<=s.size∧b.size<=s.size∧Ext w w' :=
 (cut_any c s w hg hs).mono fun _ _ ⟨h,k⟩=>by
   have h1:=cutC_size c (bs s)
   rw[bs_length] at h1
   exact⟨_,_,_,h,by rw[bs_mk,bs_mk],by rw[<-bs_length,bs_mk];exact h1.1,by rw[<-bs_length,bs_mk];exact h1.2,k⟩
theorem contains_any (c:UInt8) (s:ByteArray) (w:World) (hg:Good w) (hs:s.size<=2097152) :
 Calls Tryz.prog 232 #[.string s,.string ⟨#[c]⟩] w fun e w'=>e=.returned (.bool ((bs s).contains c))∧w=w':=by
 obtain⟨m,hm⟩:=hg.maxLen
 refine (Tryz.strings_Contains s ⟨#[c]⟩ m w (by omega) hm).mono ?_
 rintro e w' ⟨rfl,rfl⟩
 refine⟨ret_bool ?_,rfl⟩
 unfold Lib.contains
 rw[show (⟨#[c]⟩:ByteArray).data.toList=[c] from rfl]
 rcases first_cut c (bs s) with h|⟨a,r,ha,hr⟩
 ·rw[index_none c _ h];simp[h]
 ·rw[show s.data.toList=a++c::r from hr,index_app c a r ha];simp[bs,hr]
theorem cutPrefix_any (s p:ByteArray) (w:World) :
 Calls Tryz.prog 96 #[.string s,.string p] w fun e w'=>e=.returned (.tuple #[S (Lib.trimPrefix (bs s) (bs p)),.bool ((bs p).isPrefixOf (bs s))])∧w=w' :=
 (Tryz.strings_CutPrefix s p w).mono fun _ _ ⟨h,k⟩=>⟨h,k.symm⟩
theorem indexByte_any (s:ByteArray) (c:UInt8) (w:World) :
 Calls Tryz.prog 162 #[.string s,.int .u8 c.toNat] w fun e w'=>e=.returned (.int .i64 (Lib.indexByte (bs s) c))∧w=w' :=
 (Tryz.strings_IndexByte s c.toNat w).mono fun _ _ ⟨h,k⟩=>⟨by rw[h,Lib.byte_back],k.symm⟩
theorem compare_any (a b:ByteArray) (w:World) :
 Calls Tryz.prog 44 #[.string a,.string b] w fun e w'=>e=.returned (.int .i64 (Lib.compareBytes (bs a) (bs b)))∧w=w' :=
 (Tryz.strings_Compare a b w).mono fun _ _ ⟨h,k⟩=>⟨h,k.symm⟩
theorem compareInt_any (a b:Int) (w:World) :
 Calls Tryz.prog 84 #[.int .i64 a,.int .i64 b] w fun e w'=>e=.returned (.int .i64 (Lib.compareInt a b))∧w=w' :=
 (Tryz.cmp_Compare_int a b w).mono fun _ _ ⟨h,k⟩=>⟨h,k.symm⟩
theorem atoi_any (s:ByteArray) (w:World) (hg:GoodN w) (hs:s.size<=2097152) :
 Calls Tryz.prog 85 #[.string s] w fun e w'=>∃ (v:Int) (ev:Value),e=.returned (.tuple #[.int .i64 v,ev])∧Ext w w' ∧
  (∀ u,Lib.atoiAll (bs s)=.ok u->v=u∧ev=.nilIface)∧(ev=.nilIface∨∃ t p,ev=.iface t p):=by
 cases h:Lib.atoiAll s.data.toList
 ·rename_i u
  refine (Tryz.strconv_Atoi_ok s (by omega) u h w).mono ?_
  rintro e w' ⟨rfl,hw⟩
  refine⟨u,.nilIface,rfl,?_,fun u' hu=>⟨by injection hu,rfl⟩,.inl rfl⟩
  rcases hw with rfl|⟨t,rfl⟩
  ·exact Ext.refl _
  ·exact (Ext.refl _).bytesWorld _ _
 ·obtain⟨tp,p,hv⟩:=hg.errS
  refine (Any.strconv_Atoi_syntax_var Tryz.laysC172 s (by omega) h tp p w hv).mono ?_
  rintro e w' ⟨N,rfl,_,_,hb⟩
  exact⟨_,_,rfl,hb,(fun u' hu=>by cases hu),.inr ⟨_,_,rfl⟩⟩
 ·obtain⟨tp,p,hv⟩:=hg.errR
  refine (Tryz.strconv_Atoi_range_var s (by omega) h tp p w hv).mono ?_
  rintro e w' ⟨N,rfl,_,_,hb⟩
  exact⟨_,_,rfl,hb,(fun u' hu=>by cases hu),.inr ⟨_,_,rfl⟩⟩
theorem trim_any (s cs:ByteArray) (w:World) (hs:s.size<=2097152) (hcs:cs.size<=1000) (hascii:∀ (j:Nat) b,cs.data.toList[j]?=some b->b.toNat < 128) :
 Calls Tryz.prog 146 #[.string s,.string cs] w fun e w'=>e=.returned (S (Lib.trimS (bs s) (bs cs)))∧Ext w w' :=
 Any.strings_Trim_laid Tryz.laysT160 (by kernel_rfl) s cs w (by omega) (by omega) hascii
end
section
open Go
def lackOf (listed:Array Bool):Nat:=listed.toList.countP fun b=>!b
theorem count_set:∀ (l:List Bool) (i:Nat),l[i]?=some false->(l.set i true).countP (fun b=>!b)+1=l.countP fun b=>!b
 | [],_,h=>by cases h
 | b::l,0,h=>by
   have h:b=false:=Option.some.inj h
   subst h
   simp
 | b::l,i+1,h=>by
   have ih:=count_set l i h
   simp only[List.set_cons_succ,List.countP_cons]
   omega
theorem lackOf_set {listed:Array Bool} {i:Nat} (hi:i < listed.size) (h:listed.getD i true=false):lackOf (listed.setIfInBounds i true)+1=lackOf listed:=by
 unfold lackOf
 rw[Array.toList_setIfInBounds]
 refine count_set _ _ ?_
 rw[Array.getElem?_toList,Array.getElem?_eq_getElem hi]
 have:listed.getD i true=listed[i]:=by simp[Array.getD,hi]
 rw[<-this,h]
theorem lackOf_rep (n:Nat):lackOf (Array.replicate n false)=n:=by
 unfold lackOf
 rw[Array.toList_replicate,List.countP_replicate]
 rfl
theorem getD_pos {listed:Array Bool} {i:Nat} (h:listed.getD i true=false):i < listed.size:=by
 rcases Nat.lt_or_ge i listed.size with h1|h1
 ·exact h1
 ·simp[Array.getD,Nat.not_lt.2 h1] at h
section
variable {P:Program} {md:Region.Mode} {ops:Array Oper} {Q:Exit->Act->World->Prop}
theorem wpAny_inv (J:Array Bool->Act->World->Prop)
 (hstep:∀ (i:Nat) (o:Oper) (listed:Array Bool) (a:Act) (w:World),listed.size=ops.size->ops[i]?=some o->listed.getD i true=false->(∀ e∈o.after,Region.binds md e=true->listed.getD e.on false=true)->J listed a w ->
   ∀ K:Act->World->Prop,(∀ a w,J (listed.setIfInBounds i true) a w->K a w)->if Region.wanted o (yielded ops a.tmps)=true then Oper.wp P o a w K Q else K (a.put o.dst undef) w)
 (hend:∀ (listed:Array Bool) (a:Act) (w:World),listed.size=ops.size->Region.ready md ops listed=[]->J listed a w->Q .normal a w) :
 ∀ (fuel:Nat) (listed:Array Bool) (a:Act) (w:World),listed.size=ops.size->lackOf listed<=fuel->J listed a w->wpAny P md ops Q fuel listed a w:=by
 intro fuel
 induction fuel with
 | zero =>
   intro listed a w hsz hf hj
   have hr:Region.ready md ops listed=[]:=by
    apply List.eq_nil_iff_forall_not_mem.2
    intro i hi
    obtain⟨h1,_⟩:=mem_ready.1 hi
    have:=lackOf_set (getD_pos h1) h1
    omega
   exact⟨hr,hend listed a w hsz hr hj⟩
 | succ fuel ih =>
   intro listed a w hsz hf hj
   refine⟨fun hr=>hend listed a w hsz hr hj,fun i hi=>?_⟩
   obtain⟨h1,o,ho,hall⟩:=mem_ready.1 hi
   have hl:=lackOf_set (getD_pos h1) h1
   exact wpOp_step ho fun K hK=>hstep i o listed a w hsz ho h1 hall hj K fun a' w' hj'=>hK a' w' (ih _ a' w' (by rw[Array.size_setIfInBounds];exact hsz) (by omega) hj')
theorem wp_region_inv {id:Nat} {a:Act} {w:World} (hm:P.follows .mixedOrders=true) (J:Array Bool->Act->World->Prop)
 (hstart:J (Array.replicate ops.size false) a w.drew)
 (hstep:∀ (i:Nat) (o:Oper) (listed:Array Bool) (a:Act) (w:World),listed.size=ops.size->ops[i]?=some o->listed.getD i true=false->(∀ e∈o.after,Region.binds .any e=true->listed.getD e.on false=true)->J listed a w ->
   ∀ K:Act->World->Prop,(∀ a w,J (listed.setIfInBounds i true) a w->K a w)->if Region.wanted o (yielded ops a.tmps)=true then Oper.wp P o a w K Q else K (a.put o.dst undef) w)
 (hend:∀ (listed:Array Bool) (a:Act) (w:World),listed.size=ops.size->Region.ready .any ops listed=[]->J listed a w->Q .normal a w) :
 (Code.region id ops true).wp P Q a w :=
 wp_region_any hm (wpAny_inv J hstep hend _ _ _ _ (by simp) (by rw[lackOf_rep];exact Nat.le_refl _) hstart)
end
end
section
open Go
structure Fact where
 holds:World->Prop
 stays:∀ w w',holds w->Ext w w'->holds w'
def Fact.no:Fact:=⟨fun _=>True,fun _ _ _ _=>trivial⟩
inductive Held
 | one (v:Value)
 | fam (β:Type) (d:β) (val:β->Value) (fact:β->Fact)
def waitsFor (o:Oper) (j:Nat):Bool:=o.after.toList.any fun e=>Region.binds .any e&&e.on==j
def dstIs (ops:Array Oper) (j:Nat) (x:Tmp):Bool:=match ops[j]? with|some o=>o.dst==some x|none=>false
structure Cls (w0:World) (o:Oper) (F:Nat->Fact) (w:World):Prop where
 ext:Ext w0 w
 facts:∀ j,waitsFor o j=true->(F j).holds w
theorem Cls.grow {w0 w w':World} {o:Oper} {F:Nat->Fact} (h:Cls w0 o F w) (hx:Ext w w'):Cls w0 o F w':=⟨h.ext.trans hx,fun j hj=>(F j).stays _ _ (h.facts j hj) hx⟩
def setF (F:Nat->Fact) (k:Nat) (f:Fact):Nat->Fact:=fun j=>if j=k then f else F j
def growUpon (P:Program) (_o:Oper) (w:World) {β:Type} (val:β->Value) (fact:β->Fact):Result Next->Prop
 | .ok (.value u) w'=>Ext w w'∧∃ b,u=val b∧(fact b).holds w'
 | .ok (.enter f args) w'=>w'=w∧Calls P f args w (fun e w''=>Ext w w''∧∃ b,e=.returned (val b)∧(fact b).holds w'')
 | _=>False
section
variable (P:Program) (ops:Array Oper) (w0:World)
def OneAt (F:Nat->Fact) (o:Oper) (a:Act) (v:Value):Prop:=if Region.wanted o (yielded ops a.tmps)=true then ∀ w,Cls w0 o F w->o.quietAt P a (Ext w) w v else v=undef
def FamAt (F:Nat->Fact) (o:Oper) (a:Act) {β:Type} (val:β->Value) (fact:β->Fact):Prop:=Region.wanted o (yielded ops a.tmps)=true∧∀ w,Cls w0 o F w->growUpon P o w val fact ((execOp a.eval o).run P w)
def SpecAt (F:Nat->Fact) (o:Oper) (a:Act):Held->Prop
 | .one v=>OneAt P ops w0 F o a v
 | .fam _ _ val fact=>FamAt P ops w0 F o a val fact
def wpGrow (Q:Act->World->Prop):List Oper->List Held->Nat->(Nat->Fact)->Act->Prop
 | [],_,_,F,a=>∀ w,Ext w0 w->(∀ j,(F j).holds w)->Q a w
 | _::_,[],_,_,_=>False
 | o::rest,.one v::T,k,F,a=>OneAt P ops w0 F o a v∧wpGrow Q rest T (k+1) F (a.put o.dst v)
 | o::rest,.fam _ _ val fact::T,k,F,a=>FamAt P ops w0 F o a val fact∧∀ b,wpGrow Q rest T (k+1) (setF F k (fact b)) (a.put o.dst (val b))
def growB (m:Nat):Bool:=Region.noSelect ops&&(List.range ops.size).all fun i=>match ops[i]? with
 | none=>true
 | some o=>(o.after.all fun e=>!Region.binds .any e||decide (e.on < i))&&(match o.dst with|some d=>decide (d < m)&&(List.range ops.size).all fun j=>decide (j=i)||!dstIs ops j d|none=>true) &&
   (o.looksAt ops).all fun x=>(List.range ops.size).all fun j=>!dstIs ops j x||waitsFor o j
end
def lexAct:List Oper->(Nat->Value)->Nat->Act->Act
 | [],_,_,a=>a
 | o::l,v,k,a=>lexAct l v (k+1) (a.put o.dst (v k))
theorem put_size (a:Act) (d:Option Tmp) (v:Value):(a.put d v).tmps.size=a.tmps.size:=by cases d<;>simp[Act.put]
theorem put_defers' (a:Act) (d:Option Tmp) (v:Value):(a.put d v).defers=a.defers:=by cases d<;>rfl
theorem put_at (a:Act) (d:Tmp) (v:Value) (h:d < a.tmps.size):(a.put (some d) v).tmps[d]?=some v:=by
 simp[Act.put,Array.getElem?_setIfInBounds_self_of_lt h]
theorem put_far (a:Act) (o:Option Tmp) (v:Value) (x:Tmp) (h:o≠some x):(a.put o v).tmps[x]?=a.tmps[x]?:=by
 cases o with
 | none=>rfl
 | some d =>
   have hne:d≠x:=fun e=>h (by rw[e])
   simp[Act.put,Array.getElem?_setIfInBounds_ne hne]
theorem lex_size:∀ (l:List Oper) (v:Nat->Value) (k:Nat) (a:Act),(lexAct l v k a).tmps.size=a.tmps.size∧(lexAct l v k a).defers=a.defers
 | [],_,_,_=>⟨rfl,rfl⟩
 | o::l,v,k,a=>by
   obtain⟨h1,h2⟩:=lex_size l v (k+1) (a.put o.dst (v k))
   exact⟨h1.trans (put_size _ _ _),h2.trans (put_defers' _ _ _)⟩
theorem lex_far:∀ (l:List Oper) (v:Nat->Value) (k:Nat) (a:Act) (x:Tmp),(∀ o∈l,o.dst≠some x)->(lexAct l v k a).tmps[x]?=a.tmps[x]?
 | [],_,_,_,_,_=>rfl
 | o::l,v,k,_a,x,h=>(lex_far l v (k+1) _ x fun o' ho=>h o' (List.mem_cons_of_mem _ ho)).trans (put_far _ _ _ _ (h o (List.mem_cons_self)))
theorem lex_at:∀ (l:List Oper) (v:Nat->Value) (k:Nat) (a:Act) (x:Tmp) (j:Nat) (o:Oper),l[j]?=some o->o.dst=some x->(∀ j' o',l[j']?=some o'->o'.dst=some x->j'=j)->x < a.tmps.size->(lexAct l v k a).tmps[x]?=some (v (k+j))
 | [],_,_,_,_,_,_,h,_,_,_=>by simp at h
 | o::l,v,k,a,x,0,o',h,hd,hu,hx=>by
   obtain rfl:o=o':=by simpa using h
   rw[lexAct,lex_far,hd,put_at _ _ _ hx]
   ·rfl
   ·intro o2 ho2 hd2
    obtain⟨j2,hj2,he⟩:=List.mem_iff_getElem.1 ho2
    have:=hu (j2+1) o2 (by simp[List.getElem?_eq_getElem hj2,he]) hd2
    omega
 | o::l,v,k,a,x,j+1,o',h,hd,hu,hx=>by
   rw[lexAct,lex_at l v (k+1) _ x j o' (by simpa using h) hd (fun j' o2 h2 hd2=>by
    have:=hu (j'+1) o2 (by simpa using h2) hd2
    omega) (by rw[put_size];exact hx)]
   rw[Nat.add_assoc,Nat.add_comm 1 j]
def SelAt:Held->Value->Fact->Prop
 | .one c,v,f=>v=c∧f=Fact.no
 | .fam _ _ val fact,v,f=>∃ b,v=val b∧f=fact b
section
variable {P:Program} {ops:Array Oper} {w0:World} {Q:Act->World->Prop}
theorem wpGrow_at:∀ (l:List Oper) (T:List Held) (k:Nat) (F:Nat->Fact) (a:Act) (v:Nat->Value) (G:Nat->Fact),(∀ j,F j=if j < k then G j else Fact.no)->(∀ j h,T[j]?=some h->SelAt h (v (k+j)) (G (k+j)))->wpGrow P ops w0 Q l T k F a ->
 (∀ j o,l[j]?=some o->∃ h,T[j]?=some h∧SpecAt P ops w0 (fun i=>if i < k+j then G i else Fact.no) o (lexAct (l.take j) v k a) h) ∧
 (∀ w,Ext w0 w->(∀ j,j < k+l.length->(G j).holds w)->Q (lexAct l v k a) w)
 | [],_,k,F,a,v,G,hF,_,h=>by
   unfold wpGrow at h
   refine⟨fun j o ho=>by simp at ho,fun w hw hG=>h w hw fun j=>?_⟩
   rw[hF]
   by_cases hj:j < k
   ·rw[if_pos hj];exact hG j (by simpa using hj)
   ·rw[if_neg hj];trivial
 | _::_,[],_,_,_,_,_,_,_,h=>by cases h
 | o::rest,hd::T,k,F,a,v,G,hF,hS,h=>by
   have hFe:F=fun i=>if i < k then G i else Fact.no:=funext hF
   have h0:=hS 0 hd rfl
   rw[Nat.add_zero] at h0
   have key:wpGrow P ops w0 Q rest T (k+1) (fun j=>if j < k+1 then G j else Fact.no) (a.put o.dst (v k))∧SpecAt P ops w0 F o a hd:=by
    cases hd with
    | one c =>
      obtain⟨e1,e2⟩:=h0
      obtain⟨h1,h2⟩:=h
      refine⟨?_,h1⟩
      have:(fun j=>if j < k+1 then G j else Fact.no)=F:=by
       funext j
       rw[hF]
       by_cases hj:j < k
       ·rw[if_pos hj,if_pos (by omega)]
       ·rw[if_neg hj]
        by_cases hj2:j < k+1
        ·rw[if_pos hj2,show j=k by omega,e2]
        ·rw[if_neg hj2]
      rw[this,e1];exact h2
    | fam β d val fact =>
      obtain⟨b,e1,e2⟩:=h0
      obtain⟨h1,h2⟩:=h
      refine⟨?_,h1⟩
      have:(fun j=>if j < k+1 then G j else Fact.no)=setF F k (fact b):=by
       funext j
       unfold setF
       rw[hF]
       by_cases hj:j < k
       ·rw[if_pos (show j < k+1 by omega),if_neg (show ¬ j=k by omega),if_pos hj]
       ·by_cases hj2:j=k
        ·rw[if_pos (show j < k+1 by omega),if_pos hj2,hj2,e2]
        ·rw[if_neg (show ¬ j < k+1 by omega),if_neg hj2,if_neg hj]
      rw[this,e1];exact h2 b
   obtain⟨hw,ho⟩:=key
   have ih:=wpGrow_at rest T (k+1) _ _ v G (fun _=>rfl) (fun j h hj=>by have:=hS (j+1) h (by simpa using hj);rwa [show k+1+j=k+(j+1) by omega]) hw
   refine⟨fun j o' hj=>?_,fun w hx hG=>ih.2 w hx fun j hj=>hG j (by rw[List.length_cons];omega)⟩
   cases j with
   | zero =>
     obtain rfl:o=o':=by simpa using hj
     refine⟨hd,rfl,?_⟩
     rw[Nat.add_zero,<-hFe]
     exact ho
   | succ j =>
     obtain⟨h',e1,e2⟩:=ih.1 j o' (by simpa using hj)
     refine⟨h',by simpa using e1,?_⟩
     rw[show k+(j+1)=k+1+j by omega]
     exact e2
theorem growB_spec {m:Nat} (h:growB ops m=true):Region.noSelect ops=true∧∀ (i:Nat) (o:Oper),ops[i]?=some o ->
 (∀ e∈o.after,Region.binds .any e=true->e.on < i)∧(∀ d,o.dst=some d->d < m∧∀ j o',ops[j]?=some o'->o'.dst=some d->j=i)∧(∀ x∈o.looksAt ops,∀ j o',ops[j]?=some o'->o'.dst=some x->waitsFor o j=true):=by
 unfold growB at h
 rw[Bool.and_eq_true,List.all_eq_true] at h
 refine⟨h.1,fun i o ho=>?_⟩
 have hi:i < ops.size:=(Array.getElem?_eq_some_iff.1 ho).1
 have h2:=h.2 i (List.mem_range.2 hi)
 rw[ho] at h2
 simp only[Bool.and_eq_true] at h2
 obtain⟨⟨h3,h4⟩,h5⟩:=h2
 have hdst:∀ j o',ops[j]?=some o'->∀ d,o'.dst=some d->dstIs ops j d=true:=fun j o' hj d hd=>by
  unfold dstIs;rw[hj];simp[hd]
 refine⟨fun e he hb=>?_,fun d hd=>?_,fun x hx j o' hj hd=>?_⟩
 ·have:=Array.all_eq_true_iff_forall_mem.1 h3 e he
  simpa [hb] using this
 ·rw[hd] at h4
  simp only[Bool.and_eq_true,decide_eq_true_eq,List.all_eq_true] at h4
  refine⟨h4.1,fun j o' hj hd'=>?_⟩
  have:=h4.2 j (List.mem_range.2 (Array.getElem?_eq_some_iff.1 hj).1)
  rw[hdst j o' hj d hd'] at this
  simpa using this
 ·rw[List.all_eq_true] at h5
  have:=h5 x hx
  rw[List.all_eq_true] at this
  have:=this j (List.mem_range.2 (Array.getElem?_eq_some_iff.1 hj).1)
  rw[hdst j o' hj x hd] at this
  simpa using this
structure Agree (ops:Array Oper) (v:Nat->Value) (listed:Array Bool) (a0 a:Act):Prop where
 size:a.tmps.size=a0.tmps.size
 defs:a.defers=a0.defers
 has:∀ j o x,ops[j]?=some o->o.dst=some x->listed.getD j false=true->a.tmps[x]?=some (v j)
 not:∀ x,(∀ j o,ops[j]?=some o->o.dst=some x->listed.getD j false=false)->a.tmps[x]?=a0.tmps[x]?
theorem eval_of {a a':Act} {t:Tmp} (h:a.tmps[t]?=a'.tmps[t]?):a.eval (.tmp t)=a'.eval (.tmp t):=by
 unfold Act.eval
 simp[Array.getD_eq_getD_getElem?,h]
theorem take_at {α:Type} {l:List α} {i j:Nat} {x:α}:(l.take i)[j]?=some x↔j < i∧l[j]?=some x:=by
 rw[List.getElem?_take]
 split
 ·simp[*]
 ·simp;intro h;omega
section
variable {m:Nat} {v:Nat->Value} {listed:Array Bool} {a0 a:Act}
theorem look_same (hB:growB ops a0.tmps.size=true) (hA:Agree ops v listed a0 a) {i:Nat} {o:Oper} (ho:ops[i]?=some o) (hall:∀ e∈o.after,Region.binds .any e=true->listed.getD e.on false=true) :
 ∀ x∈o.looksAt ops,a.tmps[x]?=(lexAct (ops.toList.take i) v 0 a0).tmps[x]?:=fun x hx=>by
 obtain⟨_,hs⟩:=growB_spec hB
 obtain⟨h1,_,h3⟩:=hs i o ho
 by_cases hw:∃ (j:Nat) (o':Oper),ops[j]?=some o'∧o'.dst=some x
 ·obtain⟨j,o',hj,hd⟩:=hw
  have hwt:=h3 x hx j o' hj hd
  unfold waitsFor at hwt
  obtain⟨e,he,hb⟩:=List.any_eq_true.1 hwt
  have he:=Array.mem_toList_iff.1 he
  simp only[Bool.and_eq_true,beq_iff_eq] at hb
  obtain⟨hb1,rfl⟩:=hb
  rw[hA.has _ o' x hj hd (hall e he hb1)]
  obtain⟨g1,g2⟩:=(hs _ o' hj).2.1 x hd
  rw[lex_at _ v 0 a0 x e.on o' (take_at.2 ⟨h1 e he hb1,by rw[Array.getElem?_toList];exact hj⟩) hd (fun j' o2 h2 hd2=>g2 j' o2 (by have:=(take_at.1 h2).2;rwa [Array.getElem?_toList] at this) hd2) g1]
  rw[Nat.zero_add]
 ·have hno:∀ (j:Nat) (o':Oper),ops[j]?=some o'->o'.dst≠some x:=fun j o' hj hd=>hw ⟨j,o',hj,hd⟩
  rw[hA.not x (fun j o' hj hd=>absurd hd (hno j o' hj)),lex_far]
  intro o2 ho2
  obtain⟨j2,hj2,he⟩:=List.mem_iff_getElem.1 (List.mem_of_mem_take ho2)
  exact hno j2 o2 (by rw[<-Array.getElem?_toList,List.getElem?_eq_getElem hj2,he])
theorem exec_same (hB:growB ops a0.tmps.size=true) (hA:Agree ops v listed a0 a) {i:Nat} {o:Oper} (ho:ops[i]?=some o) (hall:∀ e∈o.after,Region.binds .any e=true->listed.getD e.on false=true) :
 execOp a.eval o=execOp (lexAct (ops.toList.take i) v 0 a0).eval o∧Region.wanted o (yielded ops a.tmps)=Region.wanted o (yielded ops (lexAct (ops.toList.take i) v 0 a0).tmps):=by
 have hl:=look_same hB hA ho hall
 refine⟨execOp_congr o (fun cs b=>Region.noSelect_spec (growB_spec hB).1 i o cs b ho) fun x hx=>?_,?_⟩
 ·cases x with
  | tmp t=>exact eval_of (hl t (List.mem_append_left _ (List.mem_filterMap.2 ⟨.tmp t,by simpa using hx,rfl⟩)))
  | _=>rfl
 ·unfold Region.wanted
  cases hg:o.guard with
  | none=>rfl
  | some gw =>
    obtain⟨g,want⟩:=gw
    have hy:yielded ops a.tmps g=yielded ops (lexAct (ops.toList.take i) v 0 a0).tmps g:=by
     unfold yielded
     cases ht:(ops[g]?).bind (·.dst) with
     | none=>rfl
     | some t =>
       have:=hl t (by simp[Oper.looksAt,hg,ht])
       simp only[Option.bind_some,this]
    simp only[hy]
theorem Agree.next (hB:growB ops a0.tmps.size=true) (hsz:listed.size=ops.size) (hA:Agree ops v listed a0 a) {i:Nat} {o:Oper} (ho:ops[i]?=some o) {v':Nat->Value} (hv:∀ j,j≠i->v' j=v j):Agree ops v' (listed.setIfInBounds i true) a0 (a.put o.dst (v' i)):=by
 obtain⟨_,hs⟩:=growB_spec hB
 have hi:i < ops.size:=(Array.getElem?_eq_some_iff.1 ho).1
 refine⟨(put_size _ _ _).trans hA.size,(put_defers' _ _ _).trans hA.defs,fun j o' x hj hd hl=>?_,fun x hx=>?_⟩
 ·by_cases hji:j=i
  ·subst hji
   obtain rfl:o'=o:=Option.some.inj (hj.symm.trans ho)
   rw[hd,put_at _ _ _ (by rw[hA.size];exact ((hs _ _ hj).2.1 x hd).1)]
  ·rw[put_far _ _ _ _ (fun e=>hji (((hs _ _ ho).2.1 x e).2 j o' hj hd)),hv j hji]
   refine hA.has j o' x hj hd ?_
   have:i≠j:=fun e=>hji e.symm
   simpa [Array.getD_eq_getD_getElem?,Array.getElem?_setIfInBounds_ne this] using hl
 ·rw[put_far,hA.not x fun j o' hj hd=>?_]
  ·have:=hx j o' hj hd
   by_cases hji:j=i
   ·subst hji
    have hlt:j < listed.size:=by rw[hsz];exact hi
    simp[Array.getD_eq_getD_getElem?,Array.getElem?_setIfInBounds_self_of_lt hlt] at this
   ·have hne:i≠j:=fun e=>hji e.symm
    simpa [Array.getD_eq_getD_getElem?,Array.getElem?_setIfInBounds_ne hne] using this
  ·intro e
   have:=hx i o ho e
   have hlt:i < listed.size:=by rw[hsz];exact hi
   simp[Array.getD_eq_getD_getElem?,Array.getElem?_setIfInBounds_self_of_lt hlt] at this
theorem all_listed (hB:growB ops m=true) (hsz:listed.size=ops.size) (hr:Region.ready .any ops listed=[]):∀ i,i < ops.size->listed.getD i false=true:=by
 intro i
 induction i using Nat.strongRecOn with
 | ind i ih =>
   intro hi
   obtain⟨_,hs⟩:=growB_spec hB
   cases hl:listed.getD i false with
   | true=>rfl
   | false =>
     exfalso
     have hlt:i < listed.size:=by rw[hsz];exact hi
     have:i∈Region.ready .any ops listed:=mem_ready.2 ⟨by
      have e:listed.getD i true=listed.getD i false:=by simp[Array.getD,hlt]
      rw[e,hl],ops[i],Array.getElem?_eq_getElem hi,fun e he hb=>by
      have h1:=(hs i ops[i] (Array.getElem?_eq_getElem hi)).1 e he hb
      exact ih e.on h1 (Nat.lt_trans h1 hi)⟩
     rw[hr] at this
     cases this
end
theorem wp_region_grow {id:Nat} {Q:Exit->Act->World->Prop} {a:Act} {w:World} {l:List Oper} (hm:P.follows .mixedOrders=true) (hB:growB l.toArray a.tmps.size=true)
 (h:∃ T,wpGrow P l.toArray w (fun a' w'=>Q .normal a' w') l T 0 (fun _=>Fact.no) a):(Code.region id l.toArray true).wp P Q a w:=by
 obtain⟨T,h⟩:=h
 have hops:l.toArray.toList=l:=List.toList_toArray
 generalize hO:l.toArray=ops at *
 subst hops
 obtain⟨_,hs⟩:=growB_spec hB
 -- the table reaches as far as the operations
 have hlen:∀ (l:List Oper) (T:List Held) (k:Nat) (F:Nat->Fact) (a:Act),wpGrow P ops w (fun a' w'=>Q .normal a' w') l T k F a->l.length<=T.length:=by
  intro l
  induction l with
  | nil=>intro _ _ _ _ _;exact Nat.zero_le _
  | cons o l ih =>
    intro T k F a h
    cases T with
    | nil=>cases h
    | cons hd T =>
      cases hd with
      | one c=>exact Nat.succ_le_succ (ih _ _ _ _ h.2)
      | fam β d val fact=>exact Nat.succ_le_succ (ih _ _ _ _ (h.2 d))
 have hn:=hlen _ _ _ _ _ h
 rw[Array.length_toList] at hn
 let J:Array Bool->Act->World->Prop:=fun listed a' w'=>listed.size=ops.size∧Ext w w'∧∃ (v:Nat->Value) (G:Nat->Fact),(∀ j h,T[j]?=some h->SelAt h (v j) (G j))∧(∀ j,listed.getD j false=true->(G j).holds w')∧Agree ops v listed a a'
 refine wp_region_inv hm J ?_ ?_ ?_
 ·refine⟨by simp,(Ext.refl w).drew,fun j=>match T[j]? with|some (.one c)=>c|some (.fam _ d val _)=>val d|none=>undef,fun j=>match T[j]? with|some (.fam _ d _ fact)=>fact d|_=>Fact.no,fun j h hj=>?_,fun j hj=>?_,rfl,rfl,fun j o x hj hd hl=>?_,fun x _=>rfl⟩
  ·simp only[hj]
   cases h with
   | one c=>exact⟨rfl,rfl⟩
   | fam β d val fact=>exact⟨d,rfl,rfl⟩
  ·exfalso
   rcases Nat.lt_or_ge j ops.size with h1|h1<;>simp[Array.getD,h1,Nat.not_lt.2] at hj
  ·exfalso
   rcases Nat.lt_or_ge j ops.size with h1|h1<;>simp[Array.getD,h1,Nat.not_lt.2] at hl
 ·intro i o listed a' w' hsz ho hun hall hJ K hK
  obtain⟨_,hx,v,G,hS,hG,hA⟩:=hJ
  obtain⟨ha,hq⟩:=exec_same hB hA ho hall
  obtain⟨hd,hT,hob⟩:=(wpGrow_at ops.toList T 0 _ a v G (fun j=>by simp) (fun j h hj=>by rw[Nat.zero_add];exact hS j h hj) h).1 i o (by rw[Array.getElem?_toList];exact ho)
  have hcls:Cls w o (fun i'=>if i' < 0+i then G i' else Fact.no) w':=⟨hx,fun j hj=>by
   unfold waitsFor at hj
   obtain⟨e,he,hb⟩:=List.any_eq_true.1 hj
   have he:=Array.mem_toList_iff.1 he
   simp only[Bool.and_eq_true,beq_iff_eq] at hb
   obtain⟨hb1,rfl⟩:=hb
   have:=(hs i o ho).1 e he hb1
   simp only[Nat.zero_add,this,if_true]
   exact hG _ (hall e he hb1)⟩
  have hstay:∀ j,listed.getD j false=true->j≠i:=fun j hj e=>by
   subst e
   have hlt:=getD_pos hun
   have:listed.getD j true=listed.getD j false:=by simp[Array.getD,hlt]
   rw[this,hj] at hun
   cases hun
  have hset:∀ j,(listed.setIfInBounds i true).getD j false=true->j≠i->listed.getD j false=true:=fun j hj hne=>by
   have hne':i≠j:=fun e=>hne e.symm
   simpa [Array.getD_eq_getD_getElem?,Array.getElem?_setIfInBounds_ne hne'] using hj
  have hszs:(listed.setIfInBounds i true).size=ops.size:=by rw[Array.size_setIfInBounds];exact hsz
  cases hd with
  | one c =>
    have hsel:=hS i _ hT
    have hJ':∀ w'',Ext w' w''->J (listed.setIfInBounds i true) (a'.put o.dst c) w'':=fun w'' hw=>by
     refine⟨hszs,hx.trans hw,v,G,hS,fun j hj=>?_,?_⟩
     ·by_cases hji:j=i
      ·subst hji;rw[hsel.2];trivial
      ·exact (G j).stays _ _ (hG j (hset j hj hji)) hw
     ·have:=hA.next hB hsz ho (v':=v) (fun _ _=>rfl)
      rwa [hsel.1] at this
    have hone:OneAt P ops w (fun i'=>if i' < 0+i then G i' else Fact.no) o (lexAct (ops.toList.take i) v 0 a) c:=hob
    unfold OneAt at hone
    rw[<-hq] at hone
    split
    ·rename_i hw
     rw[if_pos hw] at hone
     have h3:=hone w' hcls
     unfold Oper.quietAt at h3
     rw[<-ha] at h3
     unfold Oper.wp
     generalize (execOp a'.eval o).run P w'=r at *
     cases r with
     | ok n w2 =>
       cases n<;>simp only[Oper.quietUpon] at h3<;>simp only[Oper.upon]
       case value u =>
        obtain⟨e1,e2⟩:=h3
        rw[e1,e2]
        exact hK _ _ (hJ' _ (Ext.refl _))
       case skip =>
        obtain⟨e1,e2⟩:=h3
        rw[e1,<-e2]
        exact hK _ _ (hJ' _ (Ext.refl _))
       case enter f args =>
        obtain⟨e1,hc⟩:=h3
        rw[e1]
        exact hc.mono fun e w'' ⟨he,hw''⟩=>by subst he;exact hK _ _ (hJ' _ hw'')
     | halt x w2=>simp only[Oper.quietUpon] at h3
    ·rename_i hw
     rw[if_neg hw] at hone
     rw[<-hone]
     exact hK _ _ (hJ' _ (Ext.refl _))
  | fam β d val fact =>
    have hfam:FamAt P ops w (fun i'=>if i' < 0+i then G i' else Fact.no) o (lexAct (ops.toList.take i) v 0 a) val fact:=hob
    have hJ':∀ b w'',Ext w' w''->(fact b).holds w''->J (listed.setIfInBounds i true) (a'.put o.dst (val b)) w'':=fun b w'' hw hf=>by
     refine⟨hszs,hx.trans hw,fun j=>if j=i then val b else v j,fun j=>if j=i then fact b else G j,fun j h hj=>?_,fun j hj=>?_,?_⟩
     ·by_cases hji:j=i
      ·subst hji
       obtain rfl:=Option.some.inj (hT.symm.trans hj)
       simp only[if_true]
       exact⟨b,rfl,rfl⟩
      ·simp only[hji,if_false];exact hS j h hj
     ·by_cases hji:j=i
      ·subst hji;simp only[if_true];exact hf
      ·simp only[hji,if_false];exact (G j).stays _ _ (hG j (hset j hj hji)) hw
     ·have:=hA.next hB hsz ho (v':=fun j=>if j=i then val b else v j) (fun j hne=>by simp only[hne,if_false])
      simpa using this
    obtain⟨hw1,hw2⟩:=hfam
    rw[if_pos (hq.trans hw1)]
    have h3:=hw2 w' hcls
    rw[<-ha] at h3
    unfold Oper.wp
    generalize (execOp a'.eval o).run P w'=r at *
    cases r with
    | ok n w2 =>
      cases n<;>simp only[growUpon] at h3<;>simp only[Oper.upon]
      case value u =>
       obtain⟨e1,b,e2,e3⟩:=h3
       rw[e2]
       exact hK _ _ (hJ' b _ e1 e3)
      case enter f args =>
       obtain⟨e1,hc⟩:=h3
       rw[e1]
       exact hc.mono fun e w'' ⟨hw'',b,he,hf⟩=>by subst he;exact hK _ _ (hJ' b _ hw'' hf)
    | halt x w2=>simp only[growUpon] at h3
 ·intro listed a' w' hsz hr hJ
  obtain⟨_,hx,v,G,hS,hG,hA⟩:=hJ
  have hall:=all_listed hB hsz hr
  have hfin:=(wpGrow_at ops.toList T 0 _ a v G (fun j=>by simp) (fun j h hj=>by rw[Nat.zero_add];exact hS j h hj) h).2 w' hx (fun j hj=>hG j (hall j (by rw[Nat.zero_add,Array.length_toList] at hj;exact hj)))
  have he:a'=lexAct ops.toList v 0 a:=by
   obtain⟨z1,z2⟩:=lex_size ops.toList v 0 a
   have ht:a'.tmps=(lexAct ops.toList v 0 a).tmps:=by
    apply Array.ext_getElem?
    intro x
    by_cases hw:∃ (j:Nat) (o':Oper),ops[j]?=some o'∧o'.dst=some x
    ·obtain⟨j,o',hj,hd⟩:=hw
     obtain⟨g1,g2⟩:=(hs _ o' hj).2.1 x hd
     rw[hA.has j o' x hj hd (hall j (Array.getElem?_eq_some_iff.1 hj).1),lex_at _ v 0 a x j o' (by rw[Array.getElem?_toList];exact hj) hd (fun j' o2 h2 hd2=>g2 j' o2 (by rwa [Array.getElem?_toList] at h2) hd2) g1,Nat.zero_add]
    ·have hno:∀ (j:Nat) (o':Oper),ops[j]?=some o'->o'.dst≠some x:=fun j o' hj hd=>hw ⟨j,o',hj,hd⟩
     rw[hA.not x (fun j o' hj hd=>absurd hd (hno j o' hj)),lex_far]
     intro o2 ho2
     obtain⟨j2,hj2,he⟩:=List.mem_iff_getElem.1 ho2
     exact hno j2 o2 (by rw[<-Array.getElem?_toList,List.getElem?_eq_getElem hj2,he])
   cases a';cases hL:lexAct ops.toList v 0 a
   rw[hL] at ht z2
   have hd:=hA.defs
   simp only at ht z2 hd
   simp[ht,hd,z2]
  rw[he]
  exact hfin
variable {F:Nat->Fact} {o:Oper} {rest:List Oper} {T:List Held} {k:Nat} {a:Act}
theorem grow_nil (h:∀ w,Ext w0 w->(∀ j,(F j).holds w)->Q a w):wpGrow P ops w0 Q [] [] k F a:=h
theorem grow_skip (hw:Region.wanted o (yielded ops a.tmps)=false) (h:wpGrow P ops w0 Q rest T (k+1) F (a.put o.dst undef)):wpGrow P ops w0 Q (o::rest) (.one undef::T) k F a :=
 ⟨by unfold OneAt;rw[if_neg (by rw[hw];exact Bool.false_ne_true)],h⟩
theorem grow_one {v:Value} (hw:Region.wanted o (yielded ops a.tmps)=true) (hv:∀ w,Cls w0 o F w->o.quietAt P a (Ext w) w v) (h:wpGrow P ops w0 Q rest T (k+1) F (a.put o.dst v)):wpGrow P ops w0 Q (o::rest) (.one v::T) k F a :=
 ⟨by unfold OneAt;rw[if_pos hw];exact hv,h⟩
theorem grow_fam {β:Type} {d:β} {val:β->Value} {fact:β->Fact} (hw:Region.wanted o (yielded ops a.tmps)=true) (hv:∀ w,Cls w0 o F w->growUpon P o w val fact ((execOp a.eval o).run P w)) (h:∀ b,wpGrow P ops w0 Q rest T (k+1) (setF F k (fact b)) (a.put o.dst (val b))) :
 wpGrow P ops w0 Q (o::rest) (.fam β d val fact::T) k F a:=⟨⟨hw,hv⟩,h⟩
def blkF (t:TypeId) (cs:Array Value) (b:Nat):Fact:=⟨fun w=>Blk w b t cs,fun _ _ h hx=>h.ext hx⟩
theorem grow_build {n c:Nat} {t:TypeId} {cs:Array Value} (hw:Region.wanted o (yielded ops a.tmps)=true) (hv:∀ w,(execOp a.eval o).run P w=.ok (.value (.slice (some ⟨w.heap.size,0,none⟩) n c)) (w.alloc (.cells cs t)))
 (h:∀ b,wpGrow P ops w0 Q rest T (k+1) (setF F k (blkF t cs b)) (a.put o.dst (.slice (some ⟨b,0,none⟩) n c))):wpGrow P ops w0 Q (o::rest) (.fam Nat 0 (fun b=>.slice (some ⟨b,0,none⟩) n c) (blkF t cs)::T) k F a :=
 grow_fam hw (fun w _=>by rw[hv w];exact⟨(Ext.refl w).alloc _,w.heap.size,rfl,Blk.new w t cs⟩) h
theorem Cls.blk {w:World} (h:Cls w0 o F w) (j:Nat) (hw:waitsFor o j=true) {b:Nat} {t:TypeId} {cs:Array Value} (hF:F j=blkF t cs b):Blk w b t cs:=by
 have:=h.facts j hw
 rw[hF] at this
 exact this
theorem callsExt {P:Program} {f:FuncId} {xs:Array Value} {w:World} {x:Ending} (h:Calls P f xs w fun e w'=>e=x∧w=w'):Calls P f xs w fun e w'=>e=x∧Ext w w' :=
 h.mono fun _e _w' hh=>⟨hh.1,hh.2 ▸ Ext.refl _⟩
end
end
section
open Go
section
variable (P:Program) (ops:Array Oper) (w0:World) (S:World->Prop)
def LateAt (F:Nat->Fact) (o:Oper) (a:Act) (v:Value):Prop:=if Region.wanted o (yielded ops a.tmps)=true then ∀ w,Cls w0 o F w∨S w->(execOp a.eval o).run P w=.ok (.value v) w else v=undef
def SpecT (tl late:List Nat) (k:Nat) (F:Nat->Fact) (o:Oper) (a:Act):Held->Prop
 | .one v=>if tl.contains k=true then v=undef else if late.contains k=true then LateAt P ops w0 S F o a v else OneAt P ops w0 F o a v
 | .fam _ _ val fact=>tl.contains k=false∧late.contains k=false∧FamAt P ops w0 F o a val fact
def wpGrowT (tl late:List Nat) (Q:Act->World->Prop):List Oper->List Held->Nat->(Nat->Fact)->Act->Prop
 | [],_,_,F,a=>∀ w,Ext w0 w->(∀ j,(F j).holds w)->Q a w
 | _::_,[],_,_,_=>False
 | o::rest,.one v::T,k,F,a=>SpecT P ops w0 S tl late k F o a (.one v)∧wpGrowT tl late Q rest T (k+1) F (a.put o.dst v)
 | o::rest,.fam β d val fact::T,k,F,a=>SpecT P ops w0 S tl late k F o a (.fam β d val fact)∧∀ b,wpGrowT tl late Q rest T (k+1) (setF F k (fact b)) (a.put o.dst (val b))
end
section
variable {P:Program} {ops:Array Oper} {w0:World} {S:World->Prop} {Q:Act->World->Prop} {tl late:List Nat}
theorem wpGrowT_at:∀ (l:List Oper) (T:List Held) (k:Nat) (F:Nat->Fact) (a:Act) (v:Nat->Value) (G:Nat->Fact),(∀ j,F j=if j < k then G j else Fact.no)->(∀ j h,T[j]?=some h->SelAt h (v (k+j)) (G (k+j)))->wpGrowT P ops w0 S tl late Q l T k F a ->
 (∀ j o,l[j]?=some o->∃ h,T[j]?=some h∧SpecT P ops w0 S tl late (k+j) (fun i=>if i < k+j then G i else Fact.no) o (lexAct (l.take j) v k a) h) ∧
 (∀ w,Ext w0 w->(∀ j,j < k+l.length->(G j).holds w)->Q (lexAct l v k a) w)
 | [],_,k,F,a,v,G,hF,_,h=>by
   unfold wpGrowT at h
   refine⟨fun j o ho=>by simp at ho,fun w hw hG=>h w hw fun j=>?_⟩
   rw[hF]
   by_cases hj:j < k
   ·rw[if_pos hj];exact hG j (by simpa using hj)
   ·rw[if_neg hj];trivial
 | _::_,[],_,_,_,_,_,_,_,h=>by cases h
 | o::rest,hd::T,k,F,a,v,G,hF,hS,h=>by
   have hFe:F=fun i=>if i < k then G i else Fact.no:=funext hF
   have h0:=hS 0 hd rfl
   rw[Nat.add_zero] at h0
   have key:wpGrowT P ops w0 S tl late Q rest T (k+1) (fun j=>if j < k+1 then G j else Fact.no) (a.put o.dst (v k))∧SpecT P ops w0 S tl late k F o a hd:=by
    cases hd with
    | one c =>
      obtain⟨e1,e2⟩:=h0
      obtain⟨h1,h2⟩:=h
      refine⟨?_,h1⟩
      have:(fun j=>if j < k+1 then G j else Fact.no)=F:=by
       funext j
       rw[hF]
       by_cases hj:j < k
       ·rw[if_pos hj,if_pos (by omega)]
       ·rw[if_neg hj]
        by_cases hj2:j < k+1
        ·rw[if_pos hj2,show j=k by omega,e2]
        ·rw[if_neg hj2]
      rw[this,e1];exact h2
    | fam β d val fact =>
      obtain⟨b,e1,e2⟩:=h0
      obtain⟨h1,h2⟩:=h
      refine⟨?_,h1⟩
      have:(fun j=>if j < k+1 then G j else Fact.no)=setF F k (fact b):=by
       funext j
       unfold setF
       rw[hF]
       by_cases hj:j < k
       ·rw[if_pos (show j < k+1 by omega),if_neg (show ¬ j=k by omega),if_pos hj]
       ·by_cases hj2:j=k
        ·rw[if_pos (show j < k+1 by omega),if_pos hj2,hj2,e2]
        ·rw[if_neg (show ¬ j < k+1 by omega),if_neg hj2,if_neg hj]
      rw[this,e1];exact h2 b
   obtain⟨hw,ho⟩:=key
   have ih:=wpGrowT_at rest T (k+1) _ _ v G (fun _=>rfl) (fun j h hj=>by have:=hS (j+1) h (by simpa using hj);rwa [show k+1+j=k+(j+1) by omega]) hw
   refine⟨fun j o' hj=>?_,fun w hx hG=>ih.2 w hx fun j hj=>hG j (by rw[List.length_cons];omega)⟩
   cases j with
   | zero =>
     obtain rfl:o=o':=by simpa using hj
     refine⟨hd,rfl,?_⟩
     rw[Nat.add_zero,<-hFe]
     exact ho
   | succ j =>
     obtain⟨h',e1,e2⟩:=ih.1 j o' (by simpa using hj)
     refine⟨h',by simpa using e1,?_⟩
     rw[show k+(j+1)=k+1+j by omega]
     exact e2
end
def wpTail (P:Program) (S:World->Prop) (R:Act->World->Prop):List Oper->Act->World->Prop
 | [],a,w=>S w∧R a w
 | o::l,a,w=>S w∧o.wp P a w (wpTail P S R l) (fun _ _ _=>False)
theorem wpTail.holds {P:Program} {S:World->Prop} {R:Act->World->Prop}:∀ {l:List Oper} {a:Act} {w:World},wpTail P S R l a w->S w
 | [],_,_,h=>h.1
 | _::_,_,_,h=>h.1
def OnlyNormal (Q:Exit->Act->World->Prop):Exit->Act->World->Prop:=fun e a w=>e=.normal∧Q .normal a w
theorem OnlyNormal.intro {Q:Exit->Act->World->Prop} {a:Act} {w:World} (h:Q .normal a w):OnlyNormal Q .normal a w:=⟨rfl,h⟩
theorem Oper.wp_to {P:Program} {o:Oper} {a a':Act} {w:World} {K K':Act->World->Prop} {Q Q':Exit->Act->World->Prop} (he:execOp a'.eval o=execOp a.eval o)
 (hK:∀ v w,K (a.put o.dst v) w->K' (a'.put o.dst v) w) (hD:∀ d w,K ({ a with defers:=d::a.defers }.put o.dst undef) w->K' ({ a' with defers:=d::a'.defers }.put o.dst undef) w)
 (hP:∀ c w,Q (.panic c) a w->Q' (.panic c) a' w) (hL:LetsOut Q->LetsOut Q') (h:o.wp P a w K Q):o.wp P a' w K' Q':=by
 unfold Oper.wp at h ⊢
 rw[he]
 generalize (execOp a.eval o).run P w=r at *
 cases r with
 | ok n w' =>
   cases n<;>simp only[Oper.upon] at h ⊢ <;>
    first
     | exact hK _ _ h
     | exact hD _ _ h
     | exact Calls.mono h (fun e w'' he=>by cases e<;>first|exact hK _ _ he|exact hP _ _ he|exact hL he)
     | exact Rows.mono h (fun _ _ he=>hK _ _ he)
 | halt x w'=>cases x<;>simp only[Oper.upon] at h ⊢<;>exact hP _ _ h
theorem wpTail_of_list {P:Program} {ops:Array Oper} {Q:Exit->Act->World->Prop}:∀ (l:List Oper) (a:Act) (w:World),l.all (fun o=>o.guard.isNone)=true->wpList P ops (OnlyNormal Q) l a w->wpTail P (fun _=>True) (Q .normal) l a w
 | [],_,_,_,h=>⟨trivial,h.2⟩
 | o::l,a,w,hg,h=>by
   rw[List.all_cons,Bool.and_eq_true,Option.isNone_iff_eq_none] at hg
   unfold wpList at h
   rw[if_pos (by simp[Region.wanted,hg.1])] at h
   refine⟨trivial,?_⟩
   rcases h with h|⟨_,a2,w2,h,_⟩
   ·exact Oper.wp_to rfl (fun v w h=>wpTail_of_list l _ _ hg.2 h) (fun d w h=>wpTail_of_list l _ _ hg.2 h) (fun c w h=>by cases h.1) (fun h=>by obtain⟨_,_,h,_⟩:=h;cases h) h
   ·cases h
theorem wpTail_step {P:Program} {ops:Array Oper} {S:World->Prop} {R:Act->World->Prop} {o:Oper} {l:List Oper} {a:Act} {w:World} (hg:o.guard.isNone=true) (hS:S w) (h:wpList P ops (OnlyNormal fun _=>wpTail P S R l) [o] a w):wpTail P S R (o::l) a w:=by
 rw[Option.isNone_iff_eq_none] at hg
 unfold wpList at h
 rw[if_pos (by simp[Region.wanted,hg])] at h
 refine⟨hS,?_⟩
 rcases h with h|⟨_,a2,w2,h,_⟩
 ·exact Oper.wp_to rfl (fun v w h=>h.2) (fun d w h=>h.2) (fun c w h=>by cases h.1) (fun h=>by obtain⟨_,_,h,_⟩:=h;cases h) h
 ·cases h
theorem wpTail_nil {P:Program} {S:World->Prop} {R:Act->World->Prop} {a:Act} {w:World} (hS:S w) (h:R a w):wpTail P S R [] a w:=⟨hS,h⟩
def awaits (ops:Array Oper) (i:Nat):List Nat:=match ops[i]? with
 | some o=>(o.after.toList.filter fun e=>Region.binds .any e).map (·.on)
 | none=>[]
def reachL (ops:Array Oper):Nat->List Nat->List Nat
 | 0,m=>m
 | i+1,m=>reachL ops i (if m.contains i then awaits ops i++m else m)
def growTB (ops:Array Oper) (m:Nat) (tl late:List Nat):Bool :=
 growB ops m&&decide (0 < tl.length)&&((List.range ops.size).all fun i=>tl.contains i||(awaits ops i).all fun j=>!tl.contains j) &&
 ((List.range (tl.length - 1)).all fun q=>(awaits ops (tl.getD (q+1) 0)).contains (tl.getD q 0)) &&
 (let r:=reachL ops ops.size (awaits ops (tl.getD 0 0));(List.range ops.size).all fun i=>tl.contains i||late.contains i||r.contains i) &&
 (tl.all fun i=>match ops[i]? with|some o=>o.guard.isNone|none=>false)
theorem mem_awaits {ops:Array Oper} {i j:Nat} {o:Oper} (ho:ops[i]?=some o):j∈awaits ops i↔∃ e∈o.after,Region.binds .any e=true∧e.on=j:=by
 unfold awaits
 rw[ho]
 simp only[List.mem_map,List.mem_filter,Array.mem_toList_iff]
 constructor
 ·rintro ⟨e,⟨h1,h2⟩,h3⟩;exact⟨e,h1,h2,h3⟩
 ·rintro ⟨e,h1,h2,h3⟩;exact⟨e,⟨h1,h2⟩,h3⟩
def Closed (ops:Array Oper) (listed:Array Bool):Prop:=∀ j,listed.getD j false=true->∀ i∈awaits ops j,listed.getD i false=true
theorem reachL_listed {ops:Array Oper} {listed:Array Bool} (hc:Closed ops listed):∀ (k:Nat) (m:List Nat),(∀ i∈m,listed.getD i false=true)->∀ i∈reachL ops k m,listed.getD i false=true
 | 0,_,hm,i,hi=>hm i hi
 | k+1,m,hm,i,hi=>by
   unfold reachL at hi
   refine reachL_listed hc k _ (fun j hj=>?_) i hi
   split at hj
   ·rename_i hk
    rcases List.mem_append.1 hj with h|h
    ·exact hc k (hm k (by simpa using hk)) j h
    ·exact hm j h
   ·exact hm j hj
structure TailOk (ops:Array Oper) (m:Nat) (tl late:List Nat):Prop where
 grow:growB ops m=true
 pos:0 < tl.length
 free:∀ i,i ∉ tl->∀ j∈awaits ops i,j ∉ tl
 chain:∀ q,q+1 < tl.length->tl.getD q 0∈awaits ops (tl.getD (q+1) 0)
 reach:∀ listed,Closed ops listed->(∀ j∈awaits ops (tl.getD 0 0),listed.getD j false=true)->∀ i,i < ops.size->i ∉ tl->i ∉ late->listed.getD i false=true
 lt:∀ i∈tl,i < ops.size
 bare:∀ i∈tl,∀ o,ops[i]?=some o->o.guard=none
theorem growTB_spec {ops:Array Oper} {m:Nat} {tl late:List Nat} (h:growTB ops m tl late=true):TailOk ops m tl late:=by
 unfold growTB at h
 simp only[Bool.and_eq_true,decide_eq_true_eq] at h
 obtain⟨⟨⟨⟨⟨h1,h2⟩,h3⟩,h4⟩,h5⟩,h6⟩:=h
 refine⟨h1,h2,fun i hi j hj=>?_,fun q hq=>?_,fun listed hc ha i hi hit hil=>?_,fun i hi=>?_,fun i hi o ho=>?_⟩
 ·cases ho:ops[i]? with
  | none=>unfold awaits at hj;rw[ho] at hj;cases hj
  | some o =>
    rw[List.all_eq_true] at h3
    have:=h3 i (List.mem_range.2 (Array.getElem?_eq_some_iff.1 ho).1)
    rw[Bool.or_eq_true] at this
    rcases this with h|h
    ·exact absurd (by simpa using h) hi
    ·rw[List.all_eq_true] at h
     simpa using h j hj
 ·rw[List.all_eq_true] at h4
  simpa using h4 q (List.mem_range.2 (by omega))
 ·rw[List.all_eq_true] at h5
  have:=h5 i (List.mem_range.2 hi)
  simp only[Bool.or_eq_true] at this
  rcases this with (h|h)|h
  ·exact absurd (by simpa using h) hit
  ·exact absurd (by simpa using h) hil
  ·exact reachL_listed hc _ _ ha i (by simpa using h)
 ·rw[List.all_eq_true] at h6
  have:=h6 i hi
  cases ho:ops[i]? with
  | none=>rw[ho] at this;cases this
  | some o=>exact (Array.getElem?_eq_some_iff.1 ho).1
 ·rw[List.all_eq_true] at h6
  have:=h6 i hi
  rw[ho] at this
  simpa using this
structure AgreeM (ops:Array Oper) (listed:Array Bool) (a2 a:Act):Prop where
 size:a.tmps.size=a2.tmps.size
 defs:a.defers=a2.defers
 has:∀ (j:Nat) (o:Oper) (x:Nat),ops[j]?=some o->o.dst=some x->listed.getD j false=true->a.tmps[x]?=a2.tmps[x]?
 not:∀ x,(∀ (j:Nat) (o:Oper),ops[j]?=some o->o.dst≠some x)->a.tmps[x]?=a2.tmps[x]?
theorem exec_of_look {ops:Array Oper} {m:Nat} (hB:growB ops m=true) {i:Nat} {o:Oper} (ho:ops[i]?=some o) {a a':Act} (hl:∀ x∈o.looksAt ops,a.tmps[x]?=a'.tmps[x]?) :
 execOp a.eval o=execOp a'.eval o∧Region.wanted o (yielded ops a.tmps)=Region.wanted o (yielded ops a'.tmps):=by
 refine⟨execOp_congr o (fun cs b=>Region.noSelect_spec (growB_spec hB).1 i o cs b ho) fun x hx=>?_,?_⟩
 ·cases x with
  | tmp t=>exact eval_of (hl t (List.mem_append_left _ (List.mem_filterMap.2 ⟨.tmp t,by simpa using hx,rfl⟩)))
  | _=>rfl
 ·unfold Region.wanted
  cases hg:o.guard with
  | none=>rfl
  | some gw =>
    obtain⟨g,want⟩:=gw
    have hy:yielded ops a.tmps g=yielded ops a'.tmps g:=by
     unfold yielded
     cases ht:(ops[g]?).bind (·.dst) with
     | none=>rfl
     | some t =>
       have:=hl t (by simp[Oper.looksAt,hg,ht])
       simp only[Option.bind_some,this]
    simp only[hy]
theorem look_cases {ops:Array Oper} {m:Nat} (hB:growB ops m=true) {i:Nat} {o:Oper} (ho:ops[i]?=some o) {x:Nat} (hx:x∈o.looksAt ops) :
 (∃ j o',ops[j]?=some o'∧o'.dst=some x∧j∈awaits ops i∧j < i)∨(∀ (j:Nat) (o':Oper),ops[j]?=some o'->o'.dst≠some x):=by
 obtain⟨_,hs⟩:=growB_spec hB
 obtain⟨h1,_,h3⟩:=hs i o ho
 by_cases hw:∃ (j:Nat) (o':Oper),ops[j]?=some o'∧o'.dst=some x
 ·obtain⟨j,o',hj,hd⟩:=hw
  have hwt:=h3 x hx j o' hj hd
  unfold waitsFor at hwt
  obtain⟨e,he,hb⟩:=List.any_eq_true.1 hwt
  have he:=Array.mem_toList_iff.1 he
  simp only[Bool.and_eq_true,beq_iff_eq] at hb
  obtain⟨hb1,rfl⟩:=hb
  exact .inl ⟨_,o',hj,hd,(mem_awaits ho).2 ⟨e,he,hb1,rfl⟩,h1 e he hb1⟩
 ·exact .inr fun j o' hj hd=>hw ⟨j,o',hj,hd⟩
theorem lex_val {ops:Array Oper} {m:Nat} (hB:growB ops m=true) {a:Act} (hm:a.tmps.size=m) (v:Nat->Value) {i:Nat} {j:Nat} {o':Oper} {x:Nat} (hj:ops[j]?=some o') (hd:o'.dst=some x) (hji:j < i) :
 (lexAct (ops.toList.take i) v 0 a).tmps[x]?=some (v j):=by
 obtain⟨_,hs⟩:=growB_spec hB
 obtain⟨g1,g2⟩:=(hs _ o' hj).2.1 x hd
 rw[lex_at _ v 0 a x j o' (take_at.2 ⟨hji,by rw[Array.getElem?_toList];exact hj⟩) hd (fun j' o2 h2 hd2=>g2 j' o2 (by have:=(take_at.1 h2).2;rwa [Array.getElem?_toList] at this) hd2) (by rw[hm];exact g1),Nat.zero_add]
theorem lex_unw {ops:Array Oper} {a:Act} (v:Nat->Value) {i:Nat} {x:Nat} (hno:∀ (j:Nat) (o':Oper),ops[j]?=some o'->o'.dst≠some x):(lexAct (ops.toList.take i) v 0 a).tmps[x]?=a.tmps[x]?:=by
 rw[lex_far]
 intro o2 ho2
 obtain⟨j2,hj2,he⟩:=List.mem_iff_getElem.1 (List.mem_of_mem_take ho2)
 exact hno j2 o2 (by rw[<-Array.getElem?_toList,List.getElem?_eq_getElem hj2,he])
theorem AgreeM.next {ops:Array Oper} {m:Nat} (_hB:growB ops m=true) {listed:Array Bool} (_hsz:listed.size=ops.size) {a2 a2' a a':Act} (hA:AgreeM ops listed a2 a) {i:Nat} {o:Oper} (ho:ops[i]?=some o) (_hm:a2.tmps.size=m) (_u:Value)
 (hd2:a'.defers=a2'.defers) (hs2:a2'.tmps.size=a2.tmps.size) (hs:a'.tmps.size=a.tmps.size)
 (hh:∀ x,o.dst=some x->a'.tmps[x]?=a2'.tmps[x]?) (hf:∀ x,o.dst≠some x->a'.tmps[x]?=a.tmps[x]?∧a2'.tmps[x]?=a2.tmps[x]?):AgreeM ops (listed.setIfInBounds i true) a2' a':=by
 refine⟨hs.trans (hA.size.trans hs2.symm),hd2,fun j o' x hj hd hl=>?_,fun x hx=>?_⟩
 ·by_cases hji:o.dst=some x
  ·exact hh x hji
  ·obtain⟨e1,e2⟩:=hf x hji
   rw[e1,e2]
   have hne:j≠i:=fun e=>by subst e;exact hji (by rw[<-hd,Option.some.inj (ho.symm.trans hj)])
   refine hA.has j o' x hj hd ?_
   have hne':i≠j:=fun e=>hne e.symm
   simpa [Array.getD_eq_getD_getElem?,Array.getElem?_setIfInBounds_ne hne'] using hl
 ·obtain⟨e1,e2⟩:=hf x (hx i o ho)
  rw[e1,e2]
  exact hA.not x hx
theorem set_self {listed:Array Bool} {i:Nat} (h:i < listed.size):(listed.setIfInBounds i true).getD i false=true:=by
 simp[Array.getD_eq_getD_getElem?,Array.getElem?_setIfInBounds_self_of_lt h]
theorem set_other {listed:Array Bool} {i j:Nat} (h:i≠j):(listed.setIfInBounds i true).getD j false=listed.getD j false:=by
 simp[Array.getD_eq_getD_getElem?,Array.getElem?_setIfInBounds_ne h]
theorem Closed.set {ops:Array Oper} {listed:Array Bool} (hc:Closed ops listed) (hsz:listed.size=ops.size) {i:Nat} {o:Oper} (ho:ops[i]?=some o) (hall:∀ j∈awaits ops i,listed.getD j false=true):Closed ops (listed.setIfInBounds i true):=by
 have hi:i < listed.size:=by rw[hsz];exact (Array.getElem?_eq_some_iff.1 ho).1
 have hup:∀ j,listed.getD j false=true->(listed.setIfInBounds i true).getD j false=true:=fun j hj=>by
  by_cases h:i=j
  ·subst h;exact set_self hi
  ·rw[set_other h];exact hj
 intro j hj k hk
 by_cases h:i=j
 ·subst h;exact hup k (hall k hk)
 ·rw[set_other h] at hj
  exact hup k (hc j hj k hk)
theorem getD_flip {listed:Array Bool} {i:Nat} (h:listed.getD i true=false):listed.getD i false=false:=by
 have hlt:=getD_pos h
 simpa [Array.getD,hlt] using h
theorem getD_mem {tl:List Nat} {q:Nat} (h:q < tl.length):tl.getD q 0=tl[q]:=by simp[List.getD,List.getElem?_eq_getElem h]
theorem wp_region_growT {P:Program} {id:Nat} {Q:Exit->Act->World->Prop} {a:Act} {w:World} {l:List Oper} (tl late:List Nat) (S:World->Prop) {tops:List Oper} (hm:P.follows .mixedOrders=true) (hB:growTB l.toArray a.tmps.size tl late=true) (htops:tl.map (fun i=>l[i]?)=tops.map some)
 (h:∃ T,wpGrowT P l.toArray w S tl late (wpTail P S (Q .normal) tops) l T 0 (fun _=>Fact.no) a):(Code.region id l.toArray true).wp P Q a w:=by
 obtain⟨T,h⟩:=h
 have htops:tl.map (fun i=>l.toArray[i]?)=tops.map some:=by simpa using htops
 have hops:l.toArray.toList=l:=List.toList_toArray
 generalize hO:l.toArray=ops at *
 subst hops
 have ok:=growTB_spec hB
 have hB:=ok.grow
 obtain⟨_,hs⟩:=growB_spec hB
 have htl:tops.length=tl.length:=by have:=congrArg List.length htops;simpa using this.symm
 have htop:∀ q (h1:q < tl.length) (h2:q < tops.length),ops[tl[q]]?=some tops[q]:=fun q h1 h2=>by
  have:=congrArg (fun x=>x[q]?) htops
  simpa [List.getElem?_eq_getElem h1,List.getElem?_eq_getElem h2] using this
 have hlen:∀ (l:List Oper) (T:List Held) (k:Nat) (F:Nat->Fact) (a:Act),wpGrowT P ops w S tl late (wpTail P S (Q .normal) tops) l T k F a->l.length<=T.length:=by
  intro l
  induction l with
  | nil=>intro _ _ _ _ _;exact Nat.zero_le _
  | cons o l ih =>
    intro T k F a h
    cases T with
    | nil=>cases h
    | cons hd T =>
      cases hd with
      | one c=>exact Nat.succ_le_succ (ih _ _ _ _ h.2)
      | fam β d val fact=>exact Nat.succ_le_succ (ih _ _ _ _ (h.2 d))
 have hn:=hlen _ _ _ _ _ h
 rw[Array.length_toList] at hn
 -- the second phase
 let M:(Nat->Value)->Array Bool->Act->World->Prop:=fun v listed a' w'=>∃ t a2,t<=tl.length∧(∀ q (hq:q < tl.length),listed.getD tl[q] false=decide (q < t))∧(∀ j,j < ops.size->j ∉ tl->j ∉ late->listed.getD j false=true) ∧
  AgreeM ops listed a2 a'∧a2.tmps.size=a.tmps.size∧(∀ j o x,j ∉ tl->ops[j]?=some o->o.dst=some x->a2.tmps[x]?=some (v j))∧(∀ x,(∀ (j:Nat) (o:Oper),ops[j]?=some o->o.dst≠some x)->a2.tmps[x]?=a.tmps[x]?)∧wpTail P S (Q .normal) (tops.drop t) a2 w'
 let J:Array Bool->Act->World->Prop:=fun listed a' w'=>listed.size=ops.size∧Closed ops listed∧∃ (v:Nat->Value) (G:Nat->Fact),(∀ j h,T[j]?=some h->SelAt h (v j) (G j)) ∧
  (((∀ j∈tl,listed.getD j false=false)∧Ext w w'∧(∀ j,listed.getD j false=true->(G j).holds w')∧Agree ops v listed a a')∨M v listed a' w')
 -- one operation of the tail
 have hstepM:∀ (v:Nat->Value) (G:Nat->Fact),(∀ j h,T[j]?=some h->SelAt h (v j) (G j))->∀ (i:Nat) (o:Oper) (listed:Array Bool) (a':Act) (w':World),listed.size=ops.size->ops[i]?=some o->listed.getD i true=false->(∀ j∈awaits ops i,listed.getD j false=true)->Closed ops listed->i∈tl->M v listed a' w' ->
  ∀ K:Act->World->Prop,(∀ a w,J (listed.setIfInBounds i true) a w->K a w)->Oper.wp P o a' w' K Q∧Region.wanted o (yielded ops a'.tmps)=true:=by
  intro v G hS i o listed a' w' hsz ho hun hall hcl hi ⟨t,a2,ht,hq,hhd,hA,hsz2,hv,hno,hw⟩ K hK
  refine⟨?_,by simp[Region.wanted,ok.bare _ hi _ ho]⟩
  obtain⟨q,hql,rfl⟩:=List.mem_iff_getElem.1 hi
  have hqt:t<=q:=by
   have:=hq q hql
   rw[getD_flip hun] at this
   simpa using this.symm
  have hq1:q=t:=by
   rcases Nat.eq_or_lt_of_le hqt with e|e
   ·exact e.symm
   ·exfalso
    have hc:=ok.chain (q - 1) (by omega)
    rw[show q - 1+1=q by omega,getD_mem hql,getD_mem (show q - 1 < tl.length by omega)] at hc
    have h1:=hall _ hc
    rw[hq (q - 1) (by omega)] at h1
    have:q - 1 < t:=by simpa using h1
    omega
  subst hq1
  have ho2:=htop q hql (by rw[htl];exact hql)
  obtain rfl:tops[q]'(by rw[htl];exact hql)=o:=Option.some.inj (ho2.symm.trans ho)
  rw[List.drop_eq_getElem_cons (by rw[htl];exact hql)] at hw
  have hlook:∀ x∈(tops[q]'(by rw[htl];exact hql)).looksAt ops,a'.tmps[x]?=a2.tmps[x]?:=fun x hx=>by
   rcases look_cases hB ho hx with ⟨j,o',hj,hd,haw,_⟩|hnw
   ·exact hA.has j o' x hj hd (hall j haw)
   ·exact hA.not x hnw
  obtain⟨he,_⟩:=exec_of_look hB ho hlook
  have hset:∀ (a2' a'':Act) (w'':World),AgreeM ops (listed.setIfInBounds tl[q] true) a2' a''->a2'.tmps.size=a.tmps.size->(∀ x,(tops[q]'(by rw[htl];exact hql)).dst≠some x->a2'.tmps[x]?=a2.tmps[x]?)->wpTail P S (Q .normal) (tops.drop (q+1)) a2' w''->J (listed.setIfInBounds tl[q] true) a'' w'':=by
   intro a2' a'' w'' hA' hz' hf hw'
   have hlt:tl[q] < listed.size:=by rw[hsz];exact ok.lt _ hi
   refine⟨by rw[Array.size_setIfInBounds];exact hsz,hcl.set hsz ho hall,v,G,hS,.inr ⟨q+1,a2',hql,fun q' hq'=>?_,fun j hj h1 h2=>?_,hA',hz',fun j o x hjt hjo hd=>?_,fun x hx=>?_,hw'⟩⟩
   ·by_cases e:q'=q
    ·subst e;rw[set_self hlt];simp
    ·have hne:tl[q]≠tl[q']:=fun e2=>by
      have hmono:∀ d q0 (h1:q0+d+1 < tl.length),tl[q0]'(by omega) < tl[q0+d+1]:=by
       intro d
       induction d with
       | zero =>
         intro q0 h1
         have:=ok.chain q0 h1
         rw[getD_mem h1,getD_mem (show q0 < tl.length by omega)] at this
         have h3:q0+0+1=q0+1:=rfl
         cases ho3:ops[tl[q0+1]]? with
         | none=>unfold awaits at this;rw[ho3] at this;cases this
         | some o3 =>
           obtain⟨e,he,hb,h4⟩:=(mem_awaits ho3).1 this
           have:=(hs _ o3 ho3).1 e he hb
           simp only[Nat.add_zero]
           omega
       | succ d ihd =>
         intro q0 h1
         have h2:=ihd q0 (by omega)
         have h1':q0+d+1+1 < tl.length:=by omega
         have:=ok.chain (q0+d+1) h1'
         rw[getD_mem h1',getD_mem (show q0+d+1 < tl.length by omega)] at this
         cases ho3:ops[tl[q0+d+1+1]]? with
         | none=>unfold awaits at this;rw[ho3] at this;cases this
         | some o3 =>
           obtain⟨e,he,hb,h4⟩:=(mem_awaits ho3).1 this
           have:=(hs _ o3 ho3).1 e he hb
           show tl[q0]'(by omega) < tl[q0+d+1+1]
           omega
      rcases Nat.lt_or_gt_of_ne e with h|h
      ·have:=hmono (q - q' - 1) q' (by omega)
       simp only[show q'+(q - q' - 1)+1=q by omega] at this
       omega
      ·have:=hmono (q' - q - 1) q (by omega)
       simp only[show q+(q' - q - 1)+1=q' by omega] at this
       omega
     rw[set_other hne,hq q' hq']
     simp only[decide_eq_decide]
     omega
   ·have hne:tl[q]≠j:=fun e=>h1 (e ▸ hi)
    rw[set_other hne];exact hhd j hj h1 h2
   ·rw[hf x (fun e=>?_)]
    ·exact hv j o x hjt hjo hd
    ·exact hjt (((hs _ _ ho).2.1 x e).2 j o hjo hd ▸ hi)
   ·rw[hf x (hx _ _ ho)];exact hno x hx
  refine Oper.wp_to he (fun u w'' hk=>hK _ _ (hset _ _ _ ?_ ?_ ?_ hk)) (fun d w'' hk=>hK _ _ (hset _ _ _ ?_ ?_ ?_ hk)) (fun _ _ h=>h.elim) (fun ⟨_,_,h⟩=>h.elim) hw.2
  ·refine hA.next hB hsz ho hsz2 u ?_ (put_size _ _ _) (put_size _ _ _) (fun x hx=>?_) (fun x hx=>⟨put_far _ _ _ _ hx,put_far _ _ _ _ hx⟩)
   ·rw[put_defers',put_defers'];exact hA.defs
   ·have hlt:=((hs _ _ ho).2.1 x hx).1
    rw[hx,put_at _ _ _ (by rw[hA.size,hsz2];exact hlt),put_at _ _ _ (by rw[hsz2];exact hlt)]
  ·rw[put_size];exact hsz2
  ·exact fun x hx=>put_far _ _ _ _ hx
  ·refine hA.next hB hsz ho hsz2 undef ?_ (put_size _ _ _) (put_size _ _ _) (fun x hx=>?_) (fun x hx=>⟨put_far _ _ _ _ hx,put_far _ _ _ _ hx⟩)
   ·rw[put_defers',put_defers'];simp only[hA.defs]
   ·have hlt:=((hs _ _ ho).2.1 x hx).1
    rw[hx,put_at _ _ _ (by show x < a'.tmps.size;rw[hA.size,hsz2];exact hlt),put_at _ _ _ (by show x < a2.tmps.size;rw[hsz2];exact hlt)]
  ·rw[put_size];exact hsz2
  ·exact fun x hx=>put_far _ _ _ _ hx
 have hun_ne:∀ {listed:Array Bool} {i j:Nat},listed.getD i true=false->listed.getD j false=true->i≠j:=fun hun hj e=>by
  subst e
  rw[getD_flip hun] at hj;cases hj
 have hset:∀ {listed:Array Bool} {i j:Nat},(listed.setIfInBounds i true).getD j false=true->j≠i->listed.getD j false=true:=fun hj hne=>by
  rwa [set_other (fun e=>hne e.symm)] at hj
 refine wp_region_inv hm J ?_ ?_ ?_
 ·refine⟨by simp,fun j hj=>?_,fun j=>match T[j]? with|some (.one c)=>c|some (.fam _ d val _)=>val d|none=>undef,fun j=>match T[j]? with|some (.fam _ d _ fact)=>fact d|_=>Fact.no,fun j h hj=>?_,.inl ⟨fun j _=>getD_replicate_false _ _,(Ext.refl w).drew,fun j hj=>?_,rfl,rfl,fun j o x hj hd hl=>?_,fun x _=>rfl⟩⟩
  ·rw[getD_replicate_false] at hj;cases hj
  ·simp only[hj]
   cases h with
   | one c=>exact⟨rfl,rfl⟩
   | fam β d val fact=>exact⟨d,rfl,rfl⟩
  ·rw[getD_replicate_false] at hj;cases hj
  ·rw[getD_replicate_false] at hl;cases hl
 ·intro i o listed a' w' hsz ho hun hall hJ K hK
  obtain⟨_,hcl,v,G,hS,hJ⟩:=hJ
  have hallj:∀ j∈awaits ops i,listed.getD j false=true:=fun j hj=>by
   obtain⟨e,he,hb,rfl⟩:=(mem_awaits ho).1 hj
   exact hall e he hb
  have hszs:(listed.setIfInBounds i true).size=ops.size:=by rw[Array.size_setIfInBounds];exact hsz
  have hcls:=hcl.set hsz ho hallj
  have hilt:i < listed.size:=getD_pos hun
  obtain⟨hd,hT,hob⟩:=(wpGrowT_at ops.toList T 0 _ a v G (fun j=>by simp) (fun j h hj=>by rw[Nat.zero_add];exact hS j h hj) h).1 i o (by rw[Array.getElem?_toList];exact ho)
  rw[Nat.zero_add] at hob
  by_cases hi:i∈tl
  ·-- the tail
   have hM:M v listed a' w':=by
    rcases hJ with ⟨hnone,hx,hG,hA⟩|hM
    ·have hi0:i=tl.getD 0 0:=by
      obtain⟨q,hql,rfl⟩:=List.mem_iff_getElem.1 hi
      cases q with
      | zero=>rw[getD_mem hql]
      | succ q =>
        have hc:=ok.chain q hql
        rw[getD_mem hql,getD_mem (show q < tl.length by omega)] at hc
        have:=hallj _ hc
        rw[hnone _ (List.getElem_mem _)] at this
        cases this
     subst hi0
     have hhd:=ok.reach listed hcl hallj
     refine⟨0,lexAct ops.toList v 0 a,Nat.zero_le _,fun q hq=>by rw[hnone _ (List.getElem_mem _)];simp,hhd,?_,(lex_size _ _ _ _).1,fun j o' x hjt hj hd'=>?_,fun x hx=>?_,?_⟩
     ·have hfull:ops.toList.take ops.size=ops.toList:=List.take_of_length_le (by simp)
      refine⟨hA.size.trans (lex_size _ _ _ _).1.symm,hA.defs.trans (lex_size _ _ _ _).2.symm,fun j o' x hj hd' hl=>?_,fun x hx=>?_⟩
      ·have:=lex_val hB rfl v (i:=ops.size) hj hd' (Array.getElem?_eq_some_iff.1 hj).1
       rw[hfull] at this
       rw[hA.has j o' x hj hd' hl,this]
      ·have:=lex_unw (a:=a) v (i:=ops.size) hx
       rw[hfull] at this
       rw[hA.not x (fun j o' hj hd'=>absurd hd' (hx j o' hj)),this]
     ·have:=lex_val hB rfl v (i:=ops.size) hj hd' (Array.getElem?_eq_some_iff.1 hj).1
      rwa [List.take_of_length_le (by simp)] at this
     ·have:=lex_unw (a:=a) v (i:=ops.size) hx
      rwa [List.take_of_length_le (by simp)] at this
     ·have hfin:=(wpGrowT_at ops.toList T 0 _ a v G (fun j=>by simp) (fun j h hj=>by rw[Nat.zero_add];exact hS j h hj) h).2 w' hx (fun j hj=>by
       rw[Nat.zero_add,Array.length_toList] at hj
       by_cases hl:listed.getD j false=true
       ·exact hG j hl
       ·-- one of the tail,or late: no fact
        have hTj:j < T.length:=Nat.lt_of_lt_of_le hj hn
        have hob':=(wpGrowT_at ops.toList T 0 _ a v G (fun j=>by simp) (fun j h hj=>by rw[Nat.zero_add];exact hS j h hj) h).1 j ops[j] (by rw[Array.getElem?_toList,Array.getElem?_eq_getElem hj])
        obtain⟨h',hT',hob'⟩:=hob'
        have hsel:=hS j _ hT'
        cases h' with
        | one c=>rw[hsel.2];trivial
        | fam β d val fact =>
          exfalso
          obtain⟨k1,k2,_⟩:=hob'
          rw[Nat.zero_add] at k1 k2
          exact hl (hhd j hj (by simpa using k1) (by simpa using k2)))
      exact hfin
    ·exact hM
   obtain⟨h1,h2⟩:=hstepM v G hS i o listed a' w' hsz ho hun hallj hcl hi hM K hK
   rw[if_pos h2];exact h1
  ·rcases hJ with ⟨hnone,hx,hG,hA⟩|⟨t,a2,ht,hq,hhd,hA,hsz2,hv,hno,hw⟩
   ·-- the head,ahead of the tail
    obtain⟨ha,hq⟩:=exec_same hB hA ho hall
    have hnone':∀ j∈tl,(listed.setIfInBounds i true).getD j false=false:=fun j hj=>by
     rw[set_other (fun e=>hi (by rw[e];exact hj))];exact hnone j hj
    have hcls':Cls w o (fun i'=>if i' < i then G i' else Fact.no) w':=⟨hx,fun j hj=>by
     unfold waitsFor at hj
     obtain⟨e,he,hb⟩:=List.any_eq_true.1 hj
     have he:=Array.mem_toList_iff.1 he
     simp only[Bool.and_eq_true,beq_iff_eq] at hb
     obtain⟨hb1,rfl⟩:=hb
     have:=(hs i o ho).1 e he hb1
     simp only[this,if_true]
     exact hG _ (hall e he hb1)⟩
    have hti:tl.contains i=false:=by simpa using hi
    cases hd with
    | one c =>
      have hsel:=hS i _ hT
      have hJ':∀ w'',Ext w' w''->J (listed.setIfInBounds i true) (a'.put o.dst c) w'':=fun w'' hw=>by
       refine⟨hszs,hcls,v,G,hS,.inl ⟨hnone',hx.trans hw,fun j hj=>?_,?_⟩⟩
       ·by_cases hji:j=i
        ·subst hji;rw[hsel.2];trivial
        ·exact (G j).stays _ _ (hG j (hset hj hji)) hw
       ·have:=hA.next hB hsz ho (v':=v) (fun _ _=>rfl)
        rwa [hsel.1] at this
      have hob1:(if late.contains i=true then LateAt P ops w S (fun i'=>if i' < i then G i' else Fact.no) o (lexAct (ops.toList.take i) v 0 a) c else OneAt P ops w (fun i'=>if i' < i then G i' else Fact.no) o (lexAct (ops.toList.take i) v 0 a) c):=by
       have:=hob
       unfold SpecT at this
       rwa [hti] at this
      by_cases hlt:late.contains i=true
      ·rw[if_pos hlt] at hob1
       unfold LateAt at hob1
       rw[<-hq] at hob1
       split
       ·rename_i hw
        rw[if_pos hw] at hob1
        have h3:=hob1 w' (.inl hcls')
        rw[<-ha] at h3
        unfold Oper.wp
        rw[h3]
        exact hK _ _ (hJ' _ (Ext.refl _))
       ·rename_i hw
        rw[if_neg hw] at hob1
        rw[<-hob1]
        exact hK _ _ (hJ' _ (Ext.refl _))
      ·rw[if_neg hlt] at hob1
       unfold OneAt at hob1
       rw[<-hq] at hob1
       split
       ·rename_i hw
        rw[if_pos hw] at hob1
        have h3:=hob1 w' hcls'
        unfold Oper.quietAt at h3
        rw[<-ha] at h3
        unfold Oper.wp
        generalize (execOp a'.eval o).run P w'=r at *
        cases r with
        | ok n w2 =>
          cases n<;>simp only[Oper.quietUpon] at h3<;>simp only[Oper.upon]
          case value u =>
           obtain⟨e1,e2⟩:=h3
           rw[e1,e2]
           exact hK _ _ (hJ' _ (Ext.refl _))
          case skip =>
           obtain⟨e1,e2⟩:=h3
           rw[e1,<-e2]
           exact hK _ _ (hJ' _ (Ext.refl _))
          case enter f args =>
           obtain⟨e1,hc⟩:=h3
           rw[e1]
           exact hc.mono fun e w'' ⟨he,hw''⟩=>by subst he;exact hK _ _ (hJ' _ hw'')
        | halt x w2=>simp only[Oper.quietUpon] at h3
       ·rename_i hw
        rw[if_neg hw] at hob1
        rw[<-hob1]
        exact hK _ _ (hJ' _ (Ext.refl _))
    | fam β d val fact =>
      obtain⟨_,_,hfam⟩:=hob
      have hJ':∀ b w'',Ext w' w''->(fact b).holds w''->J (listed.setIfInBounds i true) (a'.put o.dst (val b)) w'':=fun b w'' hw hf=>by
       refine⟨hszs,hcls,fun j=>if j=i then val b else v j,fun j=>if j=i then fact b else G j,fun j h hj=>?_,.inl ⟨hnone',hx.trans hw,fun j hj=>?_,?_⟩⟩
       ·by_cases hji:j=i
        ·subst hji
         obtain rfl:=Option.some.inj (hT.symm.trans hj)
         simp only[if_true]
         exact⟨b,rfl,rfl⟩
        ·simp only[hji,if_false];exact hS j h hj
       ·by_cases hji:j=i
        ·subst hji;simp only[if_true];exact hf
        ·simp only[hji,if_false];exact (G j).stays _ _ (hG j (hset hj hji)) hw
       ·have:=hA.next hB hsz ho (v':=fun j=>if j=i then val b else v j) (fun j hne=>by simp only[hne,if_false])
        simpa using this
      obtain⟨hw1,hw2⟩:=hfam
      rw[if_pos (hq.trans hw1)]
      have h3:=hw2 w' hcls'
      rw[<-ha] at h3
      unfold Oper.wp
      generalize (execOp a'.eval o).run P w'=r at *
      cases r with
      | ok n w2 =>
        cases n<;>simp only[growUpon] at h3<;>simp only[Oper.upon]
        case value u =>
         obtain⟨e1,b,e2,e3⟩:=h3
         rw[e2]
         exact hK _ _ (hJ' b _ e1 e3)
        case enter f args =>
         obtain⟨e1,hc⟩:=h3
         rw[e1]
         exact hc.mono fun e w'' ⟨hw'',b,he,hf⟩=>by subst he;exact hK _ _ (hJ' b _ hw'' hf)
      | halt x w2=>simp only[growUpon] at h3
   ·-- late,behind the tail's beginning
    have hil:i∈late:=by
     rcases Classical.em (i∈late) with h1|h1
     ·exact h1
     ·have:=hhd i (Array.getElem?_eq_some_iff.1 ho).1 hi h1
      rw[getD_flip hun] at this;cases this
    have hti:tl.contains i=false:=by simpa using hi
    have hlc:late.contains i=true:=by simpa using hil
    have hlook:∀ x∈o.looksAt ops,a'.tmps[x]?=(lexAct (ops.toList.take i) v 0 a).tmps[x]?:=fun x hx=>by
     rcases look_cases hB ho hx with ⟨j,o',hj,hd',haw,hji⟩|hnw
     ·rw[hA.has j o' x hj hd' (hallj j haw),hv j o' x (ok.free i hi j haw) hj hd',lex_val hB rfl v hj hd' hji]
     ·rw[hA.not x hnw,hno x hnw,lex_unw v hnw]
    obtain⟨he,hqw⟩:=exec_of_look hB ho hlook
    cases hd with
    | fam β d val fact=>obtain⟨_,k2,_⟩:=hob;rw[hlc] at k2;cases k2
    | one c =>
      have hsel:=hS i _ hT
      have hob1:LateAt P ops w S (fun i'=>if i' < i then G i' else Fact.no) o (lexAct (ops.toList.take i) v 0 a) c:=by
       have:=hob
       unfold SpecT at this
       rw[hti,hlc] at this
       simpa using this
      unfold LateAt at hob1
      rw[<-hqw] at hob1
      have hJ':J (listed.setIfInBounds i true) (a'.put o.dst c) w':=by
       refine⟨hszs,hcls,v,G,hS,.inr ⟨t,a2,ht,fun q hql=>?_,fun j hj h1 h2=>?_,?_,hsz2,hv,hno,hw⟩⟩
       ·rw[set_other (fun e=>hi (by rw[e];exact List.getElem_mem _))];exact hq q hql
       ·by_cases e:i=j
        ·subst e;exact set_self hilt
        ·rw[set_other e];exact hhd j hj h1 h2
       ·refine hA.next hB hsz ho hsz2 c (by rw[put_defers'];exact hA.defs) rfl (put_size _ _ _) (fun x hx=>?_) (fun x hx=>⟨put_far _ _ _ _ hx,rfl⟩)
        have hlt:=((hs _ _ ho).2.1 x hx).1
        rw[hv i o x hi ho hx,hx,put_at _ _ _ (by rw[hA.size,hsz2];exact hlt),hsel.1]
      split
      ·rename_i hw'
       rw[if_pos hw'] at hob1
       have h3:=hob1 w' (.inr hw.holds)
       rw[<-he] at h3
       unfold Oper.wp
       rw[h3]
       exact hK _ _ hJ'
      ·rename_i hw'
       rw[if_neg hw'] at hob1
       rw[<-hob1]
       exact hK _ _ hJ'
 ·intro listed a' w' hsz hr hJ
  obtain⟨_,hcl,v,G,hS,hJ⟩:=hJ
  have hall:=all_listed hB hsz hr
  rcases hJ with ⟨hnone,_⟩|⟨t,a2,ht,hq,hhd,hA,hsz2,hv,hno,hw⟩
  ·have h0:tl[0]'ok.pos∈tl:=List.getElem_mem _
   have:=hall _ (ok.lt _ h0)
   rw[hnone _ h0] at this
   cases this
  ·have hte:t=tl.length:=by
    rcases Nat.lt_or_ge t tl.length with h1|h1
    ·have:=hq t h1
     rw[hall _ (ok.lt _ (List.getElem_mem _))] at this
     simp at this
    ·omega
   rw[List.drop_eq_nil_of_le (by rw[htl];omega)] at hw
   have he:a'=a2:=by
    have ht:a'.tmps=a2.tmps:=by
     apply Array.ext_getElem?
     intro x
     by_cases hw:∃ (j:Nat) (o':Oper),ops[j]?=some o'∧o'.dst=some x
     ·obtain⟨j,o',hj,hd⟩:=hw
      exact hA.has j o' x hj hd (hall j (Array.getElem?_eq_some_iff.1 hj).1)
     ·exact hA.not x fun j o' hj hd=>hw ⟨j,o',hj,hd⟩
    have hd:=hA.defs
    cases a';cases a2
    simp only at ht hd
    simp[ht,hd]
   rw[he]
   exact hw.2
section
variable {P:Program} {ops:Array Oper} {w0:World} {S:World->Prop} {Q:Act->World->Prop} {tl late:List Nat} {F:Nat->Fact} {o:Oper} {rest:List Oper} {T:List Held} {k:Nat} {a:Act}
theorem growT_nil (h:∀ w,Ext w0 w->(∀ j,(F j).holds w)->Q a w):wpGrowT P ops w0 S tl late Q [] [] k F a:=h
theorem growT_tail (ht:tl.contains k=true) (h:wpGrowT P ops w0 S tl late Q rest T (k+1) F (a.put o.dst undef)):wpGrowT P ops w0 S tl late Q (o::rest) (.one undef::T) k F a :=
 ⟨by unfold SpecT;dsimp only;rw[if_pos ht],h⟩
theorem growT_skip (hw:Region.wanted o (yielded ops a.tmps)=false) (h:wpGrowT P ops w0 S tl late Q rest T (k+1) F (a.put o.dst undef)):wpGrowT P ops w0 S tl late Q (o::rest) (.one undef::T) k F a:=by
 refine⟨?_,h⟩
 unfold SpecT LateAt OneAt
 dsimp only
 have hn:¬ Region.wanted o (yielded ops a.tmps)=true:=by rw[hw];exact Bool.false_ne_true
 split
 ·rfl
 ·split<;>simp
theorem growT_late {v:Value} (ht:tl.contains k=false) (hl:late.contains k=true) (hw:Region.wanted o (yielded ops a.tmps)=true) (hv:∀ w,Cls w0 o F w∨S w->(execOp a.eval o).run P w=.ok (.value v) w) (h:wpGrowT P ops w0 S tl late Q rest T (k+1) F (a.put o.dst v)):wpGrowT P ops w0 S tl late Q (o::rest) (.one v::T) k F a:=by
 refine⟨?_,h⟩
 unfold SpecT LateAt
 dsimp only
 rw[if_neg (by rw[ht];exact Bool.false_ne_true),if_pos hl,if_pos hw]
 exact hv
theorem growT_one {v:Value} (ht:tl.contains k=false) (hl:late.contains k=false) (hw:Region.wanted o (yielded ops a.tmps)=true) (hv:∀ w,Cls w0 o F w->o.quietAt P a (Ext w) w v) (h:wpGrowT P ops w0 S tl late Q rest T (k+1) F (a.put o.dst v)):wpGrowT P ops w0 S tl late Q (o::rest) (.one v::T) k F a:=by
 refine⟨?_,h⟩
 unfold SpecT OneAt
 dsimp only
 rw[if_neg (by rw[ht];exact Bool.false_ne_true),if_neg (by rw[hl];exact Bool.false_ne_true),if_pos hw]
 exact hv
theorem growT_fam {β:Type} {d:β} {val:β->Value} {fact:β->Fact} (ht:tl.contains k=false) (hl:late.contains k=false) (hw:Region.wanted o (yielded ops a.tmps)=true) (hv:∀ w,Cls w0 o F w->growUpon P o w val fact ((execOp a.eval o).run P w)) (h:∀ b,wpGrowT P ops w0 S tl late Q rest T (k+1) (setF F k (fact b)) (a.put o.dst (val b))) :
 wpGrowT P ops w0 S tl late Q (o::rest) (.fam β d val fact::T) k F a:=⟨⟨ht,hl,hw,hv⟩,h⟩
theorem growT_load (ht:tl.contains k=false) (hl:late.contains k=false) (hw:Region.wanted o (yielded ops a.tmps)=true) (ty:TypeId) (x:Operand) (ho:o.op=.load ty x) (p:Addr) (hx:a.eval x=.pointer (some p)) (v:Value) (hv:∀ w,Ext w0 w->(loadVar ty p).run P w=.ok v w)
 (h:wpGrowT P ops w0 S tl late Q rest T (k+1) F (a.put o.dst v)):wpGrowT P ops w0 S tl late Q (o::rest) (.one v::T) k F a :=
 growT_one ht hl hw (fun w hq=>by
  unfold Oper.quietAt execOp
  simp only[ho,hx,Instr.loadAt,Instr.sureAddr,Sem.run_bind,Sem.run_pure,Result.andThen_ok,hv w hq.ext]
  exact⟨rfl,rfl⟩) h
theorem growT_call {β:Type} {d:β} {val:β->Value} {fact:β->Fact} (ht:tl.contains k=false) (hl:late.contains k=false) (hw:Region.wanted o (yielded ops a.tmps)=true) {f:FuncId} {xs:Array Value} (he:∀ w,(execOp a.eval o).run P w=.ok (.enter f xs) w)
 (hv:∀ w,Cls w0 o F w->Calls P f xs w fun e w''=>Ext w w''∧∃ b,e=.returned (val b)∧(fact b).holds w'') (h:∀ b,wpGrowT P ops w0 S tl late Q rest T (k+1) (setF F k (fact b)) (a.put o.dst (val b))) :
 wpGrowT P ops w0 S tl late Q (o::rest) (.fam β d val fact::T) k F a :=
 growT_fam ht hl hw (fun w hq=>by rw[he w];exact⟨rfl,hv w hq⟩) h
def blkN (N:Nat) (t:TypeId) (cs:Array Value) (b:Nat):Fact:=⟨fun w=>Blk w b t cs∧N<=b,fun _ _ h hx=>⟨h.1.ext hx,h.2⟩⟩
theorem growT_new {n c:Nat} {t:TypeId} {cs:Array Value} (ht:tl.contains k=false) (hl:late.contains k=false) (hw:Region.wanted o (yielded ops a.tmps)=true) (hv:∀ w,(execOp a.eval o).run P w=.ok (.value (.slice (some ⟨w.heap.size,0,none⟩) n c)) (w.alloc (.cells cs t)))
 (h:∀ b,wpGrowT P ops w0 S tl late Q rest T (k+1) (setF F k (blkN w0.heap.size t cs b)) (a.put o.dst (.slice (some ⟨b,0,none⟩) n c))):wpGrowT P ops w0 S tl late Q (o::rest) (.fam Nat 0 (fun b=>.slice (some ⟨b,0,none⟩) n c) (blkN w0.heap.size t cs)::T) k F a :=
 growT_fam ht hl hw (fun w hq=>by rw[hv w];exact⟨(Ext.refl w).alloc _,w.heap.size,rfl,Blk.new w t cs,hq.ext.size⟩) h
def blkNF {β:Type} (N:Nat) (t:TypeId) (cs:β->Array Value) (fact:β->Fact) (q:Nat × β):Fact:=⟨fun w=>Blk w q.1 t (cs q.2)∧N<=q.1∧(fact q.2).holds w,fun _ _ h hx=>⟨h.1.ext hx,h.2.1,(fact q.2).stays _ _ h.2.2 hx⟩⟩
theorem growT_newF {β:Type} {d:β} {n c:Nat} {t:TypeId} {cs:β->Array Value} {fact:β->Fact} (b0:β) (ht:tl.contains k=false) (hl:late.contains k=false) (hw:Region.wanted o (yielded ops a.tmps)=true) (hv:∀ w,(execOp a.eval o).run P w=.ok (.value (.slice (some ⟨w.heap.size,0,none⟩) n c)) (w.alloc (.cells (cs b0) t)))
 (hf:∀ w,Cls w0 o F w->(fact b0).holds w) (h:∀ q:Nat × β,wpGrowT P ops w0 S tl late Q rest T (k+1) (setF F k (blkNF w0.heap.size t cs fact q)) (a.put o.dst (.slice (some ⟨q.1,0,none⟩) n c))):wpGrowT P ops w0 S tl late Q (o::rest) (.fam (Nat × β) (0,d) (fun q=>.slice (some ⟨q.1,0,none⟩) n c) (blkNF w0.heap.size t cs fact)::T) k F a :=
 growT_fam ht hl hw (fun w hq=>by
  rw[hv w]
  exact⟨(Ext.refl w).alloc _,(w.heap.size,b0),rfl,Blk.new w t _,hq.ext.size,(fact b0).stays _ _ (hf w hq) ((Ext.refl w).alloc _)⟩) h
end
end
section
open Go.RowKit
theorem allS_succ (p:Str->Bool) (xs:List ByteArray) (k:Nat) (h:k < xs.length) (h1:(xs.take k).all (fun x=>p (bs x))=true) (h2:p (bs xs[k])=true):(xs.take (k+1)).all (fun x=>p (bs x))=true:=by
 rw[List.take_succ_eq_append_getElem h,List.all_append,h1]
 simp[h2]
theorem allS_false (p:Str->Bool) (xs:List ByteArray) (k:Nat) (h:k < xs.length) (h2:p (bs xs[k])=false):(xs.map bs).all p=false:=by
 rw[List.all_eq_false]
 exact⟨bs xs[k],List.mem_map.2 ⟨xs[k],List.getElem_mem h,rfl⟩,by simp[h2]⟩
theorem allS_true (p:Str->Bool) (xs:List ByteArray) (h1:(xs.take xs.length).all (fun x=>p (bs x))=true):(xs.map bs).all p=true:=by
 rw[List.take_length] at h1
 rw[List.all_map];exact h1
theorem splitC_le (c:UInt8):∀ (l p:Str),p∈splitC c l->p.length<=l.length
 | [],p,h=>by simp[splitC] at h;simp[h]
 | x::r,p,h=>by
   unfold splitC at h
   by_cases hx:x=c
   ·rw[if_pos hx] at h
    rcases List.mem_cons.1 h with e|e
    ·simp[e]
    ·have:=splitC_le c r p e;simp;omega
   ·rw[if_neg hx] at h
    cases hs:splitC c r with
    | nil=>exact absurd hs (splitC_ne c r)
    | cons q t =>
      rw[hs] at h
      rcases List.mem_cons.1 h with e|e
      ·have:=splitC_le c r q (by rw[hs];simp)
       rw[e];simp;omega
      ·have:=splitC_le c r p (by rw[hs];simp[e]);simp;omega
theorem piece_le {c:UInt8} {s:ByteArray} {xs:List ByteArray} (h:xs.map bs=splitC c (bs s)) {k:Nat} (hk:k < xs.length):xs[k].size<=s.size:=by
 rw[<-bs_length,<-bs_length]
 exact splitC_le c _ _ (by rw[<-h];exact List.mem_map.2 ⟨_,List.getElem_mem hk,rfl⟩)
theorem splitC_length_le (c:UInt8):∀ l:Str,(splitC c l).length<=l.length+1
 | []=>by simp[splitC]
 | x::r=>by
   have:=splitC_length_le c r
   unfold splitC
   split
   ·simp;omega
   ·split<;>simp_all;omega
theorem pieces_le {c:UInt8} {s:ByteArray} {xs:List ByteArray} (h:xs.map bs=splitC c (bs s)):xs.length<=s.size+1:=by
 have h1:=splitC_length_le c (bs s)
 rw[<-h,List.length_map,bs_length] at h1
 exact h1
def pathL (l:Str):Bool:=(splitC 47 l).all partL&&decide (l.length<=200)
set_option maxHeartbeats 400000 in
theorem IsPath_any (s:ByteArray) (w:World) (hg:Good w) (hs:s.size<=2097152) :
 Calls Tryz.prog 20 #[.string s] w fun e w'=>e=.returned (.bool (pathL (bs s)))∧Ext w w':=by
 go_enter Tryz.func20,Tryz.ntmps20
 go_wp2_with fail
 refine (split_any 47 s _ hg hs).mono ?_
 rintro e w1 ⟨b,xs,rfl,hb0,hst,hxs,hx⟩
 have HXS:=Hy hxs
 have hcell:=hst.cell
 have HC:=Hy hcell
 clear hcell
 have hlen:=pieces_le hxs
 clear hxs
 go_wp2
 go_loop [8] (fun i=>∃ k:Nat,k<=xs.length∧i=.int .i64 k∧(xs.take k).all (fun x=>partL (bs x))=true) (fun i=>xs.length - (intOf i).toNat)
 case atStart=>exact⟨0,Nat.zero_le _,rfl,by simp⟩
 case round =>
  obtain⟨k,hk,rfl,hall⟩:=hrel
  have HALL:=Hy hall
  clear hall
  by_cases hlt:k < xs.length
  ·have hk1:=HC.out k hlt
   have hsz:=piece_le HXS.out hlt
   go_wp2_with fail
   refine (isPart_any xs[k] _ (by omega)).mono ?_
   rintro e w' ⟨rfl,rfl⟩
   cases hp:partL (bs xs[k])
   ·go_wp2
    go_ret
    refine⟨ret_bool ?_,hx⟩
    unfold pathL
    rw[<-HXS.out,allS_false partL xs k hlt hp]
    rfl
   ·go_wp2
    go_round
    case rel=>exact⟨k+1,by omega,by go_num,allS_succ _ _ _ hlt HALL.out hp⟩
    case measure=>simp[intOf];omega
  ·obtain rfl:k=xs.length:=by omega
   go_wp2
   go_ret
   refine⟨ret_bool ?_,hx⟩
   unfold pathL
   rw[<-HXS.out,allS_true partL xs HALL.out,bs_length]
   simp
   omega
def earlyWordL (l:Str):Bool:=eachL wordB l 10&&!(numeralL l&&(l.headD 0==48)&&(l != [48]))
def earlyL (l:Str):Bool:=(splitC 46 l).all earlyWordL&&decide (l.length<=40)
theorem cast_beq (a:UInt8) (n:Nat) (h:n < 256):(((a.toNat:Nat):Int)==(n:Int))=(a==UInt8.ofNat n):=by
 rw[Bool.eq_iff_iff,beq_iff_eq,beq_iff_eq]
 constructor
 ·intro e
  apply UInt8.toNat_inj.1
  rw[UInt8.toNat_ofNat']
  omega
 ·rintro rfl
  rw[UInt8.toNat_ofNat']
  omega
theorem ew_bad {x:ByteArray} {h0:0 < x.size} (hh:(bs x).headD 0=x[0]) (hn:numeralL (bs x)=true) (h1:(x[0].toNat:Int)=48) (h2:(!x.toList==[48])=true):earlyWordL (bs x)=false:=by
 have h3:x[0]=48:=UInt8.toNat_inj.1 (by show x[0].toNat=48;omega)
 rw[ByteArray.toList_eq] at h2
 have h4:(bs x != [48])=true:=h2
 rw[earlyWordL,hh,h3,hn,h4]
 simp
theorem ew_good1 {x:ByteArray} (hp:eachL wordB (bs x) 10=true) (h2:(!x.toList==[48])=false):earlyWordL (bs x)=true:=by
 rw[ByteArray.toList_eq] at h2
 have h4:(bs x != [48])=false:=h2
 rw[earlyWordL,hp,h4]
 simp
theorem ew_good2 {x:ByteArray} {h0:0 < x.size} (hp:eachL wordB (bs x) 10=true) (hh:(bs x).headD 0=x[0]) (h1:¬ (x[0].toNat:Int)=48):earlyWordL (bs x)=true:=by
 have h3:(x[0]==48)=false:=by
  rw[beq_eq_false_iff_ne]
  intro e
  rw[e] at h1
  exact h1 rfl
 rw[earlyWordL,hp,hh,h3]
 simp
set_option maxHeartbeats 1000000 in
theorem isEarly_any (s:ByteArray) (w:World) (hg:Good w) (hs:s.size<=2097152) :
 Calls Tryz.prog 75 #[.string s] w fun e w'=>e=.returned (.bool (earlyL (bs s)))∧Ext w w':=by
 go_enter Tryz.func75,Tryz.ntmps75
 go_wp2_with fail
 refine (split_any 46 s _ hg hs).mono ?_
 rintro e w1 ⟨b,xs,rfl,hb0,hst,hxs,hx⟩
 have HXS:=Hy hxs
 have hcell:=hst.cell
 have HC:=Hy hcell
 clear hcell
 have hlen:=pieces_le hxs
 clear hxs
 go_wp2
 go_loop [8] (fun i=>∃ k:Nat,k<=xs.length∧i=.int .i64 k∧(xs.take k).all (fun x=>earlyWordL (bs x))=true) (fun i=>xs.length - (intOf i).toNat)
 case atStart=>exact⟨0,Nat.zero_le _,rfl,by simp⟩
 case round =>
  obtain⟨k,hk,rfl,hall⟩:=hrel
  have HALL:=Hy hall
  clear hall
  by_cases hlt:k < xs.length
  ·have hk1:=HC.out k hlt
   have hsz:=piece_le HXS.out hlt
   have hne:earlyWordL (bs xs[k])=false->(xs.map bs).all earlyWordL=false:=allS_false earlyWordL xs k hlt
   have HNE:=Hy hne
   clear hne
   have hsu:=allS_succ earlyWordL xs k hlt HALL.out
   have HSU:=Hy hsu
   clear hsu
   generalize xs[k]=x at *
   go_wp2_with fail
   refine (each_list _ _ x 10 _ (by omega) isEarly1_pred).mono ?_
   rintro e w' ⟨rfl,rfl⟩
   cases hp:eachL wordB (bs x) 10
   ·go_wp2
    go_ret
    refine⟨ret_bool ?_,hx⟩
    unfold earlyL
    rw[<-HXS.out,HNE.out (by rw[earlyWordL,hp];rfl)]
    rfl
   ·have h0:=eachL_pos hp
    have hh:=head_bs x h0
    have HH:=Hy hh
    clear hh
    go_wp2_with fail
    refine (isNumeral_any x _ (by omega)).mono ?_
    rintro e w' ⟨rfl,rfl⟩
    cases hn:numeralL (bs x)
    ·go_wp2
     go_round
     case rel=>exact⟨k+1,by omega,by go_num,HSU.out (by rw[earlyWordL,hp,hn];rfl)⟩
     case measure=>simp[intOf];omega
    ·go_wp2
     ·go_ret
      refine⟨ret_bool ?_,hx⟩
      unfold earlyL
      rw[<-HXS.out,HNE.out (ew_bad HH.out hn (by assumption) (by assumption))]
      rfl
     ·go_round
      case rel=>exact⟨k+1,by omega,by go_num,HSU.out (ew_good1 hp (by assumption))⟩
      case measure=>simp[intOf];omega
     ·go_round
      case rel=>exact⟨k+1,by omega,by go_num,HSU.out (ew_good2 hp HH.out (by assumption))⟩
      case measure=>simp[intOf];omega
  ·obtain rfl:k=xs.length:=by omega
   go_wp2
   go_ret
   refine⟨ret_bool ?_,hx⟩
   unfold earlyL
   rw[<-HXS.out,allS_true earlyWordL xs HALL.out,bs_length]
   simp
   omega
end
section
open Go.RowKit
def inNum (n:Int):Bool:=decide (0<=n∧n<=999999)
def textL (ma mi pa:Int) (e:Str):Str:=Lib.itoa ma++[46]++Lib.itoa mi++[46]++Lib.itoa pa++(if e=[] then [] else 45::e)
end
section
open Go.RowKit
section
variable {P:Program} {ops:Array Oper} {md:Region.Mode} {C:World->Prop}
def anyT (P:Program) (md:Region.Mode) (ops:Array Oper) (C:World->Prop) (n:Nat) (L:Array Bool->Act->Prop):Nat->Array Bool->Act->Prop
 | 0,listed,a=>L listed a
 | f+1,listed,a=>Region.ready md ops listed≠[]∧∀ i∈Region.ready md ops listed,i < n∧qOp P ops C i (anyT P md ops C n L f (listed.setIfInBounds i true)) a
theorem wpAny_of_anyT {n g:Nat} {L:Array Bool->Act->Prop} {Q:Exit->Act->World->Prop} (hL:∀ listed a w,C w->L listed a->wpAny P md ops Q g listed a w) :
 ∀ (f:Nat) (listed:Array Bool) (a:Act) (w:World),C w->anyT P md ops C n L f listed a->wpAny P md ops Q (f+g) listed a w:=by
 intro f
 induction f with
 | zero=>intro listed a w hw h;rw[Nat.zero_add];exact hL _ _ _ hw h
 | succ f ih =>
   intro listed a w hw h
   rw[show f+1+g=(f+g)+1 by omega]
   exact⟨fun h0=>absurd h0 h.1,fun i hi=>wpOp_of_qOp hw (fun a' w' hw' h'=>ih _ a' w' hw' h') (h.2 i hi).2⟩
theorem anyT_first {n i:Nat} {oi:Oper} {v:Value} {L:Array Bool->Act->Prop} (hi:ops[i]?=some oi) (hsel:∀ (j:Nat) (o:Oper) cs b,ops[j]?=some o->o.op≠.select cs b)
 (hs:Region.sinkB md ops n=true) (hc:Region.chainB md ops n=true) (hn:n < ops.size) (hin:i < n) (hdone:∀ listed a,L listed a->∀ j∈Region.ready md ops listed,n<=j) :
 ∀ (f:Nat) (listed:Array Bool) (a:Act),HeadInv md ops n listed ->
  (∀ j oj,ops[j]?=some oj->j≠i->listed.getD j true=false->(∀ e∈oj.after,Region.binds md e=true->e.on≠i)->oi.apart ops oj=true) ->
  i∈Region.ready md ops listed->YieldsIn P ops C oi v a ->
  anyT P md ops C n L f (listed.setIfInBounds i true) (a.put oi.dst v)->anyT P md ops C n L (f+1) listed a:=by
 intro f
 induction f with
 | zero =>
   intro listed a inv _ hr hy H
   refine⟨(fun h=>by rw[h] at hr;cases hr),fun j hj=>?_⟩
   have hjn:j < n:=Nat.lt_of_not_le fun h=>tail_waits hs hc hn inv _ i rfl hin (mem_ready.1 hr).1 j h hj
   refine⟨hjn,?_⟩
   rcases Nat.decEq j i with hji|hji
   ·have:=hdone _ _ H j (ready_mono hj hji);omega
   ·subst hji;exact hy.qOp hi H
 | succ f ih =>
   intro listed a inv hfree hr hy H
   have hun:=(mem_ready.1 hr).1
   refine⟨(fun h=>by rw[h] at hr;cases hr),fun j hj=>?_⟩
   have hjn:j < n:=Nat.lt_of_not_le fun h=>tail_waits hs hc hn inv _ i rfl hin hun j h hj
   refine⟨hjn,?_⟩
   rcases Nat.decEq j i with hji|hji
   ·have h1:=(H.2 j (ready_mono hj hji)).2
    obtain⟨hjun,oj,hoj,hall⟩:=mem_ready.1 hj
    have hnot:∀ e∈oj.after,Region.binds md e=true->e.on≠i:=fun e he hb heq=>by
     have h3:=hall e he hb
     rw[heq,getD_both hun] at h3
     cases h3
    have h2:=qOp_put hoj (hfree j oj hoj hji hjun hnot) (fun cs b=>hsel i oi cs b hi) (fun cs b=>hsel j oj cs b hoj) hy h1
    refine qOp_mono (fun a' h3=>ih (listed.setIfInBounds j true) a' (inv.set hj hjn) (fun k ok hk hki hku hno=>hfree k ok hk hki ?_ hno) (ready_mono hr (Ne.symm hji)) h3.1 ?_) h2
    ·rcases Nat.decEq j k with hjk|hjk
     ·rw[getD_set_ne true hjk] at hku;exact hku
     ·subst hjk;exact hjun
    ·rw[Array.setIfInBounds_comm _ _ hji];exact h3.2
   ·subst hji;exact hy.qOp hi H
theorem anyT_lex {n g:Nat} {Lq:Act->Prop} (hsel:Region.noSelect ops=true) (hs:Region.sinkB md ops n=true) (hc:Region.chainB md ops n=true) (hn:n < ops.size) :
 ∀ (l:List Oper) (k:Nat) (listed:Array Bool) (a:Act),(∀ j,j < l.length->l[j]?=ops[k+j]?)->k+l.length=n->HeadInv md ops n listed ->
  Region.lexHead md ops g l.length k listed=true->wpQuiet P ops C Lq l a ->
  anyT P md ops C n (fun listed' a'=>Region.seqB md ops g n listed'=true∧Lq a') l.length listed a:=by
 intro l
 induction l with
 | nil =>
   intro k listed a _ hk _ hB h
   obtain rfl:k=n:=by simpa using hk
   exact⟨by simpa [Region.lexHead] using hB,h⟩
 | cons o l ih =>
   intro k listed a hl hk inv hB h
   have h0:ops[k]?=some o:=by simpa using (hl 0 (by simp)).symm
   simp only[List.length_cons,Region.lexHead,Bool.and_eq_true] at hB hk
   obtain⟨⟨hr,hf⟩,hB'⟩:=hB
   have hr':k∈Region.ready md ops listed:=by simpa using hr
   have hst:qOp P ops C k (wpQuiet P ops C Lq l) a:=by unfold qOp;simp only[h0];exact h
   obtain⟨v,hy,hK⟩:=yieldsIn_of_qOp h0 hst
   exact anyT_first h0 (Region.noSelect_spec hsel) hs hc hn (by omega) (fun listed' a' hL=>seqB_ready hL.1) l.length listed a inv (Region.free_spec h0 hf) hr' hy
    (ih (k+1) _ _ (fun j hj=>by have:=hl (j+1) (by simp;omega);simpa [Nat.add_assoc,Nat.add_comm 1 j] using this) (by omega) (inv.set hr' (by omega)) hB' hK)
theorem wp_region_tail {id:Nat} {Q:Exit->Act->World->Prop} {a:Act} {w:World} {l:List Oper} (n:Nat) (hm:P.follows .mixedOrders=true) (hB:Region.lexTailB .any l.toArray n=true) (hC:C { w with drawn:=w.drawn+1 })
 (h:wpQuiet P l.toArray C (fun a'=>∀ w',C w'->wpList P l.toArray Q (l.drop n) a' w') (l.take n) a):(Code.region id l.toArray true).wp P Q a w:=by
 simp only[Region.lexTailB,Bool.and_eq_true,decide_eq_true_eq] at hB
 obtain⟨⟨⟨⟨hsel,hn⟩,hs⟩,hc⟩,hlex⟩:=hB
 have hn':n < l.length:=by simpa using hn
 have htl:(l.take n).length=n:=by simp;omega
 have inv0:HeadInv .any l.toArray n (Array.replicate l.toArray.size false) :=
  ⟨by simp,(fun j oj _ hl=>by rw[getD_replicate_false] at hl;cases hl),fun t _ ht=>getD_in (by simpa using ht) (getD_replicate_false _ _)⟩
 have H:=anyT_lex (md:=.any) (C:=C) (g:=l.toArray.size - n) hsel hs hc hn (l.take n) 0 _ a (fun j hj=>by
  rw[htl] at hj
  simp[hj]) (by simpa using htl) inv0 (by rw[htl];exact hlex) h
 refine wp_region_any hm ?_
 have H2:=wpAny_of_anyT (Q:=Q) (g:=l.toArray.size - n) (fun listed a' w' hw' hL=>by
  have H3:=wpAny_of_seq (md:=.any) (Q':=Q) (l.drop n) n listed a' w' (fun j=>by simp[List.getElem?_drop]) (by simpa using hL.1) (hL.2 w' hw')
  simpa using H3) _ _ _ _ hC H
 rw[htl,show n+(l.toArray.size - n)=l.toArray.size by omega] at H2
 exact H2
theorem wp_region_ext_tail {id:Nat} {Q:Exit->Act->World->Prop} {a:Act} {w:World} {l:List Oper} (n:Nat) (hm:P.follows .mixedOrders=true) (hB:Region.lexTailB .any l.toArray n=true)
 (h:wpQuiet P l.toArray (Ext w) (fun a'=>∀ w',Ext w w'->wpList P l.toArray Q (l.drop n) a' w') (l.take n) a):(Code.region id l.toArray true).wp P Q a w :=
 wp_region_tail (C:=Ext w) n hm hB ((Ext.refl w).drewN 1) h
end
end
section
def decVal (l:Str):Nat:=l.foldl (fun a c=>a * 10+(c.toNat - 48)) 0
theorem foldl_dec (l:Str):∀ a:Nat,l.foldl (fun a c=>a * 10+(c.toNat - 48)) a=a * 10 ^ l.length+decVal l:=by
 induction l with
 | nil=>intro a;simp[decVal]
 | cons c l ih =>
   intro a
   have h1:=ih (a * 10+(c.toNat - 48))
   have h2:=ih (0 * 10+(c.toNat - 48))
   simp only[List.foldl_cons,List.length_cons,decVal] at h1 h2 ⊢
   rw[h1,h2,Nat.pow_succ,Nat.zero_mul,Nat.zero_add,Nat.add_mul,Nat.mul_assoc,Nat.mul_comm 10,Nat.add_assoc]
theorem decVal_cons (c:UInt8) (l:Str):decVal (c::l)=(c.toNat - 48) * 10 ^ l.length+decVal l:=by
 have:=foldl_dec l (0 * 10+(c.toNat - 48))
 simp only[Nat.zero_mul,Nat.zero_add] at this
 rw[<-this]
 simp[decVal]
theorem digit_bounds {c:UInt8} (h:digitB c=true):48<=c.toNat∧c.toNat<=57:=by simpa [digitB] using h
theorem decVal_lt:∀ l:Str,l.all digitB=true->decVal l < 10 ^ l.length
 | [],_=>by simp[decVal]
 | c::l,h=>by
   simp only[List.all_cons,Bool.and_eq_true] at h
   have h1:=decVal_lt l h.2
   have h2:=digit_bounds h.1
   rw[decVal_cons,List.length_cons,Nat.pow_succ]
   have:(c.toNat - 48) * 10 ^ l.length<=9 * 10 ^ l.length:=Nat.mul_le_mul_right _ (by omega)
   omega
theorem parse_digits:∀ (l:Str) (k acc:Nat),l.all digitB=true->acc < 10 ^ k->k+l.length<=18->Lib.parseUint10 acc l=.ok (acc * 10 ^ l.length+decVal l)
 | [],_,acc,_,_,_=>by simp[Lib.parseUint10,decVal]
 | c::l,k,acc,h,hk,hl=>by
   simp only[List.all_cons,Bool.and_eq_true] at h
   have h2:=digit_bounds h.1
   simp only[List.length_cons] at hl
   have hp:(10:Nat) ^ k<=10 ^ 17:=Nat.pow_le_pow_right (by decide) (by omega)
   have hp2:(10:Nat) ^ 17=100000000000000000:=by decide
   have hs:acc * 10+(c.toNat - 48) < 10 ^ (k+1):=by rw[Nat.pow_succ];omega
   unfold Lib.parseUint10
   rw[if_pos h2,if_neg (by omega),if_neg (by omega),parse_digits l (k+1) _ h.2 hs (by omega),decVal_cons,List.length_cons,Nat.pow_succ]
   rw[Nat.add_mul,Nat.mul_assoc,Nat.mul_comm 10,Nat.add_assoc]
theorem atoi_digits (l:Str) (h:l.all digitB=true) (h0:0 < l.length) (hl:l.length<=18):Lib.atoiAll l=.ok (decVal l):=by
 cases l with
 | nil=>simp at h0
 | cons c r =>
   have hc:digitB c=true:=by simp only[List.all_cons,Bool.and_eq_true] at h;exact h.1
   have h2:=digit_bounds hc
   have h3:=parse_digits (c::r) 0 0 h (by decide) (by omega)
   have h4:=decVal_lt (c::r) h
   have h5:(10:Nat) ^ (c::r).length<=10 ^ 18:=Nat.pow_le_pow_right (by decide) hl
   have h6:(10:Nat) ^ 18=1000000000000000000:=by decide
   rw[Nat.zero_mul,Nat.zero_add] at h3
   unfold Lib.atoiAll
   simp only[Lib.parseMag]
   have e1:¬ (c.toNat=43∨c.toNat=45):=by omega
   have e2:¬ c.toNat=45:=by omega
   rw[if_neg e1,if_neg (by simp),h3]
   simp only[e2,not_false_eq_true,true_and,false_and,if_false]
   rw[if_neg (by omega)]
end
section
def cmpWordL (a b:Str):Int :=
 if (numeralL a&&numeralL b)=true then (if a.length=b.length then Lib.compareBytes a b else Lib.compareInt a.length b.length)
 else if numeralL a=true then -1 else if numeralL b=true then 1 else Lib.compareBytes a b
def cmpWordsL (f:Str->Str->Int):List Str->List Str->Int
 | x::xs,y::ys=>if f x y=0 then cmpWordsL f xs ys else f x y
 | xs,ys=>Lib.compareInt xs.length ys.length
theorem compareInt_succ (a b:Nat):Lib.compareInt ((a+1:Nat):Int) ((b+1:Nat):Int)=Lib.compareInt a b:=by
 unfold Lib.compareInt
 by_cases h1:(a:Int) < b
 ·rw[if_pos h1,if_pos (by omega)]
 ·rw[if_neg h1,if_neg (by omega)]
  by_cases h2:(a:Int) > b
  ·rw[if_pos h2,if_pos (by omega)]
  ·rw[if_neg h2,if_neg (by omega)]
theorem cmpWords_end (f:Str->Str->Int):∀ (xs ys:List Str),(∀ j (h1:j < xs.length) (h2:j < ys.length),f xs[j] ys[j]=0)->cmpWordsL f xs ys=Lib.compareInt xs.length ys.length
 | [],ys,_=>by cases ys<;>rfl
 | x::xs,[],_=>rfl
 | x::xs,y::ys,h=>by
   have h0:f x y=0:=h 0 (by simp) (by simp)
   unfold cmpWordsL
   rw[if_pos h0,cmpWords_end f xs ys (fun j h1 h2=>h (j+1) (by simpa using h1) (by simpa using h2))]
   simp only[List.length_cons]
   rw[compareInt_succ]
theorem cmpWords_at (f:Str->Str->Int):∀ (xs ys:List Str) (k:Nat) (h1:k < xs.length) (h2:k < ys.length),(∀ j (hj:j < k),f xs[j] ys[j]=0)->f xs[k] ys[k]≠0->cmpWordsL f xs ys=f xs[k] ys[k]
 | x::xs,y::ys,0,_,_,_,h=>by unfold cmpWordsL;rw[if_neg (by simpa using h)];rfl
 | x::xs,y::ys,k+1,h1,h2,h0,h=>by
   have hz:f x y=0:=h0 0 (by omega)
   unfold cmpWordsL
   rw[if_pos hz]
   exact cmpWords_at f xs ys k (by simpa using h1) (by simpa using h2) (fun j hj=>h0 (j+1) (by omega)) (by simpa using h)
def cmpEarlyL (a b:Str):Int :=
 if a=b then 0 else if a=[] then 1 else if b=[] then -1 else cmpWordsL cmpWordL (splitC 46 a) (splitC 46 b)
def orderL (a1 a2 a3:Int) (a:Str) (b1 b2 b3:Int) (b:Str):Int:=firstI [Lib.compareInt a1 b1,Lib.compareInt a2 b2,Lib.compareInt a3 b3,cmpEarlyL a b]
end
section
end
section
open Go.ChangeShapes Go.WideShapes Go.ChangeAt Go.RowKit Go.WideElems
theorem own:ownKnob Tryz.prog.godebug=none:=by kernel_rfl
theorem laidOut:laidOutB Tryz.prog=true:=by kernel_rfl
theorem stays {H:Type} {enc:TypeId × Value->H} {W W':World} {sp:Nat->Bool}:∀ (ts:List TypeId) (vs:List Value) (ds:List (DataW H)) (ps:List MemPlace),
 (∀ t∈ts,Tryz.prog.readableRec t=true∧t < Tryz.prog.types.size)->DataW.TrodAll enc Tryz.prog W 0 (fun _=>true) true ts vs ds ps->(∀ p∈ps,W.sameAt W' p)->(∀ p∈ps,sp p.block=true) ->
 DataW.TrodAll enc Tryz.prog W' 0 sp true ts vs ds ps
 | [],vs,ds,ps,_,h,_,_=>by
   obtain⟨rfl,rfl,rfl⟩:=trodAll_nil h
   exact trodAll_mk0
 | t::ts,vs,ds,ps,hr,h,hs,hp=>by
   obtain⟨v0,vs0,d0,ds0,p0,q0,rfl,rfl,rfl,h0,r0⟩:=trodAll_cons h
   exact trodAll_cons_mk (Trod_stays laidOut (hr t (by simp)).1 (hr t (by simp)).2 h0 (fun p hm=>hs p (List.mem_append_left _ hm)) (fun p hm=>hp p (List.mem_append_left _ hm)))
    (stays ts vs0 ds0 q0 (fun t ht=>hr t (by simp[ht])) r0 (fun p hm=>hs p (List.mem_append_right _ hm)) (fun p hm=>hp p (List.mem_append_right _ hm)))
set_option maxRecDepth 100000 in
theorem post_true {H:Type} {enc:TypeId × Value->H} {f:Func} {s:ChangeSpec} {apart fresh handsOn again:Bool} {W W':World} {args:Array Value} {ds gs:List (DataW H)} {before:List MemPlace}
 (hW:DataW.Whole enc Tryz.prog f.params.toList s.vars apart W args.toList ds gs before) (hvars:s.vars=[]) (hrt:f.resultTypes=#[4])
 (hr:∀ t∈f.params.toList,Tryz.prog.readableRec t=true∧t < Tryz.prog.types.size)
 (hres:(s.fn H (ds++gs)).results=[.lit (.bool true)]) (hargs:(s.fn H (ds++gs)).args=ds) (hv:(s.fn H (ds++gs)).vars=[]) (hb:Ext W W') :
 s.post enc Tryz.prog f apart fresh handsOn again W args (.bool true) W':=by
 have hlt:∀ p∈before,p.block < W.heap.size:=fun p hp=>hW.lt p hp
 have hW':=hW
 obtain⟨p,q,hA,hV,rfl,hz,hn⟩:=hW'
 rw[hvars] at hV
 obtain⟨rfl,rfl⟩:=trodVars_none hV
 have hsame:∀ x∈p,W.sameAt W' x:=fun x hx=>Below.same hb (hlt x (by simp[hx]))
 have hT:∀ sp:Nat->Bool,(∀ x∈p++[],sp x.block=true)->DataW.TrodAll enc Tryz.prog W' 0 sp true f.params.toList args.toList (s.fn H (ds++[])).args p:=fun sp hs=>by
  rw[hargs]
  exact stays _ _ _ _ hr hA hsame (fun x hx=>hs x (by simp[hx]))
 have hR:∀ (b:Nat) (sp:Nat->Bool) (hd:Bool),DataW.TrodAll enc Tryz.prog W' b sp hd f.resultTypes.toList ((Value.bool true).resultList f.resultTypes.size) (s.fn H (ds++[])).results []:=fun b sp hd=>by
  rw[hres,hrt]
  exact trodAll_mk1 (shut_bool Tryz.underlying4 true)
 have hVV:∀ sp:Nat->Bool,DataW.TrodVars enc Tryz.prog W' sp s.vars (s.fn H (ds++[])).vars []:=fun sp=>by
  rw[hvars,hv]
  exact rfl
 refine⟨ds,[],p++[],[],p,[],hW,hR _ _ _,hT _ (fun x hx=>by simpa using hlt x hx),hVV _,World.keptBut_mono (fun x hx=>⟨hx,.inr (by simpa using hx)⟩) (Below.frame hb (·∈p++[])),fun _=>?_⟩
 refine⟨?_,_,_,([]++p)++[],⟨[]++p,[],trodAll_append (hT _ (fun _ _=>rfl)) (hR _ _ _),hVV _,rfl,?_,?_⟩,?_⟩
 ·intro j t r h1 h2
  rw[hrt] at h1 h2
  match j with
  | 0 =>
    obtain rfl:4=t:=by simpa using h1
    obtain rfl:Value.bool true=r:=by simpa [Value.resultList] using h2
    exact okWide_bool_mk Tryz.underlying4 true
  | j+1=>simp at h1
 ·intro b off hp
  have hin:MemPlace.cell b off∈p++[]:=by simpa using hp
  rw[Below.frozen hb (hlt _ hin)]
  exact hz b off hin
 ·intro ha
  simpa using hn ha
 ·intro x hx _
  simpa using hx
end
section
open Go.RowKit
section
variable {w w' a:World} {B:Nat} {e:TypeId} {size n:Nat} {v:Value} {xs:List Value}
theorem own_ext (h:w.ownsRow B e size v n xs) (hx:Ext w w'):w'.ownsRow B e size v n xs :=
 h.kept (row:=none) ⟨hx.os,hx.tape,hx.output,hx.size,fun k hk _=>hx.block k hk⟩ (by cases hv:v.ownBlock<;>simp)
theorem Ext.grown (h:Ext a w) (hown:w.ownsRow B e size v n xs) (hB:a.heap.size<=B) (hg:w.grownBy w' v.ownBlock):Ext a w' :=
 Below.grown h hg h.size (fun k hk=>Nat.le_trans hB (hown.lt k hk).1)
theorem Blk.grown {g:Nat} {t:TypeId} {cs:Array Value} (h:Blk w g t cs) (hown:w.ownsRow B e size v n xs) (hB:g < B) (hg:w.grownBy w' v.ownBlock):Blk w' g t cs :=
 (hg.block g h.lt (fun he=>by have:=(hown.lt g he.symm).1;omega)).trans h
theorem own_form (h:w.ownsRow B e size v n xs) (h0:0 < n):∃ g c,v=.slice (some ⟨g,0,none⟩) n c∧g < w.heap.size∧B<=g∧n<=c∧∀ j u,xs[j]?=some u->w.cell? ⟨g,j,none⟩=some u:=by
 have hh:=h
 rcases h.2 with ⟨rfl,h1⟩|⟨g,cap,cur,rfl,hb,hgg,hnc,_⟩
 ·omega
 ·refine⟨g,cap,rfl,(hh.lt g rfl).2,hb,hnc,fun j u hu=>?_⟩
  have:=hh.cells (g:=g) rfl j u hu
  have hadd:(⟨g,0,none⟩:Addr).add j=⟨g,j,none⟩:=by unfold Addr.add;split<;>simp_all
  rwa [hadd] at this
end
section
variable {P:Program}
theorem wpList_app1 {ops:Array Oper} {rest:List Oper} {o:Oper} {a:Act} {Q:Exit->Act->World->Prop} (wr:World) (cs:Array Value) (e:TypeId) (hgd:o.guard=none) (s x:Operand) (t:TypeId)
 (ho:o.op=.call { callee:=.builtin .append,args:=#[s,x],argTypes:=#[t,t] })
 (z:Value) (size bytes:Nat) (ht:P.underlying t=some (.slice e)) (hinfo:(P.info? e).map (fun i=>(i.zero,i.size,i.bytes))=some (some z,size,bytes)) (hzs:z.cells.size=size) (hsz:0 < size) (hby:bytes<=1000)
 (B:Nat) (v:Value) (n:Nat) (xs:List Value) (hs:a.eval s=v) (hown:wr.ownsRow B e size v n xs)
 (c:Nat) (hx:a.eval x=.slice (some ⟨wr.heap.size,0,none⟩) 1 c) (hcs:cs.size=size) (h1:∀ u∈cs.toList,u.oneCell'=true) (hn:n<=100000000) (hbase:B<=wr.heap.size)
 (h:∀ v' w',w'.ownsRow B e size v' (n+1) (xs++cs.toList)->(∀ a',Ext a' wr->a'.heap.size<=B->Ext a' w')->(∀ g t' ds,Blk wr g t' ds->g < B->Blk w' g t' ds)->wpList P ops Q rest (a.put o.dst v') w') :
 wpList P ops Q (o::rest) a (wr.alloc (.cells cs e)):=by
 obtain⟨i,hi,hz0,hz1,hz2⟩:=info_parts hinfo
 have hnew:=Blk.new wr e cs
 refine wpList_append_own (wr.alloc (.cells cs e)) hgd s x t ho B e i z size bytes ht hi hz0 hz1 hz2 hzs hsz v n xs hs (hown.alloc _) ⟨wr.heap.size,0,none⟩ 1 c cs.toList hx (by simp[hcs]) ?_ h1 ?_ ?_ (by simp;omega) ?_
 ·intro j u hu
  have hadd:(⟨wr.heap.size,0,none⟩:Addr).add j=⟨wr.heap.size,j,none⟩:=by unfold Addr.add;split<;>simp_all
  rw[hadd,hnew.cell]
  simpa using hu
 ·simp only[maxLen];omega
 ·have:(n+1) * bytes<=100000001 * 1000:=Nat.mul_le_mul (by omega) hby
  omega
 ·intro v' w' hown' hg _
  refine h v' w' hown' (fun a' ha hB=>?_) (fun g t' ds hb hlt=>?_)
  ·exact (ha.alloc _).grown (hown.alloc _) hB hg
  ·exact (hb.alloc _).grown (hown.alloc _) hlt hg
theorem wpList_app1g {ops:Array Oper} {rest:List Oper} {o:Oper} {a:Act} {Q:Exit->Act->World->Prop} (wr:World) (cs:Array Value) (e:TypeId) (hgd:o.guard=none) (s x:Operand) (t:TypeId)
 (ho:o.op=.call { callee:=.builtin .append,args:=#[s,x],argTypes:=#[t,t] })
 (z:Value) (size bytes:Nat) (ht:P.underlying t=some (.slice e)) (hinfo:(P.info? e).map (fun i=>(i.zero,i.size,i.bytes))=some (some z,size,bytes)) (hzs:z.cells.size=size) (hsz:0 < size) (hby:bytes<=1000)
 (B:Nat) (v:Value) (n:Nat) (xs:List Value) (hs:a.eval s=v) (hown:wr.ownsRow B e size v n xs)
 (c gA:Nat) (hx:a.eval x=.slice (some ⟨gA,0,none⟩) 1 c) (hgA:wr.heap.size=gA) (hcs:cs.size=size) (h1:∀ u∈cs.toList,u.oneCell'=true) (hn:n<=100000000) (hbase:B<=wr.heap.size)
 (h:∀ v' w',w'.ownsRow B e size v' (n+1) (xs++cs.toList)->(∀ a',Ext a' wr->a'.heap.size<=B->Ext a' w')->(∀ g t' ds,Blk wr g t' ds->g < B->Blk w' g t' ds)->wpList P ops Q rest (a.put o.dst v') w') :
 wpList P ops Q (o::rest) a (wr.alloc (.cells cs e)) :=
 wpList_app1 wr cs e hgd s x t ho z size bytes ht hinfo hzs hsz hby B v n xs hs hown c (by rw[hgA];exact hx) hcs h1 hn hbase h
end
end
section
open Go.RowKit
theorem map_take_succ {α β:Type} (f:α->β) (l:List α) (k:Nat) (h:k < l.length):(l.take k).map f++[f l[k]]=(l.take (k+1)).map f:=by
 rw[List.take_succ_eq_append_getElem h,List.map_append];rfl
end
end Go.Proofs.YtmnafaaijglnfaaGreatDoor
namespace Go.Proofs.YtmnafaaijglnfaaGreatDoor.listed
open Go.ChangeShapes Go.WideShapes Go.ChangeAt Go.RowKit Go.WideElems Go.Joins
theorem star:"*"++"errors.errorString"="*errors.errorString":=by decide
theorem rowErr (u:TypeId) (h:Tryz.prog.typeName? 3 u=some "*errors.errorString"):u=301 :=
 typeName_ptr_named (nm:="errors.errorString") (by rw[star];kernel_rfl) (by kernel_rfl) (by decide) u (by rw[star];exact h)
theorem good {W:World} (hL:laidMetH Tryz.prog Rows.versionsMatchUptoRow.laid W) (hS:W.ShapedOpen Tryz.prog):GoodN W:=by
 have hL':laidMet Tryz.prog Rows.versionsMatchUptoRow.laid W:=hL
 have h1:laidMet Tryz.prog [("internal/strconv.uint64pow10",Rows.laid_internal_strconv_uint64pow10)] W:=hL'.filter (fun x=>x.1=="internal/strconv.uint64pow10")
 have h2:laidMet Tryz.prog [("strconv.ErrSyntax",Rows.laid_strconv_ErrSyntax)] W:=hL'.filter (fun x=>x.1=="strconv.ErrSyntax")
 have h3:laidMet Tryz.prog [("strconv.ErrRange",Rows.laid_strconv_ErrRange)] W:=hL'.filter (fun x=>x.1=="strconv.ErrRange")
 refine⟨⟨Tryz.laysM146.s1_3 W hS⟩,?_,?_,?_⟩
 ·exact Lib.tabIs_of_head (rest:=[]) (g:=3) (by kernel_rfl) (by kernel_rfl) Tryz.underlying298 Tryz.underlying165 (by kernel_rfl) (by kernel_rfl) h1
 ·obtain⟨a,s,hv,_⟩:=laid_sentinel (g:=1) h2 (by kernel_rfl) (by kernel_rfl) Tryz.underlying122 rowErr Tryz.underlying301 Tryz.underlying303 rfl rfl Tryz.underlying9 (by kernel_rfl) (by kernel_rfl)
  exact⟨_,_,hv⟩
 ·obtain⟨a,s,hv,_⟩:=laid_sentinel (g:=2) h3 (by kernel_rfl) (by kernel_rfl) Tryz.underlying122 rowErr Tryz.underlying301 Tryz.underlying303 rfl rfl Tryz.underlying9 (by kernel_rfl) (by kernel_rfl)
  exact⟨_,_,hv⟩
noncomputable def laidWorld (os:Os):World :=
 let N:=(World.settled Tryz.prog os).heap.size
 let w0:=World.holding Tryz.prog os ⟨#[.cells #[.string ⟨#[118,97,108,117,101,32,111,117,116,32,111,102,32,114,97,110,103,101]⟩] 303,.cells #[.string ⟨#[105,110,118,97,108,105,100,32,115,121,110,116,97,120]⟩] 303],#[],[]⟩
 let put (h:Array Obj) (g:Nat) (cs:Array Value):Array Obj:=h.modify g fun
  | .cells _ t frozen=>.cells cs t frozen
  | o=>o
 let h0:=put (put w0.heap 2 #[.iface 301 (.pointer (some ⟨N,0,none⟩))]) 1 #[.iface 301 (.pointer (some ⟨N+1,0,none⟩))]
 let h1:=put h0 4 (Go.Pinned.utf8FirstZ.map fun z:Nat=>Value.int .u8 (z:Int)).toArray
 let h2:=put h1 5 #[.int .u8 128,.int .u8 191,.int .u8 160,.int .u8 191,.int .u8 128,.int .u8 159,.int .u8 144,.int .u8 191,.int .u8 128,.int .u8 143,.int .u8 0,.int .u8 0,.int .u8 0,.int .u8 0,.int .u8 0,.int .u8 0,.int .u8 0,.int .u8 0,.int .u8 0,.int .u8 0,.int .u8 0,.int .u8 0,.int .u8 0,.int .u8 0,.int .u8 0,.int .u8 0,.int .u8 0,.int .u8 0,.int .u8 0,.int .u8 0,.int .u8 0,.int .u8 0]
 let h3:=put h2 6 #[.int .u8 0,.int .u8 1,.int .u8 28,.int .u8 2,.int .u8 29,.int .u8 14,.int .u8 24,.int .u8 3,.int .u8 30,.int .u8 22,.int .u8 20,.int .u8 15,.int .u8 25,.int .u8 17,.int .u8 4,.int .u8 8,.int .u8 31,.int .u8 27,.int .u8 13,.int .u8 23,.int .u8 21,.int .u8 19,.int .u8 16,.int .u8 7,.int .u8 26,.int .u8 12,.int .u8 18,.int .u8 6,.int .u8 11,.int .u8 5,.int .u8 10,.int .u8 9]
 let h4:=put h3 7 #[.int .u8 0,.int .u8 1,.int .u8 56,.int .u8 2,.int .u8 57,.int .u8 49,.int .u8 28,.int .u8 3,.int .u8 61,.int .u8 58,.int .u8 42,.int .u8 50,.int .u8 38,.int .u8 29,.int .u8 17,.int .u8 4,.int .u8 62,.int .u8 47,.int .u8 59,.int .u8 36,.int .u8 45,.int .u8 43,.int .u8 51,.int .u8 22,.int .u8 53,.int .u8 39,.int .u8 33,.int .u8 30,.int .u8 24,.int .u8 18,.int .u8 12,.int .u8 5,.int .u8 63,.int .u8 55,.int .u8 48,.int .u8 27,.int .u8 60,.int .u8 41,.int .u8 37,.int .u8 16,.int .u8 46,.int .u8 35,.int .u8 44,.int .u8 21,.int .u8 52,.int .u8 32,.int .u8 23,.int .u8 11,.int .u8 54,.int .u8 26,.int .u8 40,.int .u8 15,.int .u8 34,.int .u8 20,.int .u8 31,.int .u8 10,.int .u8 25,.int .u8 14,.int .u8 19,.int .u8 9,.int .u8 13,.int .u8 8,.int .u8 7,.int .u8 6]
 let h5:=put h4 3 #[.int .u64 1,.int .u64 10,.int .u64 100,.int .u64 1000,.int .u64 10000,.int .u64 100000,.int .u64 1000000,.int .u64 10000000,.int .u64 100000000,.int .u64 1000000000,.int .u64 10000000000,.int .u64 100000000000,.int .u64 1000000000000,.int .u64 10000000000000,.int .u64 100000000000000,.int .u64 1000000000000000,.int .u64 10000000000000000,.int .u64 100000000000000000,.int .u64 1000000000000000000,.int .u64 10000000000000000000]
 { w0 with heap:=h5 }
end Go.Proofs.YtmnafaaijglnfaaGreatDoor.listed
namespace Go.Proofs.YtmnafaaijglnfaaGreatDoor
section
open Go.ChangeShapes Go.WideShapes Go.ChangeAt Go.RowKit Go.WideElems Go.Joins
def Opens (T:TypeId) {α:Type} (R:World->α->List Value->Prop) (bk:α->Nat):Prop :=
 ∀ (H:Type) (enc:TypeId × Value->H) (W:World) (fuel:Nat) (cs:List Value) (x:DataW H × List MemPlace),DataW.trod enc Tryz.prog W 0 (fun _=>true) true fuel T cs=some x->∃ v,R W v cs∧bk v<=Rows.uptoBulk x.1
theorem opens_string {T:TypeId} (hT:Tryz.prog.underlying T=some .string):Opens T (fun _ (s:ByteArray) cs=>cs=[.string s]) (fun s=>s.size+1):=fun H enc W fuel cs x h=>by
 obtain⟨s,rfl,rfl,_⟩:=DataW.trod_string hT h
 exact⟨s,rfl,by simp only[Rows.uptoBulk,Array.length_toList];exact Nat.le_refl _⟩
theorem opens_int {T:TypeId} (hT:Tryz.prog.underlying T=some (.int .i64)):Opens T (fun _ (n:Int) cs=>cs=[.int .i64 n]) (fun _=>1):=fun H enc W fuel cs x h=>by
 obtain⟨n,rfl,rfl,_⟩:=DataW.trod_int hT h
 exact⟨n,rfl,by simp[Rows.uptoBulk]⟩
theorem opens_bool {T:TypeId} (hT:Tryz.prog.underlying T=some .bool):Opens T (fun _ (b:Bool) cs=>cs=[.bool b]) (fun _=>1):=fun H enc W fuel cs x h=>by
 obtain⟨n,rfl,rfl⟩:=DataW.trod_bool hT h
 exact⟨n,rfl,by simp[Rows.uptoBulk]⟩
theorem bulkAll_le {H:Type} {n:Nat} {D:Nat->DataW H} {bk:Nat->Nat} (h:∀ i,i < n->bk i<=Rows.uptoBulk (D i)):((List.range n).map bk).sum<=Rows.uptoBulkAll ((List.range n).map D):=by
 suffices ∀ l:List Nat,(∀ i∈l,i < n)->(l.map bk).sum<=Rows.uptoBulkAll (l.map D) from this _ fun i hi=>List.mem_range.1 hi
 intro l
 induction l with
 | nil=>intro _;exact Nat.zero_le _
 | cons a l ih =>
   intro hl
   have h1:=h a (hl a (by simp))
   have h2:=ih fun i hi=>hl i (by simp[hi])
   simp only[List.map_cons,List.sum_cons,Rows.uptoBulkAll]
   omega
def RowOf {α:Type} (R:World->α->List Value->Prop) (sz:Nat) (W:World) (A:Option Addr) (l:List α):Prop :=
 l≠[]->∃ b o,A=some ⟨b,o,none⟩∧∀ k (h:k < l.length),∃ ecs,R W l[k] ecs∧ecs.length=sz∧∀ j,j < sz->W.cell? ⟨b,o+k * sz+j,none⟩=ecs[j]?
theorem opens_slice {T E:TypeId} {α:Type} [Inhabited α] {R:World->α->List Value->Prop} {bk:α->Nat} {sz:Nat} (hT:Tryz.prog.underlying T=some (.slice E)) (hsz:Tryz.prog.cellsOf E=sz) (h0:0 < sz) (hE:Opens E R bk) :
 Opens T (fun W (l:List α) cs=>∃ A c,cs=[.slice A l.length c]∧RowOf R sz W A l) (fun l=>(l.map bk).sum+1):=fun H enc W fuel cs x h=>by
 rcases Deep.open_slice hT h with ⟨rfl,rfl⟩|⟨a,len,cap,m,n,D,Pl,rfl,_,hl,_,hm,rfl,hx⟩
 ·exact⟨[],⟨none,0,rfl,fun h=>absurd rfl h⟩,by simp[Rows.uptoBulk]⟩
 ·have hlm:len<=m:=by rw[hm];split<;>omega
  have each:∀ i,i < len->∃ v:α,bk v<=Rows.uptoBulk (D i)∧∃ ecs,R W v ecs∧W.cells? 0 (a.add (i * sz)) sz=some ecs:=fun i hi=>by
   obtain⟨cs',h1,h2⟩:=hx i (by omega)
   obtain⟨v,h3,h4⟩:=hE H enc W n cs' _ h2
   rw[hsz] at h1
   exact⟨v,h4,cs',h3,h1⟩
  obtain⟨F,hF⟩:=Deep.choose_lt each
  refine⟨(List.range len).map F,⟨some a,cap,by simp,?_⟩,?_⟩
  ·intro hne
   have hpos:0 < len:=by
    rcases Nat.eq_zero_or_pos len with h|h
    ·subst h;exact absurd rfl hne
    ·exact h
   obtain⟨_,ecs0,_,hc0⟩:=hF 0 hpos
   obtain⟨_,hl0,hcell0⟩:=World.cells?_some hc0
   obtain⟨b,off,spot⟩:=a
   have g0:=hcell0 0 h0
   have hsome:∃ v,ecs0[0]?=some v:=⟨ecs0[0],List.getElem?_eq_getElem (by omega)⟩
   obtain⟨v0,hv0⟩:=hsome
   rw[hv0] at g0
   have hspot:spot=none:=by
    have:=World.cell?_spot g0
    simpa [Addr.add] using this
   subst hspot
   refine⟨b,off,rfl,fun k hk=>?_⟩
   have hk':k < len:=by simpa using hk
   obtain⟨_,ecs,hR,hc⟩:=hF k hk'
   obtain⟨_,hl1,hcell⟩:=World.cells?_some hc
   refine⟨ecs,by simpa using hR,hl1,fun j hj=>?_⟩
   have:=hcell j hj
   rwa [Deep.add_add,add_plain,<-Nat.add_assoc] at this
  ·have:=bulkAll_le (H:=H) (n:=len) (D:=D) (bk:=fun i=>bk (F i)) fun i hi=>(hF i hi).1
   simp only[List.map_map,Rows.uptoBulk]
   have e:(bk ∘ F)=fun i=>bk (F i):=rfl
   rw[e]
   omega
theorem opens_struct1 {T:TypeId} {f0:Field} {α:Type} {R:World->α->List Value->Prop} {bk:α->Nat} (hT:Tryz.prog.underlying T=some (.struct #[f0])) (ho:f0.offset=0) (hs:Tryz.prog.cellsOf T=Tryz.prog.cellsOf f0.type) (hE:Opens f0.type R bk) :
 Opens T R bk:=fun H enc W fuel cs x h=>by
 obtain⟨y0,n,rfl,hl,h0⟩:=trod_struct1 hT h
 obtain⟨v,h1,h2⟩:=hE H enc W n _ _ h0
 rw[ho,List.drop_zero,List.take_of_length_le (by omega)] at h1
 exact⟨v,h1,by simp only[Rows.uptoBulk,Rows.uptoBulkAll];omega⟩
theorem sum_mem {α:Type} {bk:α->Nat}:∀ {l:List α} {a:α},a∈l->bk a<=(l.map bk).sum
 | b::l,a,h=>by
   rcases List.mem_cons.1 h with rfl|h
   ·simp only[List.map_cons,List.sum_cons];omega
   ·have:=sum_mem (bk:=bk) h
    simp only[List.map_cons,List.sum_cons];omega
theorem sum_len {α:Type} {bk:α->Nat} {c:Nat} (h:∀ a,c<=bk a):∀ l:List α,l.length * c<=(l.map bk).sum
 | []=>by simp
 | a::l=>by
   have:=sum_len h l
   have:=h a
   simp only[List.map_cons,List.sum_cons,List.length_cons,Nat.succ_mul];omega
end
section
structure Ru where
 kind:Int
 key:Str
 tt:Str
 old:Str
 new:Str
deriving instance DecidableEq for Ru
def useTo (k:Int):Bool:=k==1||k==2||k==3
def useOld (k:Int):Bool:=k==7||k==8
def useNew (k:Int):Bool:=k==4||k==5||k==7||k==8
structure Shape (r:Ru):Prop where
 lo:1<=r.kind
 hi:r.kind<=8
 key:r.key≠[]
 key32:(32:UInt8) ∉ r.key
 to1:useTo r.kind=true->r.tt≠[]∧(32:UInt8) ∉ r.tt
 to0:useTo r.kind=false->r.tt=[]
 old0:useOld r.kind=false->r.old=[]
 new0:useNew r.kind=false->r.new=[]
end
section
end
section
open Go.RowKit
theorem eqE (x y:ByteArray):(x.toList==y.toList)=decide (bs x=bs y):=by
 rw[ByteArray.toList_eq,ByteArray.toList_eq]
 by_cases h:bs x=bs y
 ·rw[decide_eq_true h,beq_iff_eq];exact h
 ·rw[decide_eq_false h,beq_eq_false_iff_ne];exact h
def u8s (l:Str):List Value:=l.map fun c=>Value.int .u8 c.toNat
@[simp] theorem u8s_length (a:Str):(u8s a).length=a.length:=List.length_map _
end
section
open Go.RowKit
section
variable {s:ByteArray} {R:Option (Str × Str)} {k:Nat} {done:Str}
end
end
section
open Go.RowKit
end
section
open Go.RowKit
structure ExtX (g:Nat) (w w':World):Prop where
 os:w'.os=w.os
 tape:w'.tape=w.tape
 output:w'.output=w.output
 size:w.heap.size<=w'.heap.size
 block:∀ k,k < w.heap.size->k≠g->w'.heap[k]?=w.heap[k]?
namespace ExtX
variable {g:Nat} {a b c w w':World}
theorem refl (g:Nat) (w:World):ExtX g w w:=⟨rfl,rfl,rfl,Nat.le_refl _,fun _ _ _=>rfl⟩
theorem ofExt (h:Ext a b):ExtX g a b:=⟨h.os,h.tape,h.output,h.size,fun k hk _=>h.block k hk⟩
theorem trans (h:ExtX g a b) (k:ExtX g b c):ExtX g a c :=
 ⟨k.os.trans h.os,k.tape.trans h.tape,k.output.trans h.output,Nat.le_trans h.size k.size,fun i hi hg=>(k.block i (Nat.lt_of_lt_of_le hi h.size) hg).trans (h.block i hi hg)⟩
theorem alloc (h:ExtX g a w) (o:Obj):ExtX g a (w.alloc o):=h.trans (ofExt ((Ext.refl w).alloc o))
theorem drew (h:ExtX g a w):ExtX g a w.drew:=h.trans (ofExt ((Ext.refl w).drew))
theorem ext (h:Ext a w) (k:ExtX g w w') (hg:a.heap.size<=g):Ext a w' :=
 ⟨k.os.trans h.os,k.tape.trans h.tape,k.output.trans h.output,Nat.le_trans h.size k.size,fun i hi=>(k.block i (Nat.lt_of_lt_of_le hi h.size) (by omega)).trans (h.block i hi)⟩
theorem cell (h:ExtX g a b) {k o:Nat} {v:Value} (hk:k≠g) (hc:a.cell? ⟨k,o,none⟩=some v):b.cell? ⟨k,o,none⟩=some v:=by
 have hl:=lt_of_cell hc
 unfold World.cell? at hc ⊢
 rw[h.block k hl hk]
 exact hc
end ExtX
structure St where
 p:Nat
 k:Int
 a:Nat
 t:ByteArray
 wr:Int
end
section
section
variable {s:ByteArray}
end
end
section
open Go.RowKit
structure ExtC (C:Nat->Prop) (w w':World):Prop where
 os:w'.os=w.os
 tape:w'.tape=w.tape
 output:w'.output=w.output
 size:w.heap.size<=w'.heap.size
 block:∀ k,k < w.heap.size->¬ C k->w'.heap[k]?=w.heap[k]?
namespace ExtC
variable {C:Nat->Prop} {a b c w w':World}
theorem refl (C:Nat->Prop) (w:World):ExtC C w w:=⟨rfl,rfl,rfl,Nat.le_refl _,fun _ _ _=>rfl⟩
theorem ofExt (h:Ext a b):ExtC C a b:=⟨h.os,h.tape,h.output,h.size,fun k hk _=>h.block k hk⟩
theorem trans (h:ExtC C a b) (k:ExtC C b c):ExtC C a c :=
 ⟨k.os.trans h.os,k.tape.trans h.tape,k.output.trans h.output,Nat.le_trans h.size k.size,fun i hi hg=>(k.block i (Nat.lt_of_lt_of_le hi h.size) hg).trans (h.block i hi hg)⟩
theorem alloc (h:ExtC C a w) (o:Obj):ExtC C a (w.alloc o):=h.trans (ofExt ((Ext.refl w).alloc o))
theorem set (h:ExtC C a w) {p:Addr} (hp:C p.block∨a.heap.size<=p.block) (u:Value):ExtC C a (w.setCell p u) :=
 ⟨h.os,h.tape,h.output,by have:=h.size;simpa [World.setCell] using this,fun k hk hg=>by
   refine Eq.trans ?_ (h.block k hk hg)
   simp only[World.setCell,Array.getElem?_modify]
   rw[if_neg]
   rintro rfl
   rcases hp with h1|h1
   ·exact hg h1
   ·omega⟩
theorem ext (h:Ext a w) (k:ExtC C w w') (hC:∀ i,C i->a.heap.size<=i):Ext a w' :=
 ⟨k.os.trans h.os,k.tape.trans h.tape,k.output.trans h.output,Nat.le_trans h.size k.size,fun i hi=>(k.block i (Nat.lt_of_lt_of_le hi h.size) (fun hc=>by have:=hC i hc;omega)).trans (h.block i hi)⟩
theorem imp {C':Nat->Prop} (h:ExtC C a b) (hC:∀ i,C i->C' i):ExtC C' a b:=⟨h.os,h.tape,h.output,h.size,fun k hk hn=>h.block k hk (fun hc=>hn (hC k hc))⟩
theorem cell (h:ExtC C a b) {k o:Nat} {v:Value} (hk:¬ C k) (hc:a.cell? ⟨k,o,none⟩=some v):b.cell? ⟨k,o,none⟩=some v:=by
 have hl:=lt_of_cell hc
 unfold World.cell? at hc ⊢
 rw[h.block k hl hk]
 exact hc
end ExtC
theorem Blk.extC {C:Nat->Prop} {w w':World} {k:Nat} {t:TypeId} {cs:Array Value} (h:Blk w k t cs) (hx:ExtC C w w') (hk:¬ C k):Blk w' k t cs:=(hx.block k h.lt hk).trans h
end
section
open Go.RowKit
section
variable {P:Program}
theorem wpList_load_at {ops:Array Oper} {rest:List Oper} {o:Oper} {a:Act} {w:World} {Q:Exit->Act->World->Prop} (hgd:o.guard=none) (ty:TypeId) (x:Operand) (ho:o.op=.load ty x)
 (p:Addr) (hx:a.eval x=.pointer (some p)) (v:Value) (hl:(loadVar ty p).run P w=.ok v w) (h:wpList P ops Q rest (a.put o.dst v) w):wpList P ops Q (o::rest) a w :=
 wpList_plain hgd fun K hK=>by
  unfold Oper.wp execOp
  simp only[ho,hx,Instr.loadAt,Instr.sureAddr,Sem.run_bind,Sem.run_pure,Result.andThen_ok,hl]
  exact hK _ _ h
theorem wpQuiet_load {ops:Array Oper} {rest:List Oper} {o:Oper} {a:Act} {C:World->Prop} {Q:Act->Prop} (hw:Region.wanted o (yielded ops a.tmps)=true) (ty:TypeId) (x:Operand) (ho:o.op=.load ty x)
 (p:Addr) (hx:a.eval x=.pointer (some p)) (v:Value) (hl:∀ w,C w->(loadVar ty p).run P w=.ok v w) (h:wpQuiet P ops C Q rest (a.put o.dst v)):wpQuiet P ops C Q (o::rest) a :=
 wpQuiet_step fun K hK=>by
  rw[if_pos hw]
  refine⟨v,fun w hC=>?_,hK _ h⟩
  unfold Oper.quietAt execOp
  simp only[ho,hx,Instr.loadAt,Instr.sureAddr,Sem.run_bind,Sem.run_pure,Result.andThen_ok,hl w hC]
  exact⟨rfl,rfl⟩
end
end
section
open Go.RowKit
def RdF (w:World) (A:Option Addr) (v:List ByteArray):Prop:=v≠[]->∃ b o,A=some ⟨b,o,none⟩∧∀ k (h:k < v.length),w.cell? ⟨b,o+k,none⟩=some (.string v[k])
theorem RdF.ext {w w':World} {A:Option Addr} {v:List ByteArray} (h:RdF w A v) (hx:Ext w w'):RdF w' A v:=fun hn=>by
 obtain⟨b,o,e,k⟩:=h hn
 exact⟨b,o,e,fun i hi=>hx.cell (k i hi)⟩
end
section
open Go.RowKit
section
variable {P:Program}
theorem run_store_blk {w:World} (t:TypeId) {g:Nat} {e:TypeId} {cur:Array Value} {v:Value} (hb:Blk w g e cur) (hs:cur.size=v.cells.size) (hsz:(P.info? t).map (·.size)=some v.cells.size) (h1:∀ u∈v.cells.toList,u.oneCell'=true) :
 (storeVar t ⟨g,0,none⟩ v).run P w=.ok () (w.setRow g v.cells):=by
 have h:=run_storeCells_at P g 0 e v.cells.toList 0 cur w hb (by simp[hs]) h1
 have hl:cur.toList.drop (0+0+v.cells.toList.length)=[]:=List.drop_eq_nil_of_le (by simp[hs])
 rw[hl] at h
 cases hq:P.info? t with
 | none=>simp[hq] at hsz
 | some i =>
   have hi:i.size=v.cells.size:=by simpa [hq] using hsz
   unfold storeVar
   simp[sizeOf,typeInfo,hq,hi]
   simpa using h
theorem wpList_store_at {ops:Array Oper} {rest:List Oper} {o:Oper} {a:Act} {w:World} {Q:Exit->Act->World->Prop} (hgd:o.guard=none) (ty:TypeId) (x y:Operand) (ho:o.op=.store ty x y)
 (p:Addr) (hx:a.eval x=.pointer (some p)) (v:Value) (hy:a.eval y=v) (w':World) (hl:(storeVar ty p v).run P w=.ok () w') (h:wpList P ops Q rest (a.put o.dst undef) w'):wpList P ops Q (o::rest) a w :=
 wpList_plain hgd fun K hK=>by
  unfold Oper.wp execOp
  simp only[ho,hx,hy,Instr.storeAt,Instr.sureAddr,Sem.run_bind,Sem.run_pure,Result.andThen_ok,hl]
  exact hK _ _ h
end
end
end Go.Proofs.YtmnafaaijglnfaaGreatDoor
namespace Go.Proofs.YtmnafaaijglnfaaGreatDoor.mergesMatch
open Go.ChangeShapes Go.WideShapes Go.ChangeAt Go.RowKit Go.WideElems Go.Joins
open Go.ChangeMaps (open_string shut_string)
theorem plain (f:FuncId) (fn:Func) (hf:Tryz.prog.funcNamed "outfitter/outlaw2.MergesMatch"=some f) (hfn:Tryz.prog.funcs[f]?=some fn) :
 true=Tryz.prog.looks []∧∀ (j:Nat) t,fn.params[j]?=some t->Tryz.prog.wantsStandIn t=false:=by
 obtain rfl:f=6:=Option.some.inj ((show Tryz.prog.funcNamed "outfitter/outlaw2.MergesMatch"=some 6 by kernel_rfl).symm.trans hf) |>.symm
 obtain rfl:fn=Tryz.f6:=(Option.some.inj (Tryz.func6.symm.trans hfn)).symm
 refine⟨by kernel_rfl,fun j t ht=>?_⟩
 rw[Tryz.params6] at ht
 have hm:t∈[56]:=by simpa using Array.mem_of_getElem? ht
 have hall:([56].all fun u=>!Tryz.prog.wantsStandIn u)=true:=by kernel_rfl
 simpa using List.all_eq_true.1 hall t hm
theorem wf:Rows.mergesMatchUptoRow.wfByText (Rows.OpenSpec.upto Rows.mergesMatchSpec)=true:=by kernel_rfl
end Go.Proofs.YtmnafaaijglnfaaGreatDoor.mergesMatch
