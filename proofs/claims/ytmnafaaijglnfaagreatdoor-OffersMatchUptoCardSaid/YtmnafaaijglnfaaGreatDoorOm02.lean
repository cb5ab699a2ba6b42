/- Plain laws on strings as lists of bytes: cutting at one byte. What all walks of this seat share: a world that has only grown ('Ext'), the package variables as the row lists them ('Good', 'GoodN'), endings. Contracts of the byte predicates of package ver. Contracts of ver.IsName, isPart, IsValue, isNumeral, outside; outref2.In, When, First. Contracts of outref2.First, cmp.Or[int]: the first of several numbers that is not 0. The library's contracts in this claim's words: a world that has only grown, texts as lists of bytes. A region that draws its order, walked by an invariant over what has come up: each operation once, no branching over orders. A region that draws its order: ONE walk of the lexical order, where operations and callees may make memory whose place hangs on the order. A region that draws its order: RgS's walk of the lexical order, with a tail in one forced order (stores, calls that write old memory) and with operations that yield one value in whatever world. Contracts of ver.IsPath, isEarly, Check. Contracts of ver.text. Contracts of ver.Check, Print. A region that draws its order: a quiet beginning in a class of worlds, then a tail in one forced order. Plain laws: decimal numbers and their texts; the order of words. Plain laws: the order of words of early versions, and of versions. Contracts of ver.compareWords, compareEarly, Order, Compare. Contracts of cmp.Or[int], ver.Order, Compare. Contracts of ver.number, Parse. Contracts of outref2: inner, Of, NameOf, PathOf, ValueOf. Plain law: ver.Parse reads what ver.Print writes. Contract of outlaw2.versions. The law outlaw2.VersionsMatch: its walk. What the proofs of all rows of this seat share: the package variables out of the row's list, arguments that stay as they were, the row's last step behind a world that has only grown. append of one element onto a slice of the call's own, in a world that grows; strings.Join over such a slice. Contract of ver.PrintRange. Contract of outref2.RangeText. What the rows of this seat share that list the library's tables and errors: their variables at the start, and a world for the witness. Arguments opened: what a reading of cells at a type says of memory, and of the reading's bulk. One law a kind of type: numbers, texts, structs of one field, slices. Plain law: rules, their errors, their texts, and what reads them; the reference's reading is the program's. Plain law: the reference's errors, inverses and readings of rules are the program's. Plain law: a text in quotes, by two replacements of one byte each; its length; what a loop over it has written. Bytes as cells; texts compared. Reading a text in quotes, byte by byte; contract of outref2.quotedAt. Contracts of ver.quotedAt, ver.isBlank, ver.kindOf. Plain law: the program's reading of a condition goes on, and its loop ends. A world of which some blocks alone were written. Intervals of places, strictly apart: what two lists have in common, a scan that finds the intervals again. Plain words. A struct that is loaded at one step: in a walk, and in a region that draws. Sums of texts and their digits in plain words. Contract of disk.SumOf. Contracts of strconv.FormatUint at base 16, and what it calls. Contract of outref2.SumOf. Contract of strconv.ParseUint at base 16 and 64 bits, of eight digits. slices.IndexFunc and slices.ContainsFunc over texts, with any closure. (Own rows of PkI, PkH, MvL, PkQ, for seats without packages.) What the rows list, with the table of math/bits. A struct that is stored over a block at one step. The pins of the row of outlaw2.OffersMatch. -/
import Derived.Lib.Split
import Derived.Lib.IndexBytes
import Derived.Lib.ItoaLen
import Derived.Test.YtmnafaaijglnfaaGreatDoorProg
import Derived.WalkKit
import Derived.WalkSpells
import Derived.WalkLawsBesides
import Derived.LoopTactic
import Derived.Outline
import Derived.Lib.Hide
import Derived.Lib.LaidTab
import Derived.Lib.ConvBytes
import Derived.Lib.ItoaNum
import Derived.WalkSmall
import Derived.Sort.Grow
import Derived.Deep.QuietTactic
import Derived.BigQuiet
import Derived.Test.YtmnafaaijglnfaaGreatDoorShelf
import Derived.OrdersHeld
import Derived.RegionTactic
import Derived.Deep.Quiet
import Derived.StillTail
import Derived.Lib.AtoiAll
import Derived.Lib.Small
import Derived.Lib.Bytealg
import Derived.Laws.StructEq
import Derived.Deep.RegionHeld3
import Derived.Test.YtmnafaaijglnfaaGreatDoorCards
import Derived.Test.YtmnafaaijglnfaaGreatDoorTie
import Derived.ProofKit
import Derived.OpenShut
import Derived.Deep.DeepHandedRow
import Derived.Deep.DeepWitnessRowRef
import Derived.Lib.LaidIn
import Derived.Lib.SmallJoins
import Derived.Stop.LaidErr
import Derived.LaidSub
import Derived.SizedLaws
import Derived.Laws.AppendOwn
import Derived.Laws.OwnMore
import Derived.Maps.AppendAt
import Derived.OwnWalk
import Derived.Lib.Join
import Derived.Deep.LoopGhost
import Derived.Deep.Slices
import Derived.Lib.Replace
import Derived.Lib.SplitLaws
import Derived.Laws.Cells
import Derived.Laws.Bits64
import Derived.Laws.Bits64b
import Derived.Laws.CopyRow
namespace Go.Proofs.YtmnafaaijglnfaaGreatDoor
section
abbrev Str:=List UInt8
abbrev bs (s:ByteArray):Str:=s.data.toList
abbrev S (l:Str):Value:=.string ⟨l.toArray⟩
def splitC (c:UInt8):Str->List Str
 | []=>[[]]
 | x::r=>if x=c then []::splitC c r else (match splitC c r with|[]=>[[x]]|p::q=>(x::p)::q)
theorem splitC_ne (c:UInt8) (l:Str):splitC c l≠[]:=by
 cases l with
 | nil=>simp[splitC]
 | cons x r =>
   simp only[splitC]
   split
   ·simp
   ·split<;>simp
theorem indexByte_none (c:UInt8):∀ l:Str,c ∉ l->Lib.indexByte l c=-1
 | [],_=>rfl
 | b::l,h=>by
   have h1:¬ b=c:=fun e=>h (by simp[e])
   have h2:=indexByte_none c l (fun e=>h (by simp[e]))
   simp[Lib.indexByte,h1,h2]
theorem indexByte_app (c:UInt8) (r:Str):∀ a:Str,c ∉ a->Lib.indexByte (a++c::r) c=a.length
 | [],_=>by simp[Lib.indexByte]
 | b::l,h=>by
   have h1:¬ b=c:=fun e=>h (by simp[e])
   have h2:=indexByte_app c r l (fun e=>h (by simp[e]))
   have h3:¬ ((l.length:Int)=-1):=by omega
   simp[Lib.indexByte,h1,h2,h3]
theorem index_none (c:UInt8) (l:Str) (h:c ∉ l):Lib.index l [c]=-1:=by rw[Lib.index_one,indexByte_none c l h]
theorem index_app (c:UInt8) (a r:Str) (h:c ∉ a):Lib.index (a++c::r) [c]=a.length:=by rw[Lib.index_one,indexByte_app c r a h]
theorem first_cut (c:UInt8):∀ l:Str,c ∉ l∨∃ a r,c ∉ a∧l=a++c::r
 | []=>.inl (by simp)
 | x::l=>by
   by_cases hx:x=c
   ·exact .inr ⟨[],l,by simp,by simp[hx]⟩
   ·rcases first_cut c l with h|⟨a,r,ha,rfl⟩
    ·exact .inl (by simp[h,Ne.symm hx])
    ·exact .inr ⟨x::a,r,by simp[ha,Ne.symm hx],by simp⟩
theorem splitC_none (c:UInt8):∀ l:Str,c ∉ l->splitC c l=[l]
 | [],_=>rfl
 | x::l,h=>by
   have h1:¬ x=c:=fun e=>h (by simp[e])
   simp[splitC,h1,splitC_none c l (fun e=>h (by simp[e]))]
theorem splitC_app (c:UInt8) (r:Str):∀ a:Str,c ∉ a->splitC c (a++c::r)=a::splitC c r
 | [],_=>by simp[splitC]
 | x::a,h=>by
   have h1:¬ x=c:=fun e=>h (by simp[e])
   simp[splitC,h1,splitC_app c r a (fun e=>h (by simp[e]))]
theorem count_one_none (c:UInt8) (l:Str) (h:c ∉ l):Lib.count l [c]=0:=Lib.count_miss (index_none c l h)
theorem count_one_app (c:UInt8) (a r:Str) (h:c ∉ a):Lib.count (a++c::r) [c]=1+Lib.count r [c]:=by
 rw[Lib.count_hit (by simp) (index_app c a r h)]
 congr 2
 rw[<-List.drop_drop]
 simp
theorem splitK_one (c:UInt8):∀ (n:Nat) (l:Str),l.length<=n->Lib.splitK [c] 0 (Lib.count l [c]) l=splitC c l:=by
 intro n
 induction n with
 | zero =>
   intro l hl
   have:l=[]:=List.eq_nil_of_length_eq_zero (by omega)
   subst this
   rw[count_one_none c [] (by simp),splitC_none c [] (by simp)]
   rfl
 | succ n ih =>
   intro l hl
   rcases first_cut c l with h|⟨a,r,ha,rfl⟩
   ·rw[count_one_none c l h,splitC_none c l h]
    rfl
   ·rw[count_one_app c a r ha,splitC_app c r a ha,Nat.add_comm,Lib.splitK]
    rw[index_app c a r ha]
    have h3:¬ (((a.length:Int))==-1)=true:=by rw[beq_iff_eq];omega
    rw[if_neg h3]
    congr 1
    ·simp
    ·rw[Int.toNat_natCast,<-List.drop_drop]
     simp only[List.drop_left',List.length_cons,List.length_nil,Nat.zero_add,List.drop_succ_cons,List.drop_zero]
     exact ih r (by simp at hl;omega)
theorem splitC_count (c:UInt8):∀ (n:Nat) (l:Str),l.length<=n->(splitC c l).length=Lib.count l [c]+1:=by
 intro n
 induction n with
 | zero =>
   intro l hl
   have:l=[]:=List.eq_nil_of_length_eq_zero (by omega)
   subst this
   rw[count_one_none c [] (by simp)]
   rfl
 | succ n ih =>
   intro l hl
   rcases first_cut c l with h|⟨a,r,ha,rfl⟩
   ·rw[count_one_none c l h,splitC_none c l h]
    rfl
   ·rw[count_one_app c a r ha,splitC_app c r a ha,List.length_cons,ih r (by simp at hl;omega)]
    omega
theorem splitB_one (c:UInt8) (s:ByteArray):(Lib.splitB ⟨#[c]⟩ 0 (Lib.countB s ⟨#[c]⟩) s).map (·.data.toList)=splitC c (bs s):=by
 rw[Lib.splitB_data]
 exact splitK_one c _ _ (Nat.le_refl _)
def cutC (c:UInt8) (l:Str):Str × Str × Bool:=(l.takeWhile (· != c),(l.dropWhile (· != c)).drop 1,l.contains c)
theorem while_all (p:UInt8->Bool):∀ l:Str,(∀ x∈l,p x=true)->l.takeWhile p=l∧l.dropWhile p=[]
 | [],_=>⟨rfl,rfl⟩
 | x::l,h=>by
   have hx:=h x (by simp)
   obtain⟨h1,h2⟩:=while_all p l (fun y hy=>h y (by simp[hy]))
   simp[hx,h1,h2]
theorem cutC_none (c:UInt8) (l:Str) (h:c ∉ l):cutC c l=(l,[],false):=by
 unfold cutC
 have h1:∀ x∈l,(x != c)=true:=fun x hx=>by
  rw[bne_iff_ne];rintro rfl;exact h hx
 rw[(while_all _ l h1).1,(while_all _ l h1).2]
 simp[h]
theorem cutC_app (c:UInt8) (a r:Str) (h:c ∉ a):cutC c (a++c::r)=(a,r,true):=by
 unfold cutC
 have h1:∀ x∈a,(x != c)=true:=fun x hx=>by
  rw[bne_iff_ne];rintro rfl;exact h hx
 rw[List.takeWhile_append_of_pos h1,List.dropWhile_append_of_pos h1]
 simp
theorem cut_one (c:UInt8) (l:Str):Lib.cut l [c]=cutC c l:=by
 unfold Lib.cut
 rcases first_cut c l with h|⟨a,r,ha,rfl⟩
 ·rw[index_none c l h,cutC_none c l h]
  rfl
 ·rw[index_app c a r ha,cutC_app c a r ha]
  rw[if_pos (by omega)]
  simp only[Int.toNat_natCast,List.length_cons,List.length_nil]
  rw[<-List.drop_drop]
  simp
theorem splitC_length (c:UInt8) (s:ByteArray):(Lib.splitB ⟨#[c]⟩ 0 (Lib.countB s ⟨#[c]⟩) s).length=(splitC c (bs s)).length:=by
 rw[<-splitB_one];simp
theorem bs_append (x y:ByteArray):bs (x++y)=bs x++bs y:=by simp[bs]
theorem str_S {x:ByteArray} {l:Str} (h:bs x=l):Value.string x=S l:=by
 subst h
 have:(⟨(bs x).toArray⟩:ByteArray)=x:=by simp[bs]
 rw[S,this]
end
section
open Go.RowKit
def Ext (w w':World):Prop:=Below w.heap.size w w'
namespace Ext
variable {a b c w w':World}
theorem refl (w:World):Ext w w:=Below.refl _ _
theorem size (h:Ext a b):a.heap.size<=b.heap.size:=Below.size h
theorem trans (h:Ext a b) (k:Ext b c):Ext a c:=Below.trans h (Below.mono k h.size)
theorem alloc (h:Ext a w) (o:Obj):Ext a (w.alloc o):=Below.alloc h h.size o
theorem drew (h:Ext a w):Ext a w.drew:=Below.drew h
theorem drewN (h:Ext a w) (n:Nat):Ext a (w.drewN n):=⟨h.os,h.tape,h.output,h.size,h.block⟩
theorem setCell (h:Ext a w) {p:Addr} (hp:a.heap.size<=p.block) (u:Value):Ext a (w.setCell p u):=Below.setCell h hp u
theorem grow (h:Ext a w) (os:Array Obj):Ext a (Sort.grow w os) :=
 h.trans ⟨rfl,rfl,rfl,by simp[Sort.grow],fun k hk=>by simp[Sort.grow,Array.getElem?_append,hk]⟩
theorem freeze (h:Ext a w) {p:Addr} (hp:a.heap.size<=p.block) (n:Nat):Ext a (w.freeze p n):=by
 refine Below.trans h ?_
 unfold World.freeze
 split
 ·exact Below.refl _ _
 ·exact⟨rfl,rfl,rfl,by simp,fun k hk=>by simp only[Array.getElem?_modify];rw[if_neg (by omega)]⟩
theorem bytesWorld (h:Ext a w) (t:TypeId) (s:ByteArray):Ext a (Lib.bytesWorld w t s):=freeze (alloc (drew h) _) h.size _
theorem cells (h:Ext a b):(∀ k o,k < a.heap.size->b.cell? ⟨k,o,none⟩=a.cell? ⟨k,o,none⟩)∧(∀ k o,k < a.heap.size->b.frozen? ⟨k,o,none⟩=a.frozen? ⟨k,o,none⟩) :=
 ⟨fun k o hk=>Below.cell (p:=⟨k,o,none⟩) h hk,fun k o hk=>Below.frozen (p:=⟨k,o,none⟩) h hk⟩
theorem below (h:Ext a b):Below a.heap.size a b:=h
end Ext
theorem lt_of_cell {w:World} {k o:Nat} {v:Value} (h:w.cell? ⟨k,o,none⟩=some v):k < w.heap.size:=by
 unfold World.cell? at h
 rcases Nat.lt_or_ge k w.heap.size with hlt|hge
 ·exact hlt
 ·rw[Array.getElem?_eq_none hge] at h;cases h
theorem Ext.cell {a b:World} (h:Ext a b) {k o:Nat} {v:Value} (hc:a.cell? ⟨k,o,none⟩=some v):b.cell? ⟨k,o,none⟩=some v:=(h.cells.1 k o (lt_of_cell hc)).trans hc
theorem Ext.var {a b:World} (h:Ext a b) {n:String} {cs:Array Value} (hv:a.var? Tryz.prog n=some cs):b.var? Tryz.prog n=some cs:=by
 unfold World.var? at hv ⊢
 cases hg:Tryz.prog.globalNamed n with
 | none=>rw[hg] at hv;cases hv
 | some g =>
   rw[hg] at hv
   simp only[Option.bind_some] at hv ⊢
   rcases Nat.lt_or_ge g a.heap.size with hlt|hge
   ·rw[Below.block h g hlt];exact hv
   ·rw[Array.getElem?_eq_none hge] at hv;cases hv
def Blk (w:World) (g:Nat) (t:TypeId) (cs:Array Value):Prop:=w.heap[g]?=some (.cells cs t (0,0))
namespace Blk
variable {w w':World} {g:Nat} {t:TypeId} {cs:Array Value}
theorem lt (h:Blk w g t cs):g < w.heap.size:=by
 rcases Nat.lt_or_ge g w.heap.size with hlt|hge
 ·exact hlt
 ·unfold Blk at h;rw[Array.getElem?_eq_none hge] at h;cases h
theorem cell (h:Blk w g t cs) (i:Nat):w.cell? ⟨g,i,none⟩=cs[i]?:=cell_of_row w g i cs t (0,0) h
theorem free (h:Blk w g t cs) (i:Nat):w.frozen? ⟨g,i,none⟩=false:=by
 unfold Blk at h
 simp[World.frozen?,h]
theorem new (w:World) (t:TypeId) (cs:Array Value):Blk (w.alloc (.cells cs t)) w.heap.size t cs:=heap_alloc_new w _
theorem ext (h:Blk w g t cs) (hx:Ext w w'):Blk w' g t cs:=(Below.block hx g h.lt).trans h
theorem alloc (h:Blk w g t cs) (o:Obj):Blk (w.alloc o) g t cs:=h.ext ((Ext.refl w).alloc o)
theorem set (h:Blk w g t cs) (i:Nat) (u:Value):Blk (w.setCell ⟨g,i,none⟩ u) g t (cs.setIfInBounds i u):=by
 unfold Blk at h ⊢
 simp[World.setCell,Array.getElem?_modify,h]
theorem far (h:Blk w g t cs) {p:Addr} (hp:g≠p.block) (u:Value):Blk (w.setCell p u) g t cs:=(Below.heap_setCell w p u g hp).trans h
end Blk
theorem wp_region_ext {P:Program} {id:Nat} {Q:Exit->Act->World->Prop} {a:Act} {w:World} {l:List Oper} (hm:P.follows .mixedOrders=true) (hB:Region.lexB .any l.toArray=true)
 (h:wpQuiet P l.toArray (Ext w) (fun a'=>∀ w',Ext w w'->Q .normal a' w') l a):(Code.region id l.toArray true).wp P Q a w :=
 wp_region_quiet (C:=Ext w) hm hB ((Ext.refl w).drewN 1) (by simpa using h)
structure Good (w:World):Prop where
 maxLen:∃ m,w.cell? ⟨0,0,none⟩=some (.int .i64 m)
theorem Good.ext {w w':World} (g:Good w) (h:Ext w w'):Good w':=⟨let ⟨m,hm⟩:=g.maxLen;⟨m,h.cell hm⟩⟩
structure GoodN (w:World):Prop extends Good w where
 pow10:Lib.TabIs Tryz.prog w "internal/strconv.uint64pow10" .u64 Lib.pow10Tab
 errS:∃ tp p,w.var? Tryz.prog "strconv.ErrSyntax"=some #[.iface tp p]
 errR:∃ tp p,w.var? Tryz.prog "strconv.ErrRange"=some #[.iface tp p]
theorem GoodN.ext {w w':World} (g:GoodN w) (h:Ext w w'):GoodN w' :=
 ⟨g.toGood.ext h,h.var g.pow10,let ⟨t,p,e⟩:=g.errS;⟨t,p,h.var e⟩,let ⟨t,p,e⟩:=g.errR;⟨t,p,h.var e⟩⟩
theorem ret_bool {a b:Bool} (h:a=b):Ending.returned (.bool a)=.returned (.bool b):=by rw[h]
theorem ret_int {k:IntKind} {a b:Int} (h:a=b):Ending.returned (.int k a)=.returned (.int k b):=by rw[h]
theorem ret_str {a b:Str} (h:a=b):Ending.returned (S a)=.returned (S b):=by rw[h]
theorem ret_strS {x:ByteArray} {l:Str} (h:bs x=l):Ending.returned (.string x)=.returned (S l):=by rw[str_S h]
theorem toList_length (s:ByteArray):s.toList.length=s.size:=by rw[ByteArray.toList_eq,Array.length_toList];rfl
theorem bs_length (s:ByteArray):(bs s).length=s.size:=by rw[<-toList_length,ByteArray.toList_eq]
theorem size_zero {s:ByteArray} (h:s.toList=[]):s.size=0:=by rw[<-toList_length,h];rfl
theorem size_pos {s:ByteArray} (h:¬ s.toList=[]):0 < s.size:=by
 rw[<-toList_length]
 exact List.length_pos_iff.2 h
theorem take_size (s:ByteArray):s.data.toList.take s.size=s.data.toList:=List.take_of_length_le (by simp)
theorem emp_of_size {s:ByteArray} (h:s.size=0):s.toList=[]:=List.eq_nil_of_length_eq_zero (by rw[toList_length,h])
theorem nemp_of_size {s:ByteArray} (h:0 < s.size):¬ s.toList=[]:=fun e=>by have:=size_zero e;omega
theorem emp_bool {s:ByteArray} (h:s.size=0):s.toList.isEmpty=true:=by rw[emp_of_size h];rfl
theorem nemp_bool {s:ByteArray} (h:0 < s.size):s.toList.isEmpty=false:=by
 have:=nemp_of_size h
 simpa using this
theorem mk_bs (s:ByteArray):(⟨(bs s).toArray⟩:ByteArray)=s:=Lib.mk_data s
theorem S_bs (s:ByteArray):S (bs s)=.string s:=by rw[S,mk_bs]
theorem bs_mk (l:Str):bs ⟨l.toArray⟩=l:=by simp[bs]
theorem Ext.au {a w:World} (h:Ext a w:=by repeat (first|with_reducible exact Ext.refl _|with_reducible assumption|with_reducible apply Ext.drewN|with_reducible apply Ext.drew|with_reducible apply Ext.alloc|exact Ext.refl _|assumption|apply Ext.drewN|apply Ext.drew|apply Ext.alloc)):Ext a w:=h
theorem Ext.ad {a w:World} (h:Ext a w:=by repeat (first|with_reducible exact Ext.refl _|with_reducible assumption|with_reducible apply Ext.drewN|with_reducible apply Ext.drew|with_reducible apply Ext.alloc|((with_reducible refine Ext.setCell ?_ ?_ _);rotate_left;(first|(dsimp only;omega)|(simp;omega)|skip))|exact Ext.refl _|assumption|apply Ext.drewN|apply Ext.drew|apply Ext.alloc|refine Ext.setCell ?_ (by first|(dsimp only;omega)|(simp;omega)) _)):Ext a w:=h
theorem Hy {p:Prop} (h:p):Go.RowKit.Hid p:=Lib.hid h
end
section
open Go.RowKit
def smallB (c:UInt8):Bool:=decide (97<=c.toNat)&&decide (c.toNat<=122)
def digitB (c:UInt8):Bool:=decide (48<=c.toNat)&&decide (c.toNat<=57)
def greatB (c:UInt8):Bool:=decide (65<=c.toNat)&&decide (c.toNat<=90)
def nameB (c:UInt8):Bool:=smallB c||digitB c||decide (c.toNat=45)||decide (c.toNat=46)
def partB (c:UInt8):Bool:=smallB c||greatB c||digitB c||decide (c.toNat=45)||decide (c.toNat=46)||decide (c.toNat=95)
def valueB (c:UInt8):Bool:=decide (32<=c.toNat)&&decide (c.toNat<=126)
def wordB (c:UInt8):Bool:=smallB c||digitB c
set_option maxHeartbeats 400000 in
theorem isSmall_any (c:UInt8) (w:World) :
 Calls Tryz.prog 78 #[.int .u8 c.toNat] w fun e w'=>e=.returned (.bool (smallB c))∧w=w':=by
 go_enter Tryz.func78,Tryz.ntmps78
 go_wp2
 all_goals go_ret
 all_goals refine⟨ret_bool ?_,rfl⟩
 all_goals rw[Bool.eq_iff_iff]
 all_goals simp only[smallB,Bool.and_eq_true,decide_eq_true_eq,Bool.false_eq_true,false_iff,not_and]
 all_goals omega
set_option maxHeartbeats 400000 in
theorem isDigit_any (c:UInt8) (w:World) :
 Calls Tryz.prog 79 #[.int .u8 c.toNat] w fun e w'=>e=.returned (.bool (digitB c))∧w=w':=by
 go_enter Tryz.func79,Tryz.ntmps79
 go_wp2
 all_goals go_ret
 all_goals refine⟨ret_bool ?_,rfl⟩
 all_goals rw[Bool.eq_iff_iff]
 all_goals simp only[digitB,Bool.and_eq_true,decide_eq_true_eq,Bool.false_eq_true,false_iff,not_and]
 all_goals omega
set_option maxHeartbeats 400000 in
theorem isName1_any (c:UInt8) (w:World) :
 Calls Tryz.prog 77 #[.int .u8 c.toNat] w fun e w'=>e=.returned (.bool (nameB c))∧w=w':=by
 go_enter Tryz.func77,Tryz.ntmps77
 go_wp2_with (first|(go_at_call 78;refine (isSmall_any _ _).mono ?_;rintro e w' ⟨rfl,rfl⟩)|(go_at_call 79;refine (isDigit_any _ _).mono ?_;rintro e w' ⟨rfl,rfl⟩))
 all_goals go_ret
 all_goals refine⟨ret_bool ?_,rfl⟩
 all_goals rw[Bool.eq_iff_iff]
 all_goals simp[nameB, *]
 all_goals omega
set_option maxHeartbeats 400000 in
theorem isValue1_any (c:UInt8) (w:World) :
 Calls Tryz.prog 81 #[.int .u8 c.toNat] w fun e w'=>e=.returned (.bool (valueB c))∧w=w':=by
 go_enter Tryz.func81,Tryz.ntmps81
 go_wp2
 all_goals go_ret
 all_goals refine⟨ret_bool ?_,rfl⟩
 all_goals rw[Bool.eq_iff_iff]
 all_goals simp only[valueB,Bool.and_eq_true,decide_eq_true_eq,Bool.false_eq_true,false_iff,not_and]
 all_goals omega
set_option maxHeartbeats 400000 in
theorem isEarly1_any (c:UInt8) (w:World) :
 Calls Tryz.prog 149 #[.int .u8 c.toNat] w fun e w'=>e=.returned (.bool (wordB c))∧w=w':=by
 go_enter Tryz.func149,Tryz.ntmps149
 go_wp2_with (first|(go_at_call 78;refine (isSmall_any _ _).mono ?_;rintro e w' ⟨rfl,rfl⟩)|(go_at_call 79;refine (isDigit_any _ _).mono ?_;rintro e w' ⟨rfl,rfl⟩))
 all_goals go_ret
 all_goals refine⟨ret_bool ?_,rfl⟩
 all_goals simp[wordB, *]
set_option maxHeartbeats 400000 in
theorem isPart1_any (c:UInt8) (w:World) :
 Calls Tryz.prog 151 #[.int .u8 c.toNat] w fun e w'=>e=.returned (.bool (partB c))∧w=w':=by
 go_enter Tryz.func151,Tryz.ntmps151
 go_wp2_with (first|(go_at_call 78;refine (isSmall_any _ _).mono ?_;rintro e w' ⟨rfl,rfl⟩)|(go_at_call 79;refine (isDigit_any _ _).mono ?_;rintro e w' ⟨rfl,rfl⟩))
 all_goals go_ret
 all_goals refine⟨ret_bool ?_,rfl⟩
 all_goals rw[Bool.eq_iff_iff]
 all_goals simp[partB,greatB, *]
 all_goals omega
structure IsPred (f:FuncId) (p:UInt8->Bool):Prop where
 enter:∀ xs w,Sem.run Tryz.prog (callFunc f xs) w=.ok (.enter f xs) w
 calls:∀ (c:UInt8) (w:World),Calls Tryz.prog f #[.int .u8 c.toNat] w fun e w'=>e=.returned (.bool (p c))∧w=w'
theorem isDigit_pred:IsPred 79 digitB:=⟨fun xs w=>by kernel_rfl,isDigit_any⟩
theorem isValue1_pred:IsPred 81 valueB:=⟨fun xs w=>by kernel_rfl,isValue1_any⟩
theorem isEarly1_pred:IsPred 149 wordB:=⟨fun xs w=>by kernel_rfl,isEarly1_any⟩
theorem isPart1_pred:IsPred 151 partB:=⟨fun xs w=>by kernel_rfl,isPart1_any⟩
theorem isName1_pred:IsPred 77 nameB:=⟨fun xs w=>by kernel_rfl,isName1_any⟩
theorem all_take_succ (p:UInt8->Bool) (s:ByteArray) (k:Nat) (h:k < s.size):(s.data.toList.take (k+1)).all p=((s.data.toList.take k).all p&&p s[k]):=by
 rw[List.take_succ_eq_append_getElem (by simpa using h)]
 simp[ByteArray.getElem_eq_getElem_data]
theorem all_false_of (p:UInt8->Bool) (s:ByteArray) (k:Nat) (h:k < s.size) (hp:p s[k]=false):s.data.toList.all p=false:=by
 rw[List.all_eq_false]
 exact⟨s[k],by simp[ByteArray.getElem_eq_getElem_data],by simp[hp]⟩
def eachB (p:UInt8->Bool) (s:ByteArray) (n:Int):Bool:=s.data.toList.all p&&decide (0 < s.size)&&decide ((s.size:Int)<=n)
set_option maxHeartbeats 400000 in
theorem each_any (f:FuncId) (p:UInt8->Bool) (s:ByteArray) (n:Int) (w:World) (hs:s.size<=2097152) (hf:IsPred f p) :
 Calls Tryz.prog 76 #[.string s,.int .i64 n,.func (.func f) #[] #[]] w fun e w'=>e=.returned (.bool (eachB p s n))∧w=w':=by
 have hen:=hf.enter
 go_enter Tryz.func76,Tryz.ntmps76
 go_wp2
 go_loop [7] (fun i=>∃ k:Nat,k<=s.size∧i=.int .i64 k∧(s.data.toList.take k).all p=true) (fun i=>s.size - (intOf i).toNat)
 case atStart=>exact⟨0,Nat.zero_le _,rfl,by simp⟩
 case round =>
  obtain⟨k,hk,rfl,hall⟩:=hrel
  have HALL:=Hy hall
  clear hall
  by_cases hlt:k < s.size
  ·go_wp2_with (fail)
   refine (hf.calls _ _).mono ?_
   rintro e w' ⟨rfl,rfl⟩
   cases hp:p s[k]
   ·go_wp2
    go_ret
    refine⟨ret_bool ?_,rfl⟩
    unfold eachB
    rw[all_false_of p s k hlt hp]
    rfl
   ·go_wp2
    go_round
    case rel=>exact⟨k+1,by omega,by go_num,by rw[all_take_succ _ _ _ hlt,HALL.out,hp];rfl⟩
    case measure=>simp[intOf];omega
  ·obtain rfl:k=s.size:=by omega
   go_wp2
   all_goals go_ret
   all_goals refine⟨ret_bool ?_,rfl⟩
   all_goals rw[take_size] at HALL
   all_goals unfold eachB
   all_goals rw[HALL.out]
   ·simp[size_zero ‹_›]
   ·simp[size_pos ‹_›,‹¬ s.toList=[]›]
end
section
open Go.RowKit
theorem size_list (s:ByteArray):s.size=(bs s).length:=(bs_length s).symm
def eachL (p:UInt8->Bool) (l:Str) (n:Nat):Bool:=l.all p&&decide (0 < l.length)&&decide (l.length<=n)
theorem eachB_L (p:UInt8->Bool) (s:ByteArray) (n:Nat):eachB p s (n:Int)=eachL p (bs s) n:=by
 unfold eachB eachL
 rw[size_list]
 congr 1
 rw[decide_eq_decide]
 omega
theorem eachL_pos {p:UInt8->Bool} {s:ByteArray} {n:Nat} (h:eachL p (bs s) n=true):0 < s.size:=by
 unfold eachL at h
 simp only[Bool.and_eq_true,decide_eq_true_eq] at h
 rw[size_list];exact h.1.2
theorem each_list (f:FuncId) (p:UInt8->Bool) (s:ByteArray) (n:Nat) (w:World) (hs:s.size<=2097152) (hf:IsPred f p) :
 Calls Tryz.prog 76 #[.string s,.int .i64 n,.func (.func f) #[] #[]] w fun e w'=>e=.returned (.bool (eachL p (bs s) n))∧w=w' :=
 (each_any f p s n w hs hf).mono fun _ _ ⟨h,k⟩=>⟨by rw[h,eachB_L],k⟩
def nameL (l:Str):Bool:=eachL nameB l 40&&smallB (l.headD 0)
theorem head_bs (s:ByteArray) (h:0 < s.size):(bs s).headD 0=s[0]:=by
 have h1:s.data.toList[0]?=some s[0]:=Lib.data_getElem? s 0 h
 unfold bs
 cases hl:s.data.toList with
 | nil=>rw[hl] at h1;cases h1
 | cons x r=>rw[hl] at h1;simpa using h1
set_option maxHeartbeats 400000 in
theorem IsName_any (s:ByteArray) (w:World) (hs:s.size<=2097152) :
 Calls Tryz.prog 18 #[.string s] w fun e w'=>e=.returned (.bool (nameL (bs s)))∧w=w':=by
 go_enter Tryz.func18,Tryz.ntmps18
 go_wp2_with fail
 refine (each_list _ _ s 40 _ hs isName1_pred).mono ?_
 rintro e w' ⟨rfl,rfl⟩
 cases h:eachL nameB (bs s) 40
 ·go_wp2
  go_ret
  exact⟨ret_bool (by rw[nameL,h];rfl),rfl⟩
 ·have hp:=eachL_pos h
  go_wp2_with (go_at_call 78;refine (isSmall_any _ _).mono ?_;rintro e w' ⟨rfl,rfl⟩)
  go_ret
  exact⟨ret_bool (by rw[nameL,h,head_bs s hp];rfl),rfl⟩
def partL (l:Str):Bool:=eachL partB l 40&&(l != [46])&&(l != [46,46])
theorem lit_beq (s:ByteArray) (l:Str):(s.toList==l)=(bs s==l):=by rw[ByteArray.toList_eq]
set_option maxHeartbeats 400000 in
theorem isPart_any (s:ByteArray) (w:World) (hs:s.size<=2097152) :
 Calls Tryz.prog 80 #[.string s] w fun e w'=>e=.returned (.bool (partL (bs s)))∧w=w':=by
 go_enter Tryz.func80,Tryz.ntmps80
 go_wp2_with fail
 refine (each_list _ _ s 40 _ hs isPart1_pred).mono ?_
 rintro e w' ⟨rfl,rfl⟩
 cases h:eachL partB (bs s) 40
 ·go_wp2
  go_ret
  exact⟨ret_bool (by rw[partL,h];rfl),rfl⟩
 ·go_wp2
  all_goals go_ret
  all_goals refine⟨ret_bool ?_,rfl⟩
  all_goals simp_all [partL,ByteArray.toList_eq]
  all_goals rfl
def valueL (l:Str):Bool:=l.all valueB&&decide (l.length<=1000)
theorem bs_nil {s:ByteArray} (h:s.size=0):bs s=[]:=List.eq_nil_of_length_eq_zero (by rw[bs_length,h])
theorem eachL_value {s:ByteArray} (h:0 < s.size):eachL valueB (bs s) 1000=valueL (bs s):=by
 unfold eachL valueL
 rw[bs_length,decide_eq_true h,Bool.and_true]
set_option maxHeartbeats 400000 in
theorem IsValue_any (s:ByteArray) (w:World) (hs:s.size<=2097152) :
 Calls Tryz.prog 22 #[.string s] w fun e w'=>e=.returned (.bool (valueL (bs s)))∧w=w':=by
 go_enter Tryz.func22,Tryz.ntmps22
 rcases Nat.eq_zero_or_pos s.size with h0|h0
 ·have he:=emp_of_size h0
  go_wp2
  go_ret
  exact⟨ret_bool (by rw[bs_nil h0];rfl),rfl⟩
 ·have he:=nemp_of_size h0
  go_wp2_with (go_at_call 76;refine (each_list _ _ s 1000 _ hs isValue1_pred).mono ?_;rintro e w' ⟨rfl,rfl⟩)
  go_ret
  have hi:s.toList.isEmpty=false:=by simpa using he
  exact⟨ret_bool (by rw[eachL_value h0,hi];rfl),rfl⟩
def numeralL (l:Str):Bool:=eachL digitB l 10
set_option maxHeartbeats 400000 in
theorem isNumeral_any (s:ByteArray) (w:World) (hs:s.size<=2097152) :
 Calls Tryz.prog 150 #[.string s] w fun e w'=>e=.returned (.bool (numeralL (bs s)))∧w=w':=by
 go_enter Tryz.func150,Tryz.ntmps150
 go_wp2_with (go_at_call 76;refine (each_list _ _ s 10 _ hs isDigit_pred).mono ?_;rintro e w' ⟨rfl,rfl⟩)
 go_ret
 exact⟨rfl,rfl⟩
set_option maxHeartbeats 400000 in
theorem outside_any (n a b:Int) (w:World) :
 Calls Tryz.prog 74 #[.int .i64 n,.int .i64 a,.int .i64 b] w fun e w'=>e=.returned (.bool (decide (n < a∨b < n)))∧w=w':=by
 go_enter Tryz.func74,Tryz.ntmps74
 go_wp2
 all_goals go_ret
 all_goals refine⟨ret_bool ?_,rfl⟩
 all_goals simp
 all_goals omega
set_option maxHeartbeats 400000 in
theorem In_any (n a b:Int) (w:World) :
 Calls Tryz.prog 58 #[.int .i64 n,.int .i64 a,.int .i64 b] w fun e w'=>e=.returned (.bool (decide (a<=n∧n<=b)))∧w=w':=by
 go_enter Tryz.func58,Tryz.ntmps58
 go_wp2
 all_goals go_ret
 all_goals refine⟨ret_bool ?_,rfl⟩
 all_goals simp
 all_goals omega
set_option maxHeartbeats 400000 in
theorem When_any (b:Bool) (n:Int) (w:World) :
 Calls Tryz.prog 38 #[.bool b,.int .i64 n] w fun e w'=>e=.returned (.int .i64 (if b then n else 0))∧w=w':=by
 go_enter Tryz.func38,Tryz.ntmps38
 cases b
 all_goals go_wp2
 all_goals go_ret
 all_goals exact⟨rfl,rfl⟩
end
section
open Go.RowKit
def firstI:List Int->Int
 | []=>0
 | e::r=>if e=0 then firstI r else e
theorem firstI_zero:∀ {l:List Int},(∀ x∈l,x=0)->firstI l=0
 | [],_=>rfl
 | e::r,h=>by
   unfold firstI
   rw[if_pos (h e (by simp)),firstI_zero fun x hx=>h x (by simp[hx])]
theorem firstI_at:∀ {l:List Int} {k:Nat} (hk:k < l.length),(∀ x∈l.take k,x=0)->l[k]≠0->firstI l=l[k]
 | e::r,0,_,_,h=>by unfold firstI;rw[if_neg (by simpa using h)];rfl
 | e::r,k+1,hk,h0,h=>by
   unfold firstI
   rw[if_pos (h0 e (by simp))]
   exact firstI_at (l:=r) (k:=k) (by simpa using hk) (fun x hx=>h0 x (by simp[hx])) (by simpa using h)
theorem take_zero_succ {l:List Int} {k:Nat} (hk:k < l.length) (h:∀ x∈l.take k,x=0) (h0:l[k]=0):∀ x∈l.take (k+1),x=0:=by
 intro x hx
 rw[List.take_succ_eq_append_getElem hk,List.mem_append] at hx
 rcases hx with hx|hx
 ·exact h x hx
 ·simp at hx;rw[hx,h0]
set_option maxHeartbeats 400000 in
theorem First_any (b c:Nat) (es:List Int) (w:World) (hc:∀ k (h:k < es.length),w.cell? ⟨b,k,none⟩=some (.int .i64 es[k])) (hl:es.length<=1000) :
 Calls Tryz.prog 11 #[.slice (some ⟨b,0,none⟩) es.length c] w fun e w'=>e=.returned (.int .i64 (firstI es))∧w=w':=by
 go_enter Tryz.func11,Tryz.ntmps11
 go_wp2
 go_loop [7] (fun i=>∃ k:Nat,k<=es.length∧i=.int .i64 k∧∀ x∈es.take k,x=0) (fun i=>es.length - (intOf i).toNat)
 case atStart=>exact⟨0,Nat.zero_le _,rfl,by simp⟩
 case round =>
  obtain⟨k,hk,rfl,hall⟩:=hrel
  have HALL:=Hy hall
  clear hall
  by_cases hlt:k < es.length
  ·have hk1:=hc k hlt
   have HC:=Hy hc
   clear hc
   by_cases h0:es[k]=0
   ·have H0:=Hy h0
    rw[h0] at hk1
    clear h0
    go_wp2
    go_round
    case rel=>exact⟨k+1,by omega,by go_num,take_zero_succ hlt HALL.out H0.out⟩
    case measure=>simp[intOf];omega
   ·go_wp2
    go_ret
    exact⟨ret_int (firstI_at hlt HALL.out h0).symm,rfl⟩
  ·obtain rfl:k=es.length:=by omega
   have HC:=Hy hc
   clear hc
   go_wp2
   go_ret
   exact⟨ret_int (firstI_zero (by simpa using HALL.out)).symm,rfl⟩
end
section
open Go.RowKit
structure Strs (w:World) (b:Nat) (xs:List ByteArray):Prop where
 lt:b < w.heap.size
 cell:∀ k (h:k < xs.length),w.cell? ⟨b,k,none⟩=some (.string xs[k])
theorem Strs.ext {w w':World} {b:Nat} {xs:List ByteArray} (h:Strs w b xs) (hx:Ext w w'):Strs w' b xs:=⟨Nat.lt_of_lt_of_le h.lt hx.size,fun k hk=>hx.cell (h.cell k hk)⟩
theorem split_any (c:UInt8) (s:ByteArray) (w:World) (hg:Good w) (hs:s.size<=2097152) :
 Calls Tryz.prog 70 #[.string s,.string ⟨#[c]⟩] w fun e w'=>∃ (b:Nat) (xs:List ByteArray),
  e=.returned (.slice (some ⟨b,0,none⟩) xs.length xs.length)∧w.heap.size<=b∧Strs w' b xs∧xs.map bs=splitC c (bs s)∧Ext w w':=by
 obtain⟨m,hm⟩:=hg.maxLen
 refine (Tryz.strings_Split s ⟨#[c]⟩ m w (by omega) hm (Nat.le_refl _)).mono ?_
 rintro e w' ⟨rfl,rfl⟩
 have hlen:(Lib.splitB ⟨#[c]⟩ 0 (Lib.countB s ⟨#[c]⟩) s).length=Lib.countB s ⟨#[c]⟩+1:=by
  rw[splitC_length,splitC_count c _ _ (Nat.le_refl _)]
 refine⟨w.heap.size,_,by rw[hlen],Nat.le_refl _,⟨by simp,?_⟩,splitB_one c s,(Ext.refl w).alloc _⟩
 intro k hk
 rw[World.cell?_alloc_at _ _ _ _ rfl]
 simp[hk]
theorem cut_any (c:UInt8) (s:ByteArray) (w:World) (hg:Good w) (hs:s.size<=2097152) :
 Calls Tryz.prog 86 #[.string s,.string ⟨#[c]⟩] w fun e w'=>e=.returned (.tuple #[S (cutC c (bs s)).1,S (cutC c (bs s)).2.1,.bool (cutC c (bs s)).2.2])∧Ext w w':=by
 obtain⟨m,hm⟩:=hg.maxLen
 refine (Tryz.strings_Cut s ⟨#[c]⟩ m w (by omega) hm).mono ?_
 rintro e w' ⟨rfl,n,rfl⟩
 exact⟨by rw[show (⟨#[c]⟩:ByteArray).data.toList=[c] from rfl,cut_one],(Ext.refl w).drewN n⟩
theorem cutC_size (c:UInt8) (l:Str):(cutC c l).1.length<=l.length∧(cutC c l).2.1.length<=l.length:=by
 rcases first_cut c l with h|⟨a,r,ha,rfl⟩
 ·rw[cutC_none c l h];simp
 ·rw[cutC_app c a r ha];simp;omega
theorem cut_ex (c:UInt8) (s:ByteArray) (w:World) (hg:Good w) (hs:s.size<=2097152) :
 Calls Tryz.prog 86 #[.string s,.string ⟨#[c]⟩] w fun e w'=>∃ (a b:ByteArray) (f:Bool),e=.returned (.tuple #[.string a,.string b,.bool f])∧cutC c (bs s)=(bs a,bs b,f)∧a.size<=s.size∧b.size<=s.size∧Ext w w' :=
 (cut_any c s w hg hs).mono fun _ _ ⟨h,k⟩=>by
   have h1:=cutC_size c (bs s)
   rw[bs_length] at h1
   exact⟨_,_,_,h,by rw[bs_mk,bs_mk],by rw[<-bs_length,bs_mk];exact h1.1,by rw[<-bs_length,bs_mk];exact h1.2,k⟩
theorem contains_any (c:UInt8) (s:ByteArray) (w:World) (hg:Good w) (hs:s.size<=2097152) :
 Calls Tryz.prog 232 #[.string s,.string ⟨#[c]⟩] w fun e w'=>e=.returned (.bool ((bs s).contains c))∧w=w':=by
 obtain⟨m,hm⟩:=hg.maxLen
 refine (Tryz.strings_Contains s ⟨#[c]⟩ m w (by omega) hm).mono ?_
 rintro e w' ⟨rfl,rfl⟩
 refine⟨ret_bool ?_,rfl⟩
 unfold Lib.contains
 rw[show (⟨#[c]⟩:ByteArray).data.toList=[c] from rfl]
 rcases first_cut c (bs s) with h|⟨a,r,ha,hr⟩
 ·rw[index_none c _ h];simp[h]
 ·rw[show s.data.toList=a++c::r from hr,index_app c a r ha];simp[bs,hr]
theorem cutPrefix_any (s p:ByteArray) (w:World) :
 Calls Tryz.prog 96 #[.string s,.string p] w fun e w'=>e=.returned (.tuple #[S (Lib.trimPrefix (bs s) (bs p)),.bool ((bs p).isPrefixOf (bs s))])∧w=w' :=
 (Tryz.strings_CutPrefix s p w).mono fun _ _ ⟨h,k⟩=>⟨h,k.symm⟩
theorem indexByte_any (s:ByteArray) (c:UInt8) (w:World) :
 Calls Tryz.prog 162 #[.string s,.int .u8 c.toNat] w fun e w'=>e=.returned (.int .i64 (Lib.indexByte (bs s) c))∧w=w' :=
 (Tryz.strings_IndexByte s c.toNat w).mono fun _ _ ⟨h,k⟩=>⟨by rw[h,Lib.byte_back],k.symm⟩
theorem compare_any (a b:ByteArray) (w:World) :
 Calls Tryz.prog 44 #[.string a,.string b] w fun e w'=>e=.returned (.int .i64 (Lib.compareBytes (bs a) (bs b)))∧w=w' :=
 (Tryz.strings_Compare a b w).mono fun _ _ ⟨h,k⟩=>⟨h,k.symm⟩
theorem compareInt_any (a b:Int) (w:World) :
 Calls Tryz.prog 84 #[.int .i64 a,.int .i64 b] w fun e w'=>e=.returned (.int .i64 (Lib.compareInt a b))∧w=w' :=
 (Tryz.cmp_Compare_int a b w).mono fun _ _ ⟨h,k⟩=>⟨h,k.symm⟩
theorem itoa_any (n:Int) (w:World) (hg:GoodN w) (h0:-9223372036854775808<=n) (h1:n<=9223372036854775807) :
 Calls Tryz.prog 82 #[.int .i64 n] w fun e w'=>e=.returned (S (Lib.itoa n))∧Ext w w' :=
 (Tryz.strconv_Itoa n h0 h1 w hg.pow10).mono fun _ _ ⟨h,k,os,hk⟩=>⟨h,by rw[hk];exact ((Ext.refl w).drewN k).grow os⟩
theorem atoi_any (s:ByteArray) (w:World) (hg:GoodN w) (hs:s.size<=2097152) :
 Calls Tryz.prog 85 #[.string s] w fun e w'=>∃ (v:Int) (ev:Value),e=.returned (.tuple #[.int .i64 v,ev])∧Ext w w' ∧
  (∀ u,Lib.atoiAll (bs s)=.ok u->v=u∧ev=.nilIface)∧(ev=.nilIface∨∃ t p,ev=.iface t p):=by
 cases h:Lib.atoiAll s.data.toList
 ·rename_i u
  refine (Tryz.strconv_Atoi_ok s (by omega) u h w).mono ?_
  rintro e w' ⟨rfl,hw⟩
  refine⟨u,.nilIface,rfl,?_,fun u' hu=>⟨by injection hu,rfl⟩,.inl rfl⟩
  rcases hw with rfl|⟨t,rfl⟩
  ·exact Ext.refl _
  ·exact (Ext.refl _).bytesWorld _ _
 ·obtain⟨tp,p,hv⟩:=hg.errS
  refine (Any.strconv_Atoi_syntax_var Tryz.laysC172 s (by omega) h tp p w hv).mono ?_
  rintro e w' ⟨N,rfl,_,_,hb⟩
  exact⟨_,_,rfl,hb,(fun u' hu=>by cases hu),.inr ⟨_,_,rfl⟩⟩
 ·obtain⟨tp,p,hv⟩:=hg.errR
  refine (Tryz.strconv_Atoi_range_var s (by omega) h tp p w hv).mono ?_
  rintro e w' ⟨N,rfl,_,_,hb⟩
  exact⟨_,_,rfl,hb,(fun u' hu=>by cases hu),.inr ⟨_,_,rfl⟩⟩
theorem trim_any (s cs:ByteArray) (w:World) (hs:s.size<=2097152) (hcs:cs.size<=1000) (hascii:∀ (j:Nat) b,cs.data.toList[j]?=some b->b.toNat < 128) :
 Calls Tryz.prog 146 #[.string s,.string cs] w fun e w'=>e=.returned (S (Lib.trimS (bs s) (bs cs)))∧Ext w w' :=
 Any.strings_Trim_laid Tryz.laysT160 (by kernel_rfl) s cs w (by omega) (by omega) hascii
end
section
open Go
def lackOf (listed:Array Bool):Nat:=listed.toList.countP fun b=>!b
theorem count_set:∀ (l:List Bool) (i:Nat),l[i]?=some false->(l.set i true).countP (fun b=>!b)+1=l.countP fun b=>!b
 | [],_,h=>by cases h
 | b::l,0,h=>by
   have h:b=false:=Option.some.inj h
   subst h
   simp
 | b::l,i+1,h=>by
   have ih:=count_set l i h
   simp only[List.set_cons_succ,List.countP_cons]
   omega
theorem lackOf_set {listed:Array Bool} {i:Nat} (hi:i < listed.size) (h:listed.getD i true=false):lackOf (listed.setIfInBounds i true)+1=lackOf listed:=by
 unfold lackOf
 rw[Array.toList_setIfInBounds]
 refine count_set _ _ ?_
 rw[Array.getElem?_toList,Array.getElem?_eq_getElem hi]
 have:listed.getD i true=listed[i]:=by simp[Array.getD,hi]
 rw[<-this,h]
theorem lackOf_rep (n:Nat):lackOf (Array.replicate n false)=n:=by
 unfold lackOf
 rw[Array.toList_replicate,List.countP_replicate]
 rfl
theorem getD_pos {listed:Array Bool} {i:Nat} (h:listed.getD i true=false):i < listed.size:=by
 rcases Nat.lt_or_ge i listed.size with h1|h1
 ·exact h1
 ·simp[Array.getD,Nat.not_lt.2 h1] at h
section
variable {P:Program} {md:Region.Mode} {ops:Array Oper} {Q:Exit->Act->World->Prop}
theorem wpAny_inv (J:Array Bool->Act->World->Prop)
 (hstep:∀ (i:Nat) (o:Oper) (listed:Array Bool) (a:Act) (w:World),listed.size=ops.size->ops[i]?=some o->listed.getD i true=false->(∀ e∈o.after,Region.binds md e=true->listed.getD e.on false=true)->J listed a w ->
   ∀ K:Act->World->Prop,(∀ a w,J (listed.setIfInBounds i true) a w->K a w)->if Region.wanted o (yielded ops a.tmps)=true then Oper.wp P o a w K Q else K (a.put o.dst undef) w)
 (hend:∀ (listed:Array Bool) (a:Act) (w:World),listed.size=ops.size->Region.ready md ops listed=[]->J listed a w->Q .normal a w) :
 ∀ (fuel:Nat) (listed:Array Bool) (a:Act) (w:World),listed.size=ops.size->lackOf listed<=fuel->J listed a w->wpAny P md ops Q fuel listed a w:=by
 intro fuel
 induction fuel with
 | zero =>
   intro listed a w hsz hf hj
   have hr:Region.ready md ops listed=[]:=by
    apply List.eq_nil_iff_forall_not_mem.2
    intro i hi
    obtain⟨h1,_⟩:=mem_ready.1 hi
    have:=lackOf_set (getD_pos h1) h1
    omega
   exact⟨hr,hend listed a w hsz hr hj⟩
 | succ fuel ih =>
   intro listed a w hsz hf hj
   refine⟨fun hr=>hend listed a w hsz hr hj,fun i hi=>?_⟩
   obtain⟨h1,o,ho,hall⟩:=mem_ready.1 hi
   have hl:=lackOf_set (getD_pos h1) h1
   exact wpOp_step ho fun K hK=>hstep i o listed a w hsz ho h1 hall hj K fun a' w' hj'=>hK a' w' (ih _ a' w' (by rw[Array.size_setIfInBounds];exact hsz) (by omega) hj')
theorem wp_region_inv {id:Nat} {a:Act} {w:World} (hm:P.follows .mixedOrders=true) (J:Array Bool->Act->World->Prop)
 (hstart:J (Array.replicate ops.size false) a w.drew)
 (hstep:∀ (i:Nat) (o:Oper) (listed:Array Bool) (a:Act) (w:World),listed.size=ops.size->ops[i]?=some o->listed.getD i true=false->(∀ e∈o.after,Region.binds .any e=true->listed.getD e.on false=true)->J listed a w ->
   ∀ K:Act->World->Prop,(∀ a w,J (listed.setIfInBounds i true) a w->K a w)->if Region.wanted o (yielded ops a.tmps)=true then Oper.wp P o a w K Q else K (a.put o.dst undef) w)
 (hend:∀ (listed:Array Bool) (a:Act) (w:World),listed.size=ops.size->Region.ready .any ops listed=[]->J listed a w->Q .normal a w) :
 (Code.region id ops true).wp P Q a w :=
 wp_region_any hm (wpAny_inv J hstep hend _ _ _ _ (by simp) (by rw[lackOf_rep];exact Nat.le_refl _) hstart)
end
end
section
open Go
structure Fact where
 holds:World->Prop
 stays:∀ w w',holds w->Ext w w'->holds w'
def Fact.no:Fact:=⟨fun _=>True,fun _ _ _ _=>trivial⟩
inductive Held
 | one (v:Value)
 | fam (β:Type) (d:β) (val:β->Value) (fact:β->Fact)
def waitsFor (o:Oper) (j:Nat):Bool:=o.after.toList.any fun e=>Region.binds .any e&&e.on==j
def dstIs (ops:Array Oper) (j:Nat) (x:Tmp):Bool:=match ops[j]? with|some o=>o.dst==some x|none=>false
structure Cls (w0:World) (o:Oper) (F:Nat->Fact) (w:World):Prop where
 ext:Ext w0 w
 facts:∀ j,waitsFor o j=true->(F j).holds w
theorem Cls.grow {w0 w w':World} {o:Oper} {F:Nat->Fact} (h:Cls w0 o F w) (hx:Ext w w'):Cls w0 o F w':=⟨h.ext.trans hx,fun j hj=>(F j).stays _ _ (h.facts j hj) hx⟩
def setF (F:Nat->Fact) (k:Nat) (f:Fact):Nat->Fact:=fun j=>if j=k then f else F j
def growUpon (P:Program) (_o:Oper) (w:World) {β:Type} (val:β->Value) (fact:β->Fact):Result Next->Prop
 | .ok (.value u) w'=>Ext w w'∧∃ b,u=val b∧(fact b).holds w'
 | .ok (.enter f args) w'=>w'=w∧Calls P f args w (fun e w''=>Ext w w''∧∃ b,e=.returned (val b)∧(fact b).holds w'')
 | _=>False
section
variable (P:Program) (ops:Array Oper) (w0:World)
def OneAt (F:Nat->Fact) (o:Oper) (a:Act) (v:Value):Prop:=if Region.wanted o (yielded ops a.tmps)=true then ∀ w,Cls w0 o F w->o.quietAt P a (Ext w) w v else v=undef
def FamAt (F:Nat->Fact) (o:Oper) (a:Act) {β:Type} (val:β->Value) (fact:β->Fact):Prop:=Region.wanted o (yielded ops a.tmps)=true∧∀ w,Cls w0 o F w->growUpon P o w val fact ((execOp a.eval o).run P w)
def SpecAt (F:Nat->Fact) (o:Oper) (a:Act):Held->Prop
 | .one v=>OneAt P ops w0 F o a v
 | .fam _ _ val fact=>FamAt P ops w0 F o a val fact
def wpGrow (Q:Act->World->Prop):List Oper->List Held->Nat->(Nat->Fact)->Act->Prop
 | [],_,_,F,a=>∀ w,Ext w0 w->(∀ j,(F j).holds w)->Q a w
 | _::_,[],_,_,_=>False
 | o::rest,.one v::T,k,F,a=>OneAt P ops w0 F o a v∧wpGrow Q rest T (k+1) F (a.put o.dst v)
 | o::rest,.fam _ _ val fact::T,k,F,a=>FamAt P ops w0 F o a val fact∧∀ b,wpGrow Q rest T (k+1) (setF F k (fact b)) (a.put o.dst (val b))
def growB (m:Nat):Bool:=Region.noSelect ops&&(List.range ops.size).all fun i=>match ops[i]? with
 | none=>true
 | some o=>(o.after.all fun e=>!Region.binds .any e||decide (e.on < i))&&(match o.dst with|some d=>decide (d < m)&&(List.range ops.size).all fun j=>decide (j=i)||!dstIs ops j d|none=>true) &&
   (o.looksAt ops).all fun x=>(List.range ops.size).all fun j=>!dstIs ops j x||waitsFor o j
end
def lexAct:List Oper->(Nat->Value)->Nat->Act->Act
 | [],_,_,a=>a
 | o::l,v,k,a=>lexAct l v (k+1) (a.put o.dst (v k))
theorem put_size (a:Act) (d:Option Tmp) (v:Value):(a.put d v).tmps.size=a.tmps.size:=by cases d<;>simp[Act.put]
theorem put_defers' (a:Act) (d:Option Tmp) (v:Value):(a.put d v).defers=a.defers:=by cases d<;>rfl
theorem put_at (a:Act) (d:Tmp) (v:Value) (h:d < a.tmps.size):(a.put (some d) v).tmps[d]?=some v:=by
 simp[Act.put,Array.getElem?_setIfInBounds_self_of_lt h]
theorem put_far (a:Act) (o:Option Tmp) (v:Value) (x:Tmp) (h:o≠some x):(a.put o v).tmps[x]?=a.tmps[x]?:=by
 cases o with
 | none=>rfl
 | some d =>
   have hne:d≠x:=fun e=>h (by rw[e])
   simp[Act.put,Array.getElem?_setIfInBounds_ne hne]
theorem lex_size:∀ (l:List Oper) (v:Nat->Value) (k:Nat) (a:Act),(lexAct l v k a).tmps.size=a.tmps.size∧(lexAct l v k a).defers=a.defers
 | [],_,_,_=>⟨rfl,rfl⟩
 | o::l,v,k,a=>by
   obtain⟨h1,h2⟩:=lex_size l v (k+1) (a.put o.dst (v k))
   exact⟨h1.trans (put_size _ _ _),h2.trans (put_defers' _ _ _)⟩
theorem lex_far:∀ (l:List Oper) (v:Nat->Value) (k:Nat) (a:Act) (x:Tmp),(∀ o∈l,o.dst≠some x)->(lexAct l v k a).tmps[x]?=a.tmps[x]?
 | [],_,_,_,_,_=>rfl
 | o::l,v,k,_a,x,h=>(lex_far l v (k+1) _ x fun o' ho=>h o' (List.mem_cons_of_mem _ ho)).trans (put_far _ _ _ _ (h o (List.mem_cons_self)))
theorem lex_at:∀ (l:List Oper) (v:Nat->Value) (k:Nat) (a:Act) (x:Tmp) (j:Nat) (o:Oper),l[j]?=some o->o.dst=some x->(∀ j' o',l[j']?=some o'->o'.dst=some x->j'=j)->x < a.tmps.size->(lexAct l v k a).tmps[x]?=some (v (k+j))
 | [],_,_,_,_,_,_,h,_,_,_=>by simp at h
 | o::l,v,k,a,x,0,o',h,hd,hu,hx=>by
   obtain rfl:o=o':=by simpa using h
   rw[lexAct,lex_far,hd,put_at _ _ _ hx]
   ·rfl
   ·intro o2 ho2 hd2
    obtain⟨j2,hj2,he⟩:=List.mem_iff_getElem.1 ho2
    have:=hu (j2+1) o2 (by simp[List.getElem?_eq_getElem hj2,he]) hd2
    omega
 | o::l,v,k,a,x,j+1,o',h,hd,hu,hx=>by
   rw[lexAct,lex_at l v (k+1) _ x j o' (by simpa using h) hd (fun j' o2 h2 hd2=>by
    have:=hu (j'+1) o2 (by simpa using h2) hd2
    omega) (by rw[put_size];exact hx)]
   rw[Nat.add_assoc,Nat.add_comm 1 j]
def SelAt:Held->Value->Fact->Prop
 | .one c,v,f=>v=c∧f=Fact.no
 | .fam _ _ val fact,v,f=>∃ b,v=val b∧f=fact b
section
variable {P:Program} {ops:Array Oper} {w0:World} {Q:Act->World->Prop}
theorem wpGrow_at:∀ (l:List Oper) (T:List Held) (k:Nat) (F:Nat->Fact) (a:Act) (v:Nat->Value) (G:Nat->Fact),(∀ j,F j=if j < k then G j else Fact.no)->(∀ j h,T[j]?=some h->SelAt h (v (k+j)) (G (k+j)))->wpGrow P ops w0 Q l T k F a ->
 (∀ j o,l[j]?=some o->∃ h,T[j]?=some h∧SpecAt P ops w0 (fun i=>if i < k+j then G i else Fact.no) o (lexAct (l.take j) v k a) h) ∧
 (∀ w,Ext w0 w->(∀ j,j < k+l.length->(G j).holds w)->Q (lexAct l v k a) w)
 | [],_,k,F,a,v,G,hF,_,h=>by
   unfold wpGrow at h
   refine⟨fun j o ho=>by simp at ho,fun w hw hG=>h w hw fun j=>?_⟩
   rw[hF]
   by_cases hj:j < k
   ·rw[if_pos hj];exact hG j (by simpa using hj)
   ·rw[if_neg hj];trivial
 | _::_,[],_,_,_,_,_,_,_,h=>by cases h
 | o::rest,hd::T,k,F,a,v,G,hF,hS,h=>by
   have hFe:F=fun i=>if i < k then G i else Fact.no:=funext hF
   have h0:=hS 0 hd rfl
   rw[Nat.add_zero] at h0
   have key:wpGrow P ops w0 Q rest T (k+1) (fun j=>if j < k+1 then G j else Fact.no) (a.put o.dst (v k))∧SpecAt P ops w0 F o a hd:=by
    cases hd with
    | one c =>
      obtain⟨e1,e2⟩:=h0
      obtain⟨h1,h2⟩:=h
      refine⟨?_,h1⟩
      have:(fun j=>if j < k+1 then G j else Fact.no)=F:=by
       funext j
       rw[hF]
       by_cases hj:j < k
       ·rw[if_pos hj,if_pos (by omega)]
       ·rw[if_neg hj]
        by_cases hj2:j < k+1
        ·rw[if_pos hj2,show j=k by omega,e2]
        ·rw[if_neg hj2]
      rw[this,e1];exact h2
    | fam β d val fact =>
      obtain⟨b,e1,e2⟩:=h0
      obtain⟨h1,h2⟩:=h
      refine⟨?_,h1⟩
      have:(fun j=>if j < k+1 then G j else Fact.no)=setF F k (fact b):=by
       funext j
       unfold setF
       rw[hF]
       by_cases hj:j < k
       ·rw[if_pos (show j < k+1 by omega),if_neg (show ¬ j=k by omega),if_pos hj]
       ·by_cases hj2:j=k
        ·rw[if_pos (show j < k+1 by omega),if_pos hj2,hj2,e2]
        ·rw[if_neg (show ¬ j < k+1 by omega),if_neg hj2,if_neg hj]
      rw[this,e1];exact h2 b
   obtain⟨hw,ho⟩:=key
   have ih:=wpGrow_at rest T (k+1) _ _ v G (fun _=>rfl) (fun j h hj=>by have:=hS (j+1) h (by simpa using hj);rwa [show k+1+j=k+(j+1) by omega]) hw
   refine⟨fun j o' hj=>?_,fun w hx hG=>ih.2 w hx fun j hj=>hG j (by rw[List.length_cons];omega)⟩
   cases j with
   | zero =>
     obtain rfl:o=o':=by simpa using hj
     refine⟨hd,rfl,?_⟩
     rw[Nat.add_zero,<-hFe]
     exact ho
   | succ j =>
     obtain⟨h',e1,e2⟩:=ih.1 j o' (by simpa using hj)
     refine⟨h',by simpa using e1,?_⟩
     rw[show k+(j+1)=k+1+j by omega]
     exact e2
theorem growB_spec {m:Nat} (h:growB ops m=true):Region.noSelect ops=true∧∀ (i:Nat) (o:Oper),ops[i]?=some o ->
 (∀ e∈o.after,Region.binds .any e=true->e.on < i)∧(∀ d,o.dst=some d->d < m∧∀ j o',ops[j]?=some o'->o'.dst=some d->j=i)∧(∀ x∈o.looksAt ops,∀ j o',ops[j]?=some o'->o'.dst=some x->waitsFor o j=true):=by
 unfold growB at h
 rw[Bool.and_eq_true,List.all_eq_true] at h
 refine⟨h.1,fun i o ho=>?_⟩
 have hi:i < ops.size:=(Array.getElem?_eq_some_iff.1 ho).1
 have h2:=h.2 i (List.mem_range.2 hi)
 rw[ho] at h2
 simp only[Bool.and_eq_true] at h2
 obtain⟨⟨h3,h4⟩,h5⟩:=h2
 have hdst:∀ j o',ops[j]?=some o'->∀ d,o'.dst=some d->dstIs ops j d=true:=fun j o' hj d hd=>by
  unfold dstIs;rw[hj];simp[hd]
 refine⟨fun e he hb=>?_,fun d hd=>?_,fun x hx j o' hj hd=>?_⟩
 ·have:=Array.all_eq_true_iff_forall_mem.1 h3 e he
  simpa [hb] using this
 ·rw[hd] at h4
  simp only[Bool.and_eq_true,decide_eq_true_eq,List.all_eq_true] at h4
  refine⟨h4.1,fun j o' hj hd'=>?_⟩
  have:=h4.2 j (List.mem_range.2 (Array.getElem?_eq_some_iff.1 hj).1)
  rw[hdst j o' hj d hd'] at this
  simpa using this
 ·rw[List.all_eq_true] at h5
  have:=h5 x hx
  rw[List.all_eq_true] at this
  have:=this j (List.mem_range.2 (Array.getElem?_eq_some_iff.1 hj).1)
  rw[hdst j o' hj x hd] at this
  simpa using this
structure Agree (ops:Array Oper) (v:Nat->Value) (listed:Array Bool) (a0 a:Act):Prop where
 size:a.tmps.size=a0.tmps.size
 defs:a.defers=a0.defers
 has:∀ j o x,ops[j]?=some o->o.dst=some x->listed.getD j false=true->a.tmps[x]?=some (v j)
 not:∀ x,(∀ j o,ops[j]?=some o->o.dst=some x->listed.getD j false=false)->a.tmps[x]?=a0.tmps[x]?
theorem eval_of {a a':Act} {t:Tmp} (h:a.tmps[t]?=a'.tmps[t]?):a.eval (.tmp t)=a'.eval (.tmp t):=by
 unfold Act.eval
 simp[Array.getD_eq_getD_getElem?,h]
theorem take_at {α:Type} {l:List α} {i j:Nat} {x:α}:(l.take i)[j]?=some x↔j < i∧l[j]?=some x:=by
 rw[List.getElem?_take]
 split
 ·simp[*]
 ·simp;intro h;omega
section
variable {m:Nat} {v:Nat->Value} {listed:Array Bool} {a0 a:Act}
theorem look_same (hB:growB ops a0.tmps.size=true) (hA:Agree ops v listed a0 a) {i:Nat} {o:Oper} (ho:ops[i]?=some o) (hall:∀ e∈o.after,Region.binds .any e=true->listed.getD e.on false=true) :
 ∀ x∈o.looksAt ops,a.tmps[x]?=(lexAct (ops.toList.take i) v 0 a0).tmps[x]?:=fun x hx=>by
 obtain⟨_,hs⟩:=growB_spec hB
 obtain⟨h1,_,h3⟩:=hs i o ho
 by_cases hw:∃ (j:Nat) (o':Oper),ops[j]?=some o'∧o'.dst=some x
 ·obtain⟨j,o',hj,hd⟩:=hw
  have hwt:=h3 x hx j o' hj hd
  unfold waitsFor at hwt
  obtain⟨e,he,hb⟩:=List.any_eq_true.1 hwt
  have he:=Array.mem_toList_iff.1 he
  simp only[Bool.and_eq_true,beq_iff_eq] at hb
  obtain⟨hb1,rfl⟩:=hb
  rw[hA.has _ o' x hj hd (hall e he hb1)]
  obtain⟨g1,g2⟩:=(hs _ o' hj).2.1 x hd
  rw[lex_at _ v 0 a0 x e.on o' (take_at.2 ⟨h1 e he hb1,by rw[Array.getElem?_toList];exact hj⟩) hd (fun j' o2 h2 hd2=>g2 j' o2 (by have:=(take_at.1 h2).2;rwa [Array.getElem?_toList] at this) hd2) g1]
  rw[Nat.zero_add]
 ·have hno:∀ (j:Nat) (o':Oper),ops[j]?=some o'->o'.dst≠some x:=fun j o' hj hd=>hw ⟨j,o',hj,hd⟩
  rw[hA.not x (fun j o' hj hd=>absurd hd (hno j o' hj)),lex_far]
  intro o2 ho2
  obtain⟨j2,hj2,he⟩:=List.mem_iff_getElem.1 (List.mem_of_mem_take ho2)
  exact hno j2 o2 (by rw[<-Array.getElem?_toList,List.getElem?_eq_getElem hj2,he])
theorem exec_same (hB:growB ops a0.tmps.size=true) (hA:Agree ops v listed a0 a) {i:Nat} {o:Oper} (ho:ops[i]?=some o) (hall:∀ e∈o.after,Region.binds .any e=true->listed.getD e.on false=true) :
 execOp a.eval o=execOp (lexAct (ops.toList.take i) v 0 a0).eval o∧Region.wanted o (yielded ops a.tmps)=Region.wanted o (yielded ops (lexAct (ops.toList.take i) v 0 a0).tmps):=by
 have hl:=look_same hB hA ho hall
 refine⟨execOp_congr o (fun cs b=>Region.noSelect_spec (growB_spec hB).1 i o cs b ho) fun x hx=>?_,?_⟩
 ·cases x with
  | tmp t=>exact eval_of (hl t (List.mem_append_left _ (List.mem_filterMap.2 ⟨.tmp t,by simpa using hx,rfl⟩)))
  | _=>rfl
 ·unfold Region.wanted
  cases hg:o.guard with
  | none=>rfl
  | some gw =>
    obtain⟨g,want⟩:=gw
    have hy:yielded ops a.tmps g=yielded ops (lexAct (ops.toList.take i) v 0 a0).tmps g:=by
     unfold yielded
     cases ht:(ops[g]?).bind (·.dst) with
     | none=>rfl
     | some t =>
       have:=hl t (by simp[Oper.looksAt,hg,ht])
       simp only[Option.bind_some,this]
    simp only[hy]
theorem Agree.next (hB:growB ops a0.tmps.size=true) (hsz:listed.size=ops.size) (hA:Agree ops v listed a0 a) {i:Nat} {o:Oper} (ho:ops[i]?=some o) {v':Nat->Value} (hv:∀ j,j≠i->v' j=v j):Agree ops v' (listed.setIfInBounds i true) a0 (a.put o.dst (v' i)):=by
 obtain⟨_,hs⟩:=growB_spec hB
 have hi:i < ops.size:=(Array.getElem?_eq_some_iff.1 ho).1
 refine⟨(put_size _ _ _).trans hA.size,(put_defers' _ _ _).trans hA.defs,fun j o' x hj hd hl=>?_,fun x hx=>?_⟩
 ·by_cases hji:j=i
  ·subst hji
   obtain rfl:o'=o:=Option.some.inj (hj.symm.trans ho)
   rw[hd,put_at _ _ _ (by rw[hA.size];exact ((hs _ _ hj).2.1 x hd).1)]
  ·rw[put_far _ _ _ _ (fun e=>hji (((hs _ _ ho).2.1 x e).2 j o' hj hd)),hv j hji]
   refine hA.has j o' x hj hd ?_
   have:i≠j:=fun e=>hji e.symm
   simpa [Array.getD_eq_getD_getElem?,Array.getElem?_setIfInBounds_ne this] using hl
 ·rw[put_far,hA.not x fun j o' hj hd=>?_]
  ·have:=hx j o' hj hd
   by_cases hji:j=i
   ·subst hji
    have hlt:j < listed.size:=by rw[hsz];exact hi
    simp[Array.getD_eq_getD_getElem?,Array.getElem?_setIfInBounds_self_of_lt hlt] at this
   ·have hne:i≠j:=fun e=>hji e.symm
    simpa [Array.getD_eq_getD_getElem?,Array.getElem?_setIfInBounds_ne hne] using this
  ·intro e
   have:=hx i o ho e
   have hlt:i < listed.size:=by rw[hsz];exact hi
   simp[Array.getD_eq_getD_getElem?,Array.getElem?_setIfInBounds_self_of_lt hlt] at this
theorem all_listed (hB:growB ops m=true) (hsz:listed.size=ops.size) (hr:Region.ready .any ops listed=[]):∀ i,i < ops.size->listed.getD i false=true:=by
 intro i
 induction i using Nat.strongRecOn with
 | ind i ih =>
   intro hi
   obtain⟨_,hs⟩:=growB_spec hB
   cases hl:listed.getD i false with
   | true=>rfl
   | false =>
     exfalso
     have hlt:i < listed.size:=by rw[hsz];exact hi
     have:i∈Region.ready .any ops listed:=mem_ready.2 ⟨by
      have e:listed.getD i true=listed.getD i false:=by simp[Array.getD,hlt]
      rw[e,hl],ops[i],Array.getElem?_eq_getElem hi,fun e he hb=>by
      have h1:=(hs i ops[i] (Array.getElem?_eq_getElem hi)).1 e he hb
      exact ih e.on h1 (Nat.lt_trans h1 hi)⟩
     rw[hr] at this
     cases this
end
theorem wp_region_grow {id:Nat} {Q:Exit->Act->World->Prop} {a:Act} {w:World} {l:List Oper} (hm:P.follows .mixedOrders=true) (hB:growB l.toArray a.tmps.size=true)
 (h:∃ T,wpGrow P l.toArray w (fun a' w'=>Q .normal a' w') l T 0 (fun _=>Fact.no) a):(Code.region id l.toArray true).wp P Q a w:=by
 obtain⟨T,h⟩:=h
 have hops:l.toArray.toList=l:=List.toList_toArray
 generalize hO:l.toArray=ops at *
 subst hops
 obtain⟨_,hs⟩:=growB_spec hB
 -- the table reaches as far as the operations
 have hlen:∀ (l:List Oper) (T:List Held) (k:Nat) (F:Nat->Fact) (a:Act),wpGrow P ops w (fun a' w'=>Q .normal a' w') l T k F a->l.length<=T.length:=by
  intro l
  induction l with
  | nil=>intro _ _ _ _ _;exact Nat.zero_le _
  | cons o l ih =>
    intro T k F a h
    cases T with
    | nil=>cases h
    | cons hd T =>
      cases hd with
      | one c=>exact Nat.succ_le_succ (ih _ _ _ _ h.2)
      | fam β d val fact=>exact Nat.succ_le_succ (ih _ _ _ _ (h.2 d))
 have hn:=hlen _ _ _ _ _ h
 rw[Array.length_toList] at hn
 let J:Array Bool->Act->World->Prop:=fun listed a' w'=>listed.size=ops.size∧Ext w w'∧∃ (v:Nat->Value) (G:Nat->Fact),(∀ j h,T[j]?=some h->SelAt h (v j) (G j))∧(∀ j,listed.getD j false=true->(G j).holds w')∧Agree ops v listed a a'
 refine wp_region_inv hm J ?_ ?_ ?_
 ·refine⟨by simp,(Ext.refl w).drew,fun j=>match T[j]? with|some (.one c)=>c|some (.fam _ d val _)=>val d|none=>undef,fun j=>match T[j]? with|some (.fam _ d _ fact)=>fact d|_=>Fact.no,fun j h hj=>?_,fun j hj=>?_,rfl,rfl,fun j o x hj hd hl=>?_,fun x _=>rfl⟩
  ·simp only[hj]
   cases h with
   | one c=>exact⟨rfl,rfl⟩
   | fam β d val fact=>exact⟨d,rfl,rfl⟩
  ·exfalso
   rcases Nat.lt_or_ge j ops.size with h1|h1<;>simp[Array.getD,h1,Nat.not_lt.2] at hj
  ·exfalso
   rcases Nat.lt_or_ge j ops.size with h1|h1<;>simp[Array.getD,h1,Nat.not_lt.2] at hl
 ·intro i o listed a' w' hsz ho hun hall hJ K hK
  obtain⟨_,hx,v,G,hS,hG,hA⟩:=hJ
  obtain⟨ha,hq⟩:=exec_same hB hA ho hall
  obtain⟨hd,hT,hob⟩:=(wpGrow_at ops.toList T 0 _ a v G (fun j=>by simp) (fun j h hj=>by rw[Nat.zero_add];exact hS j h hj) h).1 i o (by rw[Array.getElem?_toList];exact ho)
  have hcls:Cls w o (fun i'=>if i' < 0+i then G i' else Fact.no) w':=⟨hx,fun j hj=>by
   unfold waitsFor at hj
   obtain⟨e,he,hb⟩:=List.any_eq_true.1 hj
   have he:=Array.mem_toList_iff.1 he
   simp only[Bool.and_eq_true,beq_iff_eq] at hb
   obtain⟨hb1,rfl⟩:=hb
   have:=(hs i o ho).1 e he hb1
   simp only[Nat.zero_add,this,if_true]
   exact hG _ (hall e he hb1)⟩
  have hstay:∀ j,listed.getD j false=true->j≠i:=fun j hj e=>by
   subst e
   have hlt:=getD_pos hun
   have:listed.getD j true=listed.getD j false:=by simp[Array.getD,hlt]
   rw[this,hj] at hun
   cases hun
  have hset:∀ j,(listed.setIfInBounds i true).getD j false=true->j≠i->listed.getD j false=true:=fun j hj hne=>by
   have hne':i≠j:=fun e=>hne e.symm
   simpa [Array.getD_eq_getD_getElem?,Array.getElem?_setIfInBounds_ne hne'] using hj
  have hszs:(listed.setIfInBounds i true).size=ops.size:=by rw[Array.size_setIfInBounds];exact hsz
  cases hd with
  | one c =>
    have hsel:=hS i _ hT
    have hJ':∀ w'',Ext w' w''->J (listed.setIfInBounds i true) (a'.put o.dst c) w'':=fun w'' hw=>by
     refine⟨hszs,hx.trans hw,v,G,hS,fun j hj=>?_,?_⟩
     ·by_cases hji:j=i
      ·subst hji;rw[hsel.2];trivial
      ·exact (G j).stays _ _ (hG j (hset j hj hji)) hw
     ·have:=hA.next hB hsz ho (v':=v) (fun _ _=>rfl)
      rwa [hsel.1] at this
    have hone:OneAt P ops w (fun i'=>if i' < 0+i then G i' else Fact.no) o (lexAct (ops.toList.take i) v 0 a) c:=hob
    unfold OneAt at hone
    rw[<-hq] at hone
    split
    ·rename_i hw
     rw[if_pos hw] at hone
     have h3:=hone w' hcls
     unfold Oper.quietAt at h3
     rw[<-ha] at h3
     unfold Oper.wp
     generalize (execOp a'.eval o).run P w'=r at *
     cases r with
     | ok n w2 =>
       cases n<;>simp only[Oper.quietUpon] at h3<;>simp only[Oper.upon]
       case value u =>
        obtain⟨e1,e2⟩:=h3
        rw[e1,e2]
        exact hK _ _ (hJ' _ (Ext.refl _))
       case skip =>
        obtain⟨e1,e2⟩:=h3
        rw[e1,<-e2]
        exact hK _ _ (hJ' _ (Ext.refl _))
       case enter f args =>
        obtain⟨e1,hc⟩:=h3
        rw[e1]
        exact hc.mono fun e w'' ⟨he,hw''⟩=>by subst he;exact hK _ _ (hJ' _ hw'')
     | halt x w2=>simp only[Oper.quietUpon] at h3
    ·rename_i hw
     rw[if_neg hw] at hone
     rw[<-hone]
     exact hK _ _ (hJ' _ (Ext.refl _))
  | fam β d val fact =>
    have hfam:FamAt P ops w (fun i'=>if i' < 0+i then G i' else Fact.no) o (lexAct (ops.toList.take i) v 0 a) val fact:=hob
    have hJ':∀ b w'',Ext w' w''->(fact b).holds w''->J (listed.setIfInBounds i true) (a'.put o.dst (val b)) w'':=fun b w'' hw hf=>by
     refine⟨hszs,hx.trans hw,fun j=>if j=i then val b else v j,fun j=>if j=i then fact b else G j,fun j h hj=>?_,fun j hj=>?_,?_⟩
     ·by_cases hji:j=i
      ·subst hji
       obtain rfl:=Option.some.inj (hT.symm.trans hj)
       simp only[if_true]
       exact⟨b,rfl,rfl⟩
      ·simp only[hji,if_false];exact hS j h hj
     ·by_cases hji:j=i
      ·subst hji;simp only[if_true];exact hf
      ·simp only[hji,if_false];exact (G j).stays _ _ (hG j (hset j hj hji)) hw
     ·have:=hA.next hB hsz ho (v':=fun j=>if j=i then val b else v j) (fun j hne=>by simp only[hne,if_false])
      simpa using this
    obtain⟨hw1,hw2⟩:=hfam
    rw[if_pos (hq.trans hw1)]
    have h3:=hw2 w' hcls
    rw[<-ha] at h3
    unfold Oper.wp
    generalize (execOp a'.eval o).run P w'=r at *
    cases r with
    | ok n w2 =>
      cases n<;>simp only[growUpon] at h3<;>simp only[Oper.upon]
      case value u =>
       obtain⟨e1,b,e2,e3⟩:=h3
       rw[e2]
       exact hK _ _ (hJ' b _ e1 e3)
      case enter f args =>
       obtain⟨e1,hc⟩:=h3
       rw[e1]
       exact hc.mono fun e w'' ⟨hw'',b,he,hf⟩=>by subst he;exact hK _ _ (hJ' b _ hw'' hf)
    | halt x w2=>simp only[growUpon] at h3
 ·intro listed a' w' hsz hr hJ
  obtain⟨_,hx,v,G,hS,hG,hA⟩:=hJ
  have hall:=all_listed hB hsz hr
  have hfin:=(wpGrow_at ops.toList T 0 _ a v G (fun j=>by simp) (fun j h hj=>by rw[Nat.zero_add];exact hS j h hj) h).2 w' hx (fun j hj=>hG j (hall j (by rw[Nat.zero_add,Array.length_toList] at hj;exact hj)))
  have he:a'=lexAct ops.toList v 0 a:=by
   obtain⟨z1,z2⟩:=lex_size ops.toList v 0 a
   have ht:a'.tmps=(lexAct ops.toList v 0 a).tmps:=by
    apply Array.ext_getElem?
    intro x
    by_cases hw:∃ (j:Nat) (o':Oper),ops[j]?=some o'∧o'.dst=some x
    ·obtain⟨j,o',hj,hd⟩:=hw
     obtain⟨g1,g2⟩:=(hs _ o' hj).2.1 x hd
     rw[hA.has j o' x hj hd (hall j (Array.getElem?_eq_some_iff.1 hj).1),lex_at _ v 0 a x j o' (by rw[Array.getElem?_toList];exact hj) hd (fun j' o2 h2 hd2=>g2 j' o2 (by rwa [Array.getElem?_toList] at h2) hd2) g1,Nat.zero_add]
    ·have hno:∀ (j:Nat) (o':Oper),ops[j]?=some o'->o'.dst≠some x:=fun j o' hj hd=>hw ⟨j,o',hj,hd⟩
     rw[hA.not x (fun j o' hj hd=>absurd hd (hno j o' hj)),lex_far]
     intro o2 ho2
     obtain⟨j2,hj2,he⟩:=List.mem_iff_getElem.1 ho2
     exact hno j2 o2 (by rw[<-Array.getElem?_toList,List.getElem?_eq_getElem hj2,he])
   cases a';cases hL:lexAct ops.toList v 0 a
   rw[hL] at ht z2
   have hd:=hA.defs
   simp only at ht z2 hd
   simp[ht,hd,z2]
  rw[he]
  exact hfin
variable {F:Nat->Fact} {o:Oper} {rest:List Oper} {T:List Held} {k:Nat} {a:Act}
theorem grow_nil (h:∀ w,Ext w0 w->(∀ j,(F j).holds w)->Q a w):wpGrow P ops w0 Q [] [] k F a:=h
theorem grow_skip (hw:Region.wanted o (yielded ops a.tmps)=false) (h:wpGrow P ops w0 Q rest T (k+1) F (a.put o.dst undef)):wpGrow P ops w0 Q (o::rest) (.one undef::T) k F a :=
 ⟨by unfold OneAt;rw[if_neg (by rw[hw];exact Bool.false_ne_true)],h⟩
theorem grow_one {v:Value} (hw:Region.wanted o (yielded ops a.tmps)=true) (hv:∀ w,Cls w0 o F w->o.quietAt P a (Ext w) w v) (h:wpGrow P ops w0 Q rest T (k+1) F (a.put o.dst v)):wpGrow P ops w0 Q (o::rest) (.one v::T) k F a :=
 ⟨by unfold OneAt;rw[if_pos hw];exact hv,h⟩
theorem grow_fam {β:Type} {d:β} {val:β->Value} {fact:β->Fact} (hw:Region.wanted o (yielded ops a.tmps)=true) (hv:∀ w,Cls w0 o F w->growUpon P o w val fact ((execOp a.eval o).run P w)) (h:∀ b,wpGrow P ops w0 Q rest T (k+1) (setF F k (fact b)) (a.put o.dst (val b))) :
 wpGrow P ops w0 Q (o::rest) (.fam β d val fact::T) k F a:=⟨⟨hw,hv⟩,h⟩
def blkF (t:TypeId) (cs:Array Value) (b:Nat):Fact:=⟨fun w=>Blk w b t cs,fun _ _ h hx=>h.ext hx⟩
theorem grow_build {n c:Nat} {t:TypeId} {cs:Array Value} (hw:Region.wanted o (yielded ops a.tmps)=true) (hv:∀ w,(execOp a.eval o).run P w=.ok (.value (.slice (some ⟨w.heap.size,0,none⟩) n c)) (w.alloc (.cells cs t)))
 (h:∀ b,wpGrow P ops w0 Q rest T (k+1) (setF F k (blkF t cs b)) (a.put o.dst (.slice (some ⟨b,0,none⟩) n c))):wpGrow P ops w0 Q (o::rest) (.fam Nat 0 (fun b=>.slice (some ⟨b,0,none⟩) n c) (blkF t cs)::T) k F a :=
 grow_fam hw (fun w _=>by rw[hv w];exact⟨(Ext.refl w).alloc _,w.heap.size,rfl,Blk.new w t cs⟩) h
theorem Cls.blk {w:World} (h:Cls w0 o F w) (j:Nat) (hw:waitsFor o j=true) {b:Nat} {t:TypeId} {cs:Array Value} (hF:F j=blkF t cs b):Blk w b t cs:=by
 have:=h.facts j hw
 rw[hF] at this
 exact this
theorem callsExt {P:Program} {f:FuncId} {xs:Array Value} {w:World} {x:Ending} (h:Calls P f xs w fun e w'=>e=x∧w=w'):Calls P f xs w fun e w'=>e=x∧Ext w w' :=
 h.mono fun _e _w' hh=>⟨hh.1,hh.2 ▸ Ext.refl _⟩
end
end
section
open Go
section
variable (P:Program) (ops:Array Oper) (w0:World) (S:World->Prop)
def LateAt (F:Nat->Fact) (o:Oper) (a:Act) (v:Value):Prop:=if Region.wanted o (yielded ops a.tmps)=true then ∀ w,Cls w0 o F w∨S w->(execOp a.eval o).run P w=.ok (.value v) w else v=undef
def SpecT (tl late:List Nat) (k:Nat) (F:Nat->Fact) (o:Oper) (a:Act):Held->Prop
 | .one v=>if tl.contains k=true then v=undef else if late.contains k=true then LateAt P ops w0 S F o a v else OneAt P ops w0 F o a v
 | .fam _ _ val fact=>tl.contains k=false∧late.contains k=false∧FamAt P ops w0 F o a val fact
def wpGrowT (tl late:List Nat) (Q:Act->World->Prop):List Oper->List Held->Nat->(Nat->Fact)->Act->Prop
 | [],_,_,F,a=>∀ w,Ext w0 w->(∀ j,(F j).holds w)->Q a w
 | _::_,[],_,_,_=>False
 | o::rest,.one v::T,k,F,a=>SpecT P ops w0 S tl late k F o a (.one v)∧wpGrowT tl late Q rest T (k+1) F (a.put o.dst v)
 | o::rest,.fam β d val fact::T,k,F,a=>SpecT P ops w0 S tl late k F o a (.fam β d val fact)∧∀ b,wpGrowT tl late Q rest T (k+1) (setF F k (fact b)) (a.put o.dst (val b))
end
section
variable {P:Program} {ops:Array Oper} {w0:World} {S:World->Prop} {Q:Act->World->Prop} {tl late:List Nat}
theorem wpGrowT_at:∀ (l:List Oper) (T:List Held) (k:Nat) (F:Nat->Fact) (a:Act) (v:Nat->Value) (G:Nat->Fact),(∀ j,F j=if j < k then G j else Fact.no)->(∀ j h,T[j]?=some h->SelAt h (v (k+j)) (G (k+j)))->wpGrowT P ops w0 S tl late Q l T k F a ->
 (∀ j o,l[j]?=some o->∃ h,T[j]?=some h∧SpecT P ops w0 S tl late (k+j) (fun i=>if i < k+j then G i else Fact.no) o (lexAct (l.take j) v k a) h) ∧
 (∀ w,Ext w0 w->(∀ j,j < k+l.length->(G j).holds w)->Q (lexAct l v k a) w)
 | [],_,k,F,a,v,G,hF,_,h=>by
   unfold wpGrowT at h
   refine⟨fun j o ho=>by simp at ho,fun w hw hG=>h w hw fun j=>?_⟩
   rw[hF]
   by_cases hj:j < k
   ·rw[if_pos hj];exact hG j (by simpa using hj)
   ·rw[if_neg hj];trivial
 | _::_,[],_,_,_,_,_,_,_,h=>by cases h
 | o::rest,hd::T,k,F,a,v,G,hF,hS,h=>by
   have hFe:F=fun i=>if i < k then G i else Fact.no:=funext hF
   have h0:=hS 0 hd rfl
   rw[Nat.add_zero] at h0
   have key:wpGrowT P ops w0 S tl late Q rest T (k+1) (fun j=>if j < k+1 then G j else Fact.no) (a.put o.dst (v k))∧SpecT P ops w0 S tl late k F o a hd:=by
    cases hd with
    | one c =>
      obtain⟨e1,e2⟩:=h0
      obtain⟨h1,h2⟩:=h
      refine⟨?_,h1⟩
      have:(fun j=>if j < k+1 then G j else Fact.no)=F:=by
       funext j
       rw[hF]
       by_cases hj:j < k
       ·rw[if_pos hj,if_pos (by omega)]
       ·rw[if_neg hj]
        by_cases hj2:j < k+1
        ·rw[if_pos hj2,show j=k by omega,e2]
        ·rw[if_neg hj2]
      rw[this,e1];exact h2
    | fam β d val fact =>
      obtain⟨b,e1,e2⟩:=h0
      obtain⟨h1,h2⟩:=h
      refine⟨?_,h1⟩
      have:(fun j=>if j < k+1 then G j else Fact.no)=setF F k (fact b):=by
       funext j
       unfold setF
       rw[hF]
       by_cases hj:j < k
       ·rw[if_pos (show j < k+1 by omega),if_neg (show ¬ j=k by omega),if_pos hj]
       ·by_cases hj2:j=k
        ·rw[if_pos (show j < k+1 by omega),if_pos hj2,hj2,e2]
        ·rw[if_neg (show ¬ j < k+1 by omega),if_neg hj2,if_neg hj]
      rw[this,e1];exact h2 b
   obtain⟨hw,ho⟩:=key
   have ih:=wpGrowT_at rest T (k+1) _ _ v G (fun _=>rfl) (fun j h hj=>by have:=hS (j+1) h (by simpa using hj);rwa [show k+1+j=k+(j+1) by omega]) hw
   refine⟨fun j o' hj=>?_,fun w hx hG=>ih.2 w hx fun j hj=>hG j (by rw[List.length_cons];omega)⟩
   cases j with
   | zero =>
     obtain rfl:o=o':=by simpa using hj
     refine⟨hd,rfl,?_⟩
     rw[Nat.add_zero,<-hFe]
     exact ho
   | succ j =>
     obtain⟨h',e1,e2⟩:=ih.1 j o' (by simpa using hj)
     refine⟨h',by simpa using e1,?_⟩
     rw[show k+(j+1)=k+1+j by omega]
     exact e2
end
def wpTail (P:Program) (S:World->Prop) (R:Act->World->Prop):List Oper->Act->World->Prop
 | [],a,w=>S w∧R a w
 | o::l,a,w=>S w∧o.wp P a w (wpTail P S R l) (fun _ _ _=>False)
theorem wpTail.holds {P:Program} {S:World->Prop} {R:Act->World->Prop}:∀ {l:List Oper} {a:Act} {w:World},wpTail P S R l a w->S w
 | [],_,_,h=>h.1
 | _::_,_,_,h=>h.1
def OnlyNormal (Q:Exit->Act->World->Prop):Exit->Act->World->Prop:=fun e a w=>e=.normal∧Q .normal a w
theorem OnlyNormal.intro {Q:Exit->Act->World->Prop} {a:Act} {w:World} (h:Q .normal a w):OnlyNormal Q .normal a w:=⟨rfl,h⟩
theorem Oper.wp_to {P:Program} {o:Oper} {a a':Act} {w:World} {K K':Act->World->Prop} {Q Q':Exit->Act->World->Prop} (he:execOp a'.eval o=execOp a.eval o)
 (hK:∀ v w,K (a.put o.dst v) w->K' (a'.put o.dst v) w) (hD:∀ d w,K ({ a with defers:=d::a.defers }.put o.dst undef) w->K' ({ a' with defers:=d::a'.defers }.put o.dst undef) w)
 (hP:∀ c w,Q (.panic c) a w->Q' (.panic c) a' w) (hL:LetsOut Q->LetsOut Q') (h:o.wp P a w K Q):o.wp P a' w K' Q':=by
 unfold Oper.wp at h ⊢
 rw[he]
 generalize (execOp a.eval o).run P w=r at *
 cases r with
 | ok n w' =>
   cases n<;>simp only[Oper.upon] at h ⊢ <;>
    first
     | exact hK _ _ h
     | exact hD _ _ h
     | exact Calls.mono h (fun e w'' he=>by cases e<;>first|exact hK _ _ he|exact hP _ _ he|exact hL he)
     | exact Rows.mono h (fun _ _ he=>hK _ _ he)
 | halt x w'=>cases x<;>simp only[Oper.upon] at h ⊢<;>exact hP _ _ h
theorem wpTail_of_list {P:Program} {ops:Array Oper} {Q:Exit->Act->World->Prop}:∀ (l:List Oper) (a:Act) (w:World),l.all (fun o=>o.guard.isNone)=true->wpList P ops (OnlyNormal Q) l a w->wpTail P (fun _=>True) (Q .normal) l a w
 | [],_,_,_,h=>⟨trivial,h.2⟩
 | o::l,a,w,hg,h=>by
   rw[List.all_cons,Bool.and_eq_true,Option.isNone_iff_eq_none] at hg
   unfold wpList at h
   rw[if_pos (by simp[Region.wanted,hg.1])] at h
   refine⟨trivial,?_⟩
   rcases h with h|⟨_,a2,w2,h,_⟩
   ·exact Oper.wp_to rfl (fun v w h=>wpTail_of_list l _ _ hg.2 h) (fun d w h=>wpTail_of_list l _ _ hg.2 h) (fun c w h=>by cases h.1) (fun h=>by obtain⟨_,_,h,_⟩:=h;cases h) h
   ·cases h
def awaits (ops:Array Oper) (i:Nat):List Nat:=match ops[i]? with
 | some o=>(o.after.toList.filter fun e=>Region.binds .any e).map (·.on)
 | none=>[]
def reachL (ops:Array Oper):Nat->List Nat->List Nat
 | 0,m=>m
 | i+1,m=>reachL ops i (if m.contains i then awaits ops i++m else m)
def growB2 (ops:Array Oper) (m:Nat) (tl late:List Nat):Bool:=Region.noSelect ops&&(List.range ops.size).all fun i=>match ops[i]? with
 | none=>true
 | some o=>(o.after.all fun e=>!Region.binds .any e||decide (e.on < i))&&(match o.dst with|some d=>decide (d < m)&&(List.range ops.size).all fun j=>decide (j=i)||!dstIs ops j d|none=>true) &&
   (o.looksAt ops).all fun x=>(List.range ops.size).all fun j=>!dstIs ops j x||waitsFor o j||(!tl.contains i&&!late.contains i&&(awaits ops j).contains i)
theorem growB2_spec {ops:Array Oper} {m:Nat} {tl late:List Nat} (h:growB2 ops m tl late=true):Region.noSelect ops=true∧∀ (i:Nat) (o:Oper),ops[i]?=some o ->
 (∀ e∈o.after,Region.binds .any e=true->e.on < i)∧(∀ d,o.dst=some d->d < m∧∀ j o',ops[j]?=some o'->o'.dst=some d->j=i)∧(∀ x∈o.looksAt ops,∀ j o',ops[j]?=some o'->o'.dst=some x->waitsFor o j=true∨(i ∉ tl∧i ∉ late∧i∈awaits ops j)):=by
 unfold growB2 at h
 rw[Bool.and_eq_true,List.all_eq_true] at h
 refine⟨h.1,fun i o ho=>?_⟩
 have hi:i < ops.size:=(Array.getElem?_eq_some_iff.1 ho).1
 have h2:=h.2 i (List.mem_range.2 hi)
 rw[ho] at h2
 simp only[Bool.and_eq_true] at h2
 obtain⟨⟨h3,h4⟩,h5⟩:=h2
 have hdst:∀ j o',ops[j]?=some o'->∀ d,o'.dst=some d->dstIs ops j d=true:=fun j o' hj d hd=>by
  unfold dstIs;rw[hj];simp[hd]
 refine⟨fun e he hb=>?_,fun d hd=>?_,fun x hx j o' hj hd=>?_⟩
 ·have:=Array.all_eq_true_iff_forall_mem.1 h3 e he
  simpa [hb] using this
 ·rw[hd] at h4
  simp only[Bool.and_eq_true,decide_eq_true_eq,List.all_eq_true] at h4
  refine⟨h4.1,fun j o' hj hd'=>?_⟩
  have:=h4.2 j (List.mem_range.2 (Array.getElem?_eq_some_iff.1 hj).1)
  rw[hdst j o' hj d hd'] at this
  simpa using this
 ·rw[List.all_eq_true] at h5
  have:=h5 x hx
  rw[List.all_eq_true] at this
  have:=this j (List.mem_range.2 (Array.getElem?_eq_some_iff.1 hj).1)
  rw[hdst j o' hj x hd] at this
  simpa [and_assoc] using this
def growTB (ops:Array Oper) (m:Nat) (tl late:List Nat):Bool :=
 growB2 ops m tl late&&decide (0 < tl.length)&&((List.range ops.size).all fun i=>tl.contains i||(awaits ops i).all fun j=>!tl.contains j) &&
 ((List.range (tl.length - 1)).all fun q=>(awaits ops (tl.getD (q+1) 0)).contains (tl.getD q 0)) &&
 (let r:=reachL ops ops.size (awaits ops (tl.getD 0 0));(List.range ops.size).all fun i=>tl.contains i||late.contains i||r.contains i) &&
 (tl.all fun i=>match ops[i]? with|some o=>o.guard.isNone|none=>false)
theorem mem_awaits {ops:Array Oper} {i j:Nat} {o:Oper} (ho:ops[i]?=some o):j∈awaits ops i↔∃ e∈o.after,Region.binds .any e=true∧e.on=j:=by
 unfold awaits
 rw[ho]
 simp only[List.mem_map,List.mem_filter,Array.mem_toList_iff]
 constructor
 ·rintro ⟨e,⟨h1,h2⟩,h3⟩;exact⟨e,h1,h2,h3⟩
 ·rintro ⟨e,h1,h2,h3⟩;exact⟨e,⟨h1,h2⟩,h3⟩
def Closed (ops:Array Oper) (listed:Array Bool):Prop:=∀ j,listed.getD j false=true->∀ i∈awaits ops j,listed.getD i false=true
theorem reachL_listed {ops:Array Oper} {listed:Array Bool} (hc:Closed ops listed):∀ (k:Nat) (m:List Nat),(∀ i∈m,listed.getD i false=true)->∀ i∈reachL ops k m,listed.getD i false=true
 | 0,_,hm,i,hi=>hm i hi
 | k+1,m,hm,i,hi=>by
   unfold reachL at hi
   refine reachL_listed hc k _ (fun j hj=>?_) i hi
   split at hj
   ·rename_i hk
    rcases List.mem_append.1 hj with h|h
    ·exact hc k (hm k (by simpa using hk)) j h
    ·exact hm j h
   ·exact hm j hj
structure TailOk (ops:Array Oper) (m:Nat) (tl late:List Nat):Prop where
 grow:growB2 ops m tl late=true
 pos:0 < tl.length
 free:∀ i,i ∉ tl->∀ j∈awaits ops i,j ∉ tl
 chain:∀ q,q+1 < tl.length->tl.getD q 0∈awaits ops (tl.getD (q+1) 0)
 reach:∀ listed,Closed ops listed->(∀ j∈awaits ops (tl.getD 0 0),listed.getD j false=true)->∀ i,i < ops.size->i ∉ tl->i ∉ late->listed.getD i false=true
 lt:∀ i∈tl,i < ops.size
 bare:∀ i∈tl,∀ o,ops[i]?=some o->o.guard=none
theorem growTB_spec {ops:Array Oper} {m:Nat} {tl late:List Nat} (h:growTB ops m tl late=true):TailOk ops m tl late:=by
 unfold growTB at h
 simp only[Bool.and_eq_true,decide_eq_true_eq] at h
 obtain⟨⟨⟨⟨⟨h1,h2⟩,h3⟩,h4⟩,h5⟩,h6⟩:=h
 refine⟨h1,h2,fun i hi j hj=>?_,fun q hq=>?_,fun listed hc ha i hi hit hil=>?_,fun i hi=>?_,fun i hi o ho=>?_⟩
 ·cases ho:ops[i]? with
  | none=>unfold awaits at hj;rw[ho] at hj;cases hj
  | some o =>
    rw[List.all_eq_true] at h3
    have:=h3 i (List.mem_range.2 (Array.getElem?_eq_some_iff.1 ho).1)
    rw[Bool.or_eq_true] at this
    rcases this with h|h
    ·exact absurd (by simpa using h) hi
    ·rw[List.all_eq_true] at h
     simpa using h j hj
 ·rw[List.all_eq_true] at h4
  simpa using h4 q (List.mem_range.2 (by omega))
 ·rw[List.all_eq_true] at h5
  have:=h5 i (List.mem_range.2 hi)
  simp only[Bool.or_eq_true] at this
  rcases this with (h|h)|h
  ·exact absurd (by simpa using h) hit
  ·exact absurd (by simpa using h) hil
  ·exact reachL_listed hc _ _ ha i (by simpa using h)
 ·rw[List.all_eq_true] at h6
  have:=h6 i hi
  cases ho:ops[i]? with
  | none=>rw[ho] at this;cases this
  | some o=>exact (Array.getElem?_eq_some_iff.1 ho).1
 ·rw[List.all_eq_true] at h6
  have:=h6 i hi
  rw[ho] at this
  simpa using this
structure AgreeM (ops:Array Oper) (listed:Array Bool) (a2 a:Act):Prop where
 size:a.tmps.size=a2.tmps.size
 defs:a.defers=a2.defers
 has:∀ (j:Nat) (o:Oper) (x:Nat),ops[j]?=some o->o.dst=some x->listed.getD j false=true->a.tmps[x]?=a2.tmps[x]?
 not:∀ x,(∀ (j:Nat) (o:Oper),ops[j]?=some o->o.dst≠some x)->a.tmps[x]?=a2.tmps[x]?
theorem exec_of_look {ops:Array Oper} (hB:Region.noSelect ops=true) {i:Nat} {o:Oper} (ho:ops[i]?=some o) {a a':Act} (hl:∀ x∈o.looksAt ops,a.tmps[x]?=a'.tmps[x]?) :
 execOp a.eval o=execOp a'.eval o∧Region.wanted o (yielded ops a.tmps)=Region.wanted o (yielded ops a'.tmps):=by
 refine⟨execOp_congr o (fun cs b=>Region.noSelect_spec hB i o cs b ho) fun x hx=>?_,?_⟩
 ·cases x with
  | tmp t=>exact eval_of (hl t (List.mem_append_left _ (List.mem_filterMap.2 ⟨.tmp t,by simpa using hx,rfl⟩)))
  | _=>rfl
 ·unfold Region.wanted
  cases hg:o.guard with
  | none=>rfl
  | some gw =>
    obtain⟨g,want⟩:=gw
    have hy:yielded ops a.tmps g=yielded ops a'.tmps g:=by
     unfold yielded
     cases ht:(ops[g]?).bind (·.dst) with
     | none=>rfl
     | some t =>
       have:=hl t (by simp[Oper.looksAt,hg,ht])
       simp only[Option.bind_some,this]
    simp only[hy]
theorem look_cases {ops:Array Oper} {m:Nat} {tl late:List Nat} (hB:growB2 ops m tl late=true) {i:Nat} (hil:i∈tl∨i∈late) {o:Oper} (ho:ops[i]?=some o) {x:Nat} (hx:x∈o.looksAt ops) :
 (∃ j o',ops[j]?=some o'∧o'.dst=some x∧j∈awaits ops i∧j < i)∨(∀ (j:Nat) (o':Oper),ops[j]?=some o'->o'.dst≠some x):=by
 obtain⟨_,hs⟩:=growB2_spec hB
 obtain⟨h1,_,h3⟩:=hs i o ho
 by_cases hw:∃ (j:Nat) (o':Oper),ops[j]?=some o'∧o'.dst=some x
 ·obtain⟨j,o',hj,hd⟩:=hw
  have hwt:waitsFor o j=true:=(h3 x hx j o' hj hd).resolve_right fun h=>hil.elim (fun h2=>h.1 h2) (fun h2=>h.2.1 h2)
  unfold waitsFor at hwt
  obtain⟨e,he,hb⟩:=List.any_eq_true.1 hwt
  have he:=Array.mem_toList_iff.1 he
  simp only[Bool.and_eq_true,beq_iff_eq] at hb
  obtain⟨hb1,rfl⟩:=hb
  exact .inl ⟨_,o',hj,hd,(mem_awaits ho).2 ⟨e,he,hb1,rfl⟩,h1 e he hb1⟩
 ·exact .inr fun j o' hj hd=>hw ⟨j,o',hj,hd⟩
theorem lex_val {ops:Array Oper} {m:Nat} {tl late:List Nat} (hB:growB2 ops m tl late=true) {a:Act} (hm:a.tmps.size=m) (v:Nat->Value) {i:Nat} {j:Nat} {o':Oper} {x:Nat} (hj:ops[j]?=some o') (hd:o'.dst=some x) (hji:j < i) :
 (lexAct (ops.toList.take i) v 0 a).tmps[x]?=some (v j):=by
 obtain⟨_,hs⟩:=growB2_spec hB
 obtain⟨g1,g2⟩:=(hs _ o' hj).2.1 x hd
 rw[lex_at _ v 0 a x j o' (take_at.2 ⟨hji,by rw[Array.getElem?_toList];exact hj⟩) hd (fun j' o2 h2 hd2=>g2 j' o2 (by have:=(take_at.1 h2).2;rwa [Array.getElem?_toList] at this) hd2) (by rw[hm];exact g1),Nat.zero_add]
theorem lex_unw {ops:Array Oper} {a:Act} (v:Nat->Value) {i:Nat} {x:Nat} (hno:∀ (j:Nat) (o':Oper),ops[j]?=some o'->o'.dst≠some x):(lexAct (ops.toList.take i) v 0 a).tmps[x]?=a.tmps[x]?:=by
 rw[lex_far]
 intro o2 ho2
 obtain⟨j2,hj2,he⟩:=List.mem_iff_getElem.1 (List.mem_of_mem_take ho2)
 exact hno j2 o2 (by rw[<-Array.getElem?_toList,List.getElem?_eq_getElem hj2,he])
theorem AgreeM.next {ops:Array Oper} {m:Nat} {listed:Array Bool} (_hsz:listed.size=ops.size) {a2 a2' a a':Act} (hA:AgreeM ops listed a2 a) {i:Nat} {o:Oper} (ho:ops[i]?=some o) (_hm:a2.tmps.size=m) (_u:Value)
 (hd2:a'.defers=a2'.defers) (hs2:a2'.tmps.size=a2.tmps.size) (hs:a'.tmps.size=a.tmps.size)
 (hh:∀ x,o.dst=some x->a'.tmps[x]?=a2'.tmps[x]?) (hf:∀ x,o.dst≠some x->a'.tmps[x]?=a.tmps[x]?∧a2'.tmps[x]?=a2.tmps[x]?):AgreeM ops (listed.setIfInBounds i true) a2' a':=by
 refine⟨hs.trans (hA.size.trans hs2.symm),hd2,fun j o' x hj hd hl=>?_,fun x hx=>?_⟩
 ·by_cases hji:o.dst=some x
  ·exact hh x hji
  ·obtain⟨e1,e2⟩:=hf x hji
   rw[e1,e2]
   have hne:j≠i:=fun e=>by subst e;exact hji (by rw[<-hd,Option.some.inj (ho.symm.trans hj)])
   refine hA.has j o' x hj hd ?_
   have hne':i≠j:=fun e=>hne e.symm
   simpa [Array.getD_eq_getD_getElem?,Array.getElem?_setIfInBounds_ne hne'] using hl
 ·obtain⟨e1,e2⟩:=hf x (hx i o ho)
  rw[e1,e2]
  exact hA.not x hx
theorem Agree.next2 {ops:Array Oper} {tl late:List Nat} {v:Nat->Value} {listed:Array Bool} {a0 a:Act} (hB:growB2 ops a0.tmps.size tl late=true) (hsz:listed.size=ops.size) (hA:Agree ops v listed a0 a) {i:Nat} {o:Oper} (ho:ops[i]?=some o) {v':Nat->Value} (hv:∀ j,j≠i->v' j=v j):Agree ops v' (listed.setIfInBounds i true) a0 (a.put o.dst (v' i)):=by
 obtain⟨_,hs⟩:=growB2_spec hB
 have hi:i < ops.size:=(Array.getElem?_eq_some_iff.1 ho).1
 refine⟨(put_size _ _ _).trans hA.size,(put_defers' _ _ _).trans hA.defs,fun j o' x hj hd hl=>?_,fun x hx=>?_⟩
 ·by_cases hji:j=i
  ·subst hji
   obtain rfl:o'=o:=Option.some.inj (hj.symm.trans ho)
   rw[hd,put_at _ _ _ (by rw[hA.size];exact ((hs _ _ hj).2.1 x hd).1)]
  ·rw[put_far _ _ _ _ (fun e=>hji (((hs _ _ ho).2.1 x e).2 j o' hj hd)),hv j hji]
   refine hA.has j o' x hj hd ?_
   have:i≠j:=fun e=>hji e.symm
   simpa [Array.getD_eq_getD_getElem?,Array.getElem?_setIfInBounds_ne this] using hl
 ·rw[put_far,hA.not x fun j o' hj hd=>?_]
  ·have:=hx j o' hj hd
   by_cases hji:j=i
   ·subst hji
    have hlt:j < listed.size:=by rw[hsz];exact hi
    simp[Array.getD_eq_getD_getElem?,Array.getElem?_setIfInBounds_self_of_lt hlt] at this
   ·have hne:i≠j:=fun e=>hji e.symm
    simpa [Array.getD_eq_getD_getElem?,Array.getElem?_setIfInBounds_ne hne] using this
  ·intro e
   have:=hx i o ho e
   have hlt:i < listed.size:=by rw[hsz];exact hi
   simp[Array.getD_eq_getD_getElem?,Array.getElem?_setIfInBounds_self_of_lt hlt] at this
theorem all_listed2 {ops:Array Oper} {m:Nat} {tl late:List Nat} {listed:Array Bool} (hB:growB2 ops m tl late=true) (hsz:listed.size=ops.size) (hr:Region.ready .any ops listed=[]):∀ i,i < ops.size->listed.getD i false=true:=by
 intro i
 induction i using Nat.strongRecOn with
 | ind i ih =>
   intro hi
   obtain⟨_,hs⟩:=growB2_spec hB
   cases hl:listed.getD i false with
   | true=>rfl
   | false =>
     exfalso
     have hlt:i < listed.size:=by rw[hsz];exact hi
     have:i∈Region.ready .any ops listed:=mem_ready.2 ⟨by
      have e:listed.getD i true=listed.getD i false:=by simp[Array.getD,hlt]
      rw[e,hl],ops[i],Array.getElem?_eq_getElem hi,fun e he hb=>by
      have h1:=(hs i ops[i] (Array.getElem?_eq_getElem hi)).1 e he hb
      exact ih e.on h1 (Nat.lt_trans h1 hi)⟩
     rw[hr] at this
     cases this
theorem exec_same2 {ops:Array Oper} {tl late:List Nat} {v:Nat->Value} {listed:Array Bool} {a0 a:Act} (hB:growB2 ops a0.tmps.size tl late=true) (hA:Agree ops v listed a0 a) (hcl:Closed ops listed) {i:Nat} {o:Oper} (ho:ops[i]?=some o) (hun:listed.getD i false=false) (hall:∀ j∈awaits ops i,listed.getD j false=true) :
 execOp a.eval o=execOp (lexAct (ops.toList.take i) v 0 a0).eval o∧Region.wanted o (yielded ops a.tmps)=Region.wanted o (yielded ops (lexAct (ops.toList.take i) v 0 a0).tmps):=by
 obtain⟨hns,hs⟩:=growB2_spec hB
 obtain⟨h1,_,h3⟩:=hs i o ho
 refine exec_of_look hns ho fun x hx=>?_
 by_cases hw:∃ (j:Nat) (o':Oper),ops[j]?=some o'∧o'.dst=some x
 ·obtain⟨j,o',hj,hd⟩:=hw
  rcases h3 x hx j o' hj hd with hwt|⟨_,_,hwt⟩
  ·unfold waitsFor at hwt
   obtain⟨e,he,hb⟩:=List.any_eq_true.1 hwt
   have he:=Array.mem_toList_iff.1 he
   simp only[Bool.and_eq_true,beq_iff_eq] at hb
   obtain⟨hb1,rfl⟩:=hb
   rw[hA.has _ o' x hj hd (hall _ ((mem_awaits ho).2 ⟨e,he,hb1,rfl⟩)),lex_val hB rfl v hj hd (h1 e he hb1)]
  ·obtain⟨e,he,hb1,hon⟩:=(mem_awaits hj).1 hwt
   have hij:i < j:=by have:=(hs j o' hj).1 e he hb1;omega
   have huniq:=((hs j o' hj).2.1 x hd).2
   have hjl:listed.getD j false=false:=by
    cases hl:listed.getD j false with
    | false=>rfl
    | true=>have:=hcl j hl i hwt;rw[hun] at this;cases this
   rw[hA.not x fun j' o2 h2 hd2=>by rw[huniq j' o2 h2 hd2];exact hjl,lex_far]
   intro o2 ho2 hd2
   obtain⟨j2,hj2,he2⟩:=List.mem_iff_getElem.1 ho2
   rw[List.getElem_take] at he2
   rw[List.length_take] at hj2
   have:=huniq j2 o2 (by rw[<-Array.getElem?_toList,List.getElem?_eq_getElem (by omega),he2]) hd2
   omega
 ·have hno:∀ (j:Nat) (o':Oper),ops[j]?=some o'->o'.dst≠some x:=fun j o' hj hd=>hw ⟨j,o',hj,hd⟩
  rw[hA.not x (fun j o' hj hd=>absurd hd (hno j o' hj)),lex_unw v hno]
theorem set_self {listed:Array Bool} {i:Nat} (h:i < listed.size):(listed.setIfInBounds i true).getD i false=true:=by
 simp[Array.getD_eq_getD_getElem?,Array.getElem?_setIfInBounds_self_of_lt h]
theorem set_other {listed:Array Bool} {i j:Nat} (h:i≠j):(listed.setIfInBounds i true).getD j false=listed.getD j false:=by
 simp[Array.getD_eq_getD_getElem?,Array.getElem?_setIfInBounds_ne h]
theorem Closed.set {ops:Array Oper} {listed:Array Bool} (hc:Closed ops listed) (hsz:listed.size=ops.size) {i:Nat} {o:Oper} (ho:ops[i]?=some o) (hall:∀ j∈awaits ops i,listed.getD j false=true):Closed ops (listed.setIfInBounds i true):=by
 have hi:i < listed.size:=by rw[hsz];exact (Array.getElem?_eq_some_iff.1 ho).1
 have hup:∀ j,listed.getD j false=true->(listed.setIfInBounds i true).getD j false=true:=fun j hj=>by
  by_cases h:i=j
  ·subst h;exact set_self hi
  ·rw[set_other h];exact hj
 intro j hj k hk
 by_cases h:i=j
 ·subst h;exact hup k (hall k hk)
 ·rw[set_other h] at hj
  exact hup k (hc j hj k hk)
theorem getD_flip {listed:Array Bool} {i:Nat} (h:listed.getD i true=false):listed.getD i false=false:=by
 have hlt:=getD_pos h
 simpa [Array.getD,hlt] using h
theorem getD_mem {tl:List Nat} {q:Nat} (h:q < tl.length):tl.getD q 0=tl[q]:=by simp[List.getD,List.getElem?_eq_getElem h]
theorem wp_region_growT {P:Program} {id:Nat} {Q:Exit->Act->World->Prop} {a:Act} {w:World} {l:List Oper} (tl late:List Nat) (S:World->Prop) {tops:List Oper} (hm:P.follows .mixedOrders=true) (hB:growTB l.toArray a.tmps.size tl late=true) (htops:tl.map (fun i=>l[i]?)=tops.map some)
 (h:∃ T,wpGrowT P l.toArray w S tl late (wpTail P S (Q .normal) tops) l T 0 (fun _=>Fact.no) a):(Code.region id l.toArray true).wp P Q a w:=by
 obtain⟨T,h⟩:=h
 have htops:tl.map (fun i=>l.toArray[i]?)=tops.map some:=by simpa using htops
 have hops:l.toArray.toList=l:=List.toList_toArray
 generalize hO:l.toArray=ops at *
 subst hops
 have ok:=growTB_spec hB
 have hB:=ok.grow
 obtain⟨_,hs⟩:=growB2_spec hB
 have htl:tops.length=tl.length:=by have:=congrArg List.length htops;simpa using this.symm
 have htop:∀ q (h1:q < tl.length) (h2:q < tops.length),ops[tl[q]]?=some tops[q]:=fun q h1 h2=>by
  have:=congrArg (fun x=>x[q]?) htops
  simpa [List.getElem?_eq_getElem h1,List.getElem?_eq_getElem h2] using this
 have hlen:∀ (l:List Oper) (T:List Held) (k:Nat) (F:Nat->Fact) (a:Act),wpGrowT P ops w S tl late (wpTail P S (Q .normal) tops) l T k F a->l.length<=T.length:=by
  intro l
  induction l with
  | nil=>intro _ _ _ _ _;exact Nat.zero_le _
  | cons o l ih =>
    intro T k F a h
    cases T with
    | nil=>cases h
    | cons hd T =>
      cases hd with
      | one c=>exact Nat.succ_le_succ (ih _ _ _ _ h.2)
      | fam β d val fact=>exact Nat.succ_le_succ (ih _ _ _ _ (h.2 d))
 have hn:=hlen _ _ _ _ _ h
 rw[Array.length_toList] at hn
 -- the second phase
 let M:(Nat->Value)->Array Bool->Act->World->Prop:=fun v listed a' w'=>∃ t a2,t<=tl.length∧(∀ q (hq:q < tl.length),listed.getD tl[q] false=decide (q < t))∧(∀ j,j < ops.size->j ∉ tl->j ∉ late->listed.getD j false=true) ∧
  AgreeM ops listed a2 a'∧a2.tmps.size=a.tmps.size∧(∀ j o x,j ∉ tl->ops[j]?=some o->o.dst=some x->a2.tmps[x]?=some (v j))∧(∀ x,(∀ (j:Nat) (o:Oper),ops[j]?=some o->o.dst≠some x)->a2.tmps[x]?=a.tmps[x]?)∧wpTail P S (Q .normal) (tops.drop t) a2 w'
 let J:Array Bool->Act->World->Prop:=fun listed a' w'=>listed.size=ops.size∧Closed ops listed∧∃ (v:Nat->Value) (G:Nat->Fact),(∀ j h,T[j]?=some h->SelAt h (v j) (G j)) ∧
  (((∀ j∈tl,listed.getD j false=false)∧Ext w w'∧(∀ j,listed.getD j false=true->(G j).holds w')∧Agree ops v listed a a')∨M v listed a' w')
 -- one operation of the tail
 have hstepM:∀ (v:Nat->Value) (G:Nat->Fact),(∀ j h,T[j]?=some h->SelAt h (v j) (G j))->∀ (i:Nat) (o:Oper) (listed:Array Bool) (a':Act) (w':World),listed.size=ops.size->ops[i]?=some o->listed.getD i true=false->(∀ j∈awaits ops i,listed.getD j false=true)->Closed ops listed->i∈tl->M v listed a' w' ->
  ∀ K:Act->World->Prop,(∀ a w,J (listed.setIfInBounds i true) a w->K a w)->Oper.wp P o a' w' K Q∧Region.wanted o (yielded ops a'.tmps)=true:=by
  intro v G hS i o listed a' w' hsz ho hun hall hcl hi ⟨t,a2,ht,hq,hhd,hA,hsz2,hv,hno,hw⟩ K hK
  refine⟨?_,by simp[Region.wanted,ok.bare _ hi _ ho]⟩
  obtain⟨q,hql,rfl⟩:=List.mem_iff_getElem.1 hi
  have hqt:t<=q:=by
   have:=hq q hql
   rw[getD_flip hun] at this
   simpa using this.symm
  have hq1:q=t:=by
   rcases Nat.eq_or_lt_of_le hqt with e|e
   ·exact e.symm
   ·exfalso
    have hc:=ok.chain (q - 1) (by omega)
    rw[show q - 1+1=q by omega,getD_mem hql,getD_mem (show q - 1 < tl.length by omega)] at hc
    have h1:=hall _ hc
    rw[hq (q - 1) (by omega)] at h1
    have:q - 1 < t:=by simpa using h1
    omega
  subst hq1
  have ho2:=htop q hql (by rw[htl];exact hql)
  obtain rfl:tops[q]'(by rw[htl];exact hql)=o:=Option.some.inj (ho2.symm.trans ho)
  rw[List.drop_eq_getElem_cons (by rw[htl];exact hql)] at hw
  have hlook:∀ x∈(tops[q]'(by rw[htl];exact hql)).looksAt ops,a'.tmps[x]?=a2.tmps[x]?:=fun x hx=>by
   rcases look_cases hB (.inl hi) ho hx with ⟨j,o',hj,hd,haw,_⟩|hnw
   ·exact hA.has j o' x hj hd (hall j haw)
   ·exact hA.not x hnw
  obtain⟨he,_⟩:=exec_of_look (growB2_spec hB).1 ho hlook
  have hset:∀ (a2' a'':Act) (w'':World),AgreeM ops (listed.setIfInBounds tl[q] true) a2' a''->a2'.tmps.size=a.tmps.size->(∀ x,(tops[q]'(by rw[htl];exact hql)).dst≠some x->a2'.tmps[x]?=a2.tmps[x]?)->wpTail P S (Q .normal) (tops.drop (q+1)) a2' w''->J (listed.setIfInBounds tl[q] true) a'' w'':=by
   intro a2' a'' w'' hA' hz' hf hw'
   have hlt:tl[q] < listed.size:=by rw[hsz];exact ok.lt _ hi
   refine⟨by rw[Array.size_setIfInBounds];exact hsz,hcl.set hsz ho hall,v,G,hS,.inr ⟨q+1,a2',hql,fun q' hq'=>?_,fun j hj h1 h2=>?_,hA',hz',fun j o x hjt hjo hd=>?_,fun x hx=>?_,hw'⟩⟩
   ·by_cases e:q'=q
    ·subst e;rw[set_self hlt];simp
    ·have hne:tl[q]≠tl[q']:=fun e2=>by
      have hmono:∀ d q0 (h1:q0+d+1 < tl.length),tl[q0]'(by omega) < tl[q0+d+1]:=by
       intro d
       induction d with
       | zero =>
         intro q0 h1
         have:=ok.chain q0 h1
         rw[getD_mem h1,getD_mem (show q0 < tl.length by omega)] at this
         have h3:q0+0+1=q0+1:=rfl
         cases ho3:ops[tl[q0+1]]? with
         | none=>unfold awaits at this;rw[ho3] at this;cases this
         | some o3 =>
           obtain⟨e,he,hb,h4⟩:=(mem_awaits ho3).1 this
           have:=(hs _ o3 ho3).1 e he hb
           simp only[Nat.add_zero]
           omega
       | succ d ihd =>
         intro q0 h1
         have h2:=ihd q0 (by omega)
         have h1':q0+d+1+1 < tl.length:=by omega
         have:=ok.chain (q0+d+1) h1'
         rw[getD_mem h1',getD_mem (show q0+d+1 < tl.length by omega)] at this
         cases ho3:ops[tl[q0+d+1+1]]? with
         | none=>unfold awaits at this;rw[ho3] at this;cases this
         | some o3 =>
           obtain⟨e,he,hb,h4⟩:=(mem_awaits ho3).1 this
           have:=(hs _ o3 ho3).1 e he hb
           show tl[q0]'(by omega) < tl[q0+d+1+1]
           omega
      rcases Nat.lt_or_gt_of_ne e with h|h
      ·have:=hmono (q - q' - 1) q' (by omega)
       simp only[show q'+(q - q' - 1)+1=q by omega] at this
       omega
      ·have:=hmono (q' - q - 1) q (by omega)
       simp only[show q+(q' - q - 1)+1=q' by omega] at this
       omega
     rw[set_other hne,hq q' hq']
     simp only[decide_eq_decide]
     omega
   ·have hne:tl[q]≠j:=fun e=>h1 (e ▸ hi)
    rw[set_other hne];exact hhd j hj h1 h2
   ·rw[hf x (fun e=>?_)]
    ·exact hv j o x hjt hjo hd
    ·exact hjt (((hs _ _ ho).2.1 x e).2 j o hjo hd ▸ hi)
   ·rw[hf x (hx _ _ ho)];exact hno x hx
  refine Oper.wp_to he (fun u w'' hk=>hK _ _ (hset _ _ _ ?_ ?_ ?_ hk)) (fun d w'' hk=>hK _ _ (hset _ _ _ ?_ ?_ ?_ hk)) (fun _ _ h=>h.elim) (fun ⟨_,_,h⟩=>h.elim) hw.2
  ·refine hA.next (m:=a.tmps.size) hsz ho hsz2 u ?_ (put_size _ _ _) (put_size _ _ _) (fun x hx=>?_) (fun x hx=>⟨put_far _ _ _ _ hx,put_far _ _ _ _ hx⟩)
   ·rw[put_defers',put_defers'];exact hA.defs
   ·have hlt:=((hs _ _ ho).2.1 x hx).1
    rw[hx,put_at _ _ _ (by rw[hA.size,hsz2];exact hlt),put_at _ _ _ (by rw[hsz2];exact hlt)]
  ·rw[put_size];exact hsz2
  ·exact fun x hx=>put_far _ _ _ _ hx
  ·refine hA.next (m:=a.tmps.size) hsz ho hsz2 undef ?_ (put_size _ _ _) (put_size _ _ _) (fun x hx=>?_) (fun x hx=>⟨put_far _ _ _ _ hx,put_far _ _ _ _ hx⟩)
   ·rw[put_defers',put_defers'];simp only[hA.defs]
   ·have hlt:=((hs _ _ ho).2.1 x hx).1
    rw[hx,put_at _ _ _ (by show x < a'.tmps.size;rw[hA.size,hsz2];exact hlt),put_at _ _ _ (by show x < a2.tmps.size;rw[hsz2];exact hlt)]
  ·rw[put_size];exact hsz2
  ·exact fun x hx=>put_far _ _ _ _ hx
 have hun_ne:∀ {listed:Array Bool} {i j:Nat},listed.getD i true=false->listed.getD j false=true->i≠j:=fun hun hj e=>by
  subst e
  rw[getD_flip hun] at hj;cases hj
 have hset:∀ {listed:Array Bool} {i j:Nat},(listed.setIfInBounds i true).getD j false=true->j≠i->listed.getD j false=true:=fun hj hne=>by
  rwa [set_other (fun e=>hne e.symm)] at hj
 refine wp_region_inv hm J ?_ ?_ ?_
 ·refine⟨by simp,fun j hj=>?_,fun j=>match T[j]? with|some (.one c)=>c|some (.fam _ d val _)=>val d|none=>undef,fun j=>match T[j]? with|some (.fam _ d _ fact)=>fact d|_=>Fact.no,fun j h hj=>?_,.inl ⟨fun j _=>getD_replicate_false _ _,(Ext.refl w).drew,fun j hj=>?_,rfl,rfl,fun j o x hj hd hl=>?_,fun x _=>rfl⟩⟩
  ·rw[getD_replicate_false] at hj;cases hj
  ·simp only[hj]
   cases h with
   | one c=>exact⟨rfl,rfl⟩
   | fam β d val fact=>exact⟨d,rfl,rfl⟩
  ·rw[getD_replicate_false] at hj;cases hj
  ·rw[getD_replicate_false] at hl;cases hl
 ·intro i o listed a' w' hsz ho hun hall hJ K hK
  obtain⟨_,hcl,v,G,hS,hJ⟩:=hJ
  have hallj:∀ j∈awaits ops i,listed.getD j false=true:=fun j hj=>by
   obtain⟨e,he,hb,rfl⟩:=(mem_awaits ho).1 hj
   exact hall e he hb
  have hszs:(listed.setIfInBounds i true).size=ops.size:=by rw[Array.size_setIfInBounds];exact hsz
  have hcls:=hcl.set hsz ho hallj
  have hilt:i < listed.size:=getD_pos hun
  obtain⟨hd,hT,hob⟩:=(wpGrowT_at ops.toList T 0 _ a v G (fun j=>by simp) (fun j h hj=>by rw[Nat.zero_add];exact hS j h hj) h).1 i o (by rw[Array.getElem?_toList];exact ho)
  rw[Nat.zero_add] at hob
  by_cases hi:i∈tl
  ·-- the tail
   have hM:M v listed a' w':=by
    rcases hJ with ⟨hnone,hx,hG,hA⟩|hM
    ·have hi0:i=tl.getD 0 0:=by
      obtain⟨q,hql,rfl⟩:=List.mem_iff_getElem.1 hi
      cases q with
      | zero=>rw[getD_mem hql]
      | succ q =>
        have hc:=ok.chain q hql
        rw[getD_mem hql,getD_mem (show q < tl.length by omega)] at hc
        have:=hallj _ hc
        rw[hnone _ (List.getElem_mem _)] at this
        cases this
     subst hi0
     have hhd:=ok.reach listed hcl hallj
     refine⟨0,lexAct ops.toList v 0 a,Nat.zero_le _,fun q hq=>by rw[hnone _ (List.getElem_mem _)];simp,hhd,?_,(lex_size _ _ _ _).1,fun j o' x hjt hj hd'=>?_,fun x hx=>?_,?_⟩
     ·have hfull:ops.toList.take ops.size=ops.toList:=List.take_of_length_le (by simp)
      refine⟨hA.size.trans (lex_size _ _ _ _).1.symm,hA.defs.trans (lex_size _ _ _ _).2.symm,fun j o' x hj hd' hl=>?_,fun x hx=>?_⟩
      ·have:=lex_val hB rfl v (i:=ops.size) hj hd' (Array.getElem?_eq_some_iff.1 hj).1
       rw[hfull] at this
       rw[hA.has j o' x hj hd' hl,this]
      ·have:=lex_unw (a:=a) v (i:=ops.size) hx
       rw[hfull] at this
       rw[hA.not x (fun j o' hj hd'=>absurd hd' (hx j o' hj)),this]
     ·have:=lex_val hB rfl v (i:=ops.size) hj hd' (Array.getElem?_eq_some_iff.1 hj).1
      rwa [List.take_of_length_le (by simp)] at this
     ·have:=lex_unw (a:=a) v (i:=ops.size) hx
      rwa [List.take_of_length_le (by simp)] at this
     ·have hfin:=(wpGrowT_at ops.toList T 0 _ a v G (fun j=>by simp) (fun j h hj=>by rw[Nat.zero_add];exact hS j h hj) h).2 w' hx (fun j hj=>by
       rw[Nat.zero_add,Array.length_toList] at hj
       by_cases hl:listed.getD j false=true
       ·exact hG j hl
       ·-- one of the tail,or late: no fact
        have hTj:j < T.length:=Nat.lt_of_lt_of_le hj hn
        have hob':=(wpGrowT_at ops.toList T 0 _ a v G (fun j=>by simp) (fun j h hj=>by rw[Nat.zero_add];exact hS j h hj) h).1 j ops[j] (by rw[Array.getElem?_toList,Array.getElem?_eq_getElem hj])
        obtain⟨h',hT',hob'⟩:=hob'
        have hsel:=hS j _ hT'
        cases h' with
        | one c=>rw[hsel.2];trivial
        | fam β d val fact =>
          exfalso
          obtain⟨k1,k2,_⟩:=hob'
          rw[Nat.zero_add] at k1 k2
          exact hl (hhd j hj (by simpa using k1) (by simpa using k2)))
      exact hfin
    ·exact hM
   obtain⟨h1,h2⟩:=hstepM v G hS i o listed a' w' hsz ho hun hallj hcl hi hM K hK
   rw[if_pos h2];exact h1
  ·rcases hJ with ⟨hnone,hx,hG,hA⟩|⟨t,a2,ht,hq,hhd,hA,hsz2,hv,hno,hw⟩
   ·-- the head,ahead of the tail
    obtain⟨ha,hq⟩:=exec_same2 hB hA hcl ho (getD_flip hun) hallj
    have hnone':∀ j∈tl,(listed.setIfInBounds i true).getD j false=false:=fun j hj=>by
     rw[set_other (fun e=>hi (by rw[e];exact hj))];exact hnone j hj
    have hcls':Cls w o (fun i'=>if i' < i then G i' else Fact.no) w':=⟨hx,fun j hj=>by
     unfold waitsFor at hj
     obtain⟨e,he,hb⟩:=List.any_eq_true.1 hj
     have he:=Array.mem_toList_iff.1 he
     simp only[Bool.and_eq_true,beq_iff_eq] at hb
     obtain⟨hb1,rfl⟩:=hb
     have:=(hs i o ho).1 e he hb1
     simp only[this,if_true]
     exact hG _ (hall e he hb1)⟩
    have hti:tl.contains i=false:=by simpa using hi
    cases hd with
    | one c =>
      have hsel:=hS i _ hT
      have hJ':∀ w'',Ext w' w''->J (listed.setIfInBounds i true) (a'.put o.dst c) w'':=fun w'' hw=>by
       refine⟨hszs,hcls,v,G,hS,.inl ⟨hnone',hx.trans hw,fun j hj=>?_,?_⟩⟩
       ·by_cases hji:j=i
        ·subst hji;rw[hsel.2];trivial
        ·exact (G j).stays _ _ (hG j (hset hj hji)) hw
       ·have:=hA.next2 hB hsz ho (v':=v) (fun _ _=>rfl)
        rwa [hsel.1] at this
      have hob1:(if late.contains i=true then LateAt P ops w S (fun i'=>if i' < i then G i' else Fact.no) o (lexAct (ops.toList.take i) v 0 a) c else OneAt P ops w (fun i'=>if i' < i then G i' else Fact.no) o (lexAct (ops.toList.take i) v 0 a) c):=by
       have:=hob
       unfold SpecT at this
       rwa [hti] at this
      by_cases hlt:late.contains i=true
      ·rw[if_pos hlt] at hob1
       unfold LateAt at hob1
       rw[<-hq] at hob1
       split
       ·rename_i hw
        rw[if_pos hw] at hob1
        have h3:=hob1 w' (.inl hcls')
        rw[<-ha] at h3
        unfold Oper.wp
        rw[h3]
        exact hK _ _ (hJ' _ (Ext.refl _))
       ·rename_i hw
        rw[if_neg hw] at hob1
        rw[<-hob1]
        exact hK _ _ (hJ' _ (Ext.refl _))
      ·rw[if_neg hlt] at hob1
       unfold OneAt at hob1
       rw[<-hq] at hob1
       split
       ·rename_i hw
        rw[if_pos hw] at hob1
        have h3:=hob1 w' hcls'
        unfold Oper.quietAt at h3
        rw[<-ha] at h3
        unfold Oper.wp
        generalize (execOp a'.eval o).run P w'=r at *
        cases r with
        | ok n w2 =>
          cases n<;>simp only[Oper.quietUpon] at h3<;>simp only[Oper.upon]
          case value u =>
           obtain⟨e1,e2⟩:=h3
           rw[e1,e2]
           exact hK _ _ (hJ' _ (Ext.refl _))
          case skip =>
           obtain⟨e1,e2⟩:=h3
           rw[e1,<-e2]
           exact hK _ _ (hJ' _ (Ext.refl _))
          case enter f args =>
           obtain⟨e1,hc⟩:=h3
           rw[e1]
           exact hc.mono fun e w'' ⟨he,hw''⟩=>by subst he;exact hK _ _ (hJ' _ hw'')
        | halt x w2=>simp only[Oper.quietUpon] at h3
       ·rename_i hw
        rw[if_neg hw] at hob1
        rw[<-hob1]
        exact hK _ _ (hJ' _ (Ext.refl _))
    | fam β d val fact =>
      obtain⟨_,_,hfam⟩:=hob
      have hJ':∀ b w'',Ext w' w''->(fact b).holds w''->J (listed.setIfInBounds i true) (a'.put o.dst (val b)) w'':=fun b w'' hw hf=>by
       refine⟨hszs,hcls,fun j=>if j=i then val b else v j,fun j=>if j=i then fact b else G j,fun j h hj=>?_,.inl ⟨hnone',hx.trans hw,fun j hj=>?_,?_⟩⟩
       ·by_cases hji:j=i
        ·subst hji
         obtain rfl:=Option.some.inj (hT.symm.trans hj)
         simp only[if_true]
         exact⟨b,rfl,rfl⟩
        ·simp only[hji,if_false];exact hS j h hj
       ·by_cases hji:j=i
        ·subst hji;simp only[if_true];exact hf
        ·simp only[hji,if_false];exact (G j).stays _ _ (hG j (hset hj hji)) hw
       ·have:=hA.next2 hB hsz ho (v':=fun j=>if j=i then val b else v j) (fun j hne=>by simp only[hne,if_false])
        simpa using this
      obtain⟨hw1,hw2⟩:=hfam
      rw[if_pos (hq.trans hw1)]
      have h3:=hw2 w' hcls'
      rw[<-ha] at h3
      unfold Oper.wp
      generalize (execOp a'.eval o).run P w'=r at *
      cases r with
      | ok n w2 =>
        cases n<;>simp only[growUpon] at h3<;>simp only[Oper.upon]
        case value u =>
         obtain⟨e1,b,e2,e3⟩:=h3
         rw[e2]
         exact hK _ _ (hJ' b _ e1 e3)
        case enter f args =>
         obtain⟨e1,hc⟩:=h3
         rw[e1]
         exact hc.mono fun e w'' ⟨hw'',b,he,hf⟩=>by subst he;exact hK _ _ (hJ' b _ hw'' hf)
      | halt x w2=>simp only[growUpon] at h3
   ·-- late,behind the tail's beginning
    have hil:i∈late:=by
     rcases Classical.em (i∈late) with h1|h1
     ·exact h1
     ·have:=hhd i (Array.getElem?_eq_some_iff.1 ho).1 hi h1
      rw[getD_flip hun] at this;cases this
    have hti:tl.contains i=false:=by simpa using hi
    have hlc:late.contains i=true:=by simpa using hil
    have hlook:∀ x∈o.looksAt ops,a'.tmps[x]?=(lexAct (ops.toList.take i) v 0 a).tmps[x]?:=fun x hx=>by
     rcases look_cases hB (.inr hil) ho hx with ⟨j,o',hj,hd',haw,hji⟩|hnw
     ·rw[hA.has j o' x hj hd' (hallj j haw),hv j o' x (ok.free i hi j haw) hj hd',lex_val hB rfl v hj hd' hji]
     ·rw[hA.not x hnw,hno x hnw,lex_unw v hnw]
    obtain⟨he,hqw⟩:=exec_of_look (growB2_spec hB).1 ho hlook
    cases hd with
    | fam β d val fact=>obtain⟨_,k2,_⟩:=hob;rw[hlc] at k2;cases k2
    | one c =>
      have hsel:=hS i _ hT
      have hob1:LateAt P ops w S (fun i'=>if i' < i then G i' else Fact.no) o (lexAct (ops.toList.take i) v 0 a) c:=by
       have:=hob
       unfold SpecT at this
       rw[hti,hlc] at this
       simpa using this
      unfold LateAt at hob1
      rw[<-hqw] at hob1
      have hJ':J (listed.setIfInBounds i true) (a'.put o.dst c) w':=by
       refine⟨hszs,hcls,v,G,hS,.inr ⟨t,a2,ht,fun q hql=>?_,fun j hj h1 h2=>?_,?_,hsz2,hv,hno,hw⟩⟩
       ·rw[set_other (fun e=>hi (by rw[e];exact List.getElem_mem _))];exact hq q hql
       ·by_cases e:i=j
        ·subst e;exact set_self hilt
        ·rw[set_other e];exact hhd j hj h1 h2
       ·refine hA.next (m:=a.tmps.size) hsz ho hsz2 c (by rw[put_defers'];exact hA.defs) rfl (put_size _ _ _) (fun x hx=>?_) (fun x hx=>⟨put_far _ _ _ _ hx,rfl⟩)
        have hlt:=((hs _ _ ho).2.1 x hx).1
        rw[hv i o x hi ho hx,hx,put_at _ _ _ (by rw[hA.size,hsz2];exact hlt),hsel.1]
      split
      ·rename_i hw'
       rw[if_pos hw'] at hob1
       have h3:=hob1 w' (.inr hw.holds)
       rw[<-he] at h3
       unfold Oper.wp
       rw[h3]
       exact hK _ _ hJ'
      ·rename_i hw'
       rw[if_neg hw'] at hob1
       rw[<-hob1]
       exact hK _ _ hJ'
 ·intro listed a' w' hsz hr hJ
  obtain⟨_,hcl,v,G,hS,hJ⟩:=hJ
  have hall:=all_listed2 hB hsz hr
  rcases hJ with ⟨hnone,_⟩|⟨t,a2,ht,hq,hhd,hA,hsz2,hv,hno,hw⟩
  ·have h0:tl[0]'ok.pos∈tl:=List.getElem_mem _
   have:=hall _ (ok.lt _ h0)
   rw[hnone _ h0] at this
   cases this
  ·have hte:t=tl.length:=by
    rcases Nat.lt_or_ge t tl.length with h1|h1
    ·have:=hq t h1
     rw[hall _ (ok.lt _ (List.getElem_mem _))] at this
     simp at this
    ·omega
   rw[List.drop_eq_nil_of_le (by rw[htl];omega)] at hw
   have he:a'=a2:=by
    have ht:a'.tmps=a2.tmps:=by
     apply Array.ext_getElem?
     intro x
     by_cases hw:∃ (j:Nat) (o':Oper),ops[j]?=some o'∧o'.dst=some x
     ·obtain⟨j,o',hj,hd⟩:=hw
      exact hA.has j o' x hj hd (hall j (Array.getElem?_eq_some_iff.1 hj).1)
     ·exact hA.not x fun j o' hj hd=>hw ⟨j,o',hj,hd⟩
    have hd:=hA.defs
    cases a';cases a2
    simp only at ht hd
    simp[ht,hd]
   rw[he]
   exact hw.2
section
variable {P:Program} {ops:Array Oper} {w0:World} {S:World->Prop} {Q:Act->World->Prop} {tl late:List Nat} {F:Nat->Fact} {o:Oper} {rest:List Oper} {T:List Held} {k:Nat} {a:Act}
theorem growT_nil (h:∀ w,Ext w0 w->(∀ j,(F j).holds w)->Q a w):wpGrowT P ops w0 S tl late Q [] [] k F a:=h
theorem growT_tail (ht:tl.contains k=true) (h:wpGrowT P ops w0 S tl late Q rest T (k+1) F (a.put o.dst undef)):wpGrowT P ops w0 S tl late Q (o::rest) (.one undef::T) k F a :=
 ⟨by unfold SpecT;dsimp only;rw[if_pos ht],h⟩
theorem growT_skip (hw:Region.wanted o (yielded ops a.tmps)=false) (h:wpGrowT P ops w0 S tl late Q rest T (k+1) F (a.put o.dst undef)):wpGrowT P ops w0 S tl late Q (o::rest) (.one undef::T) k F a:=by
 refine⟨?_,h⟩
 unfold SpecT LateAt OneAt
 dsimp only
 have hn:¬ Region.wanted o (yielded ops a.tmps)=true:=by rw[hw];exact Bool.false_ne_true
 split
 ·rfl
 ·split<;>simp
theorem growT_late {v:Value} (ht:tl.contains k=false) (hl:late.contains k=true) (hw:Region.wanted o (yielded ops a.tmps)=true) (hv:∀ w,Cls w0 o F w∨S w->(execOp a.eval o).run P w=.ok (.value v) w) (h:wpGrowT P ops w0 S tl late Q rest T (k+1) F (a.put o.dst v)):wpGrowT P ops w0 S tl late Q (o::rest) (.one v::T) k F a:=by
 refine⟨?_,h⟩
 unfold SpecT LateAt
 dsimp only
 rw[if_neg (by rw[ht];exact Bool.false_ne_true),if_pos hl,if_pos hw]
 exact hv
theorem growT_one {v:Value} (ht:tl.contains k=false) (hl:late.contains k=false) (hw:Region.wanted o (yielded ops a.tmps)=true) (hv:∀ w,Cls w0 o F w->o.quietAt P a (Ext w) w v) (h:wpGrowT P ops w0 S tl late Q rest T (k+1) F (a.put o.dst v)):wpGrowT P ops w0 S tl late Q (o::rest) (.one v::T) k F a:=by
 refine⟨?_,h⟩
 unfold SpecT OneAt
 dsimp only
 rw[if_neg (by rw[ht];exact Bool.false_ne_true),if_neg (by rw[hl];exact Bool.false_ne_true),if_pos hw]
 exact hv
theorem growT_fam {β:Type} {d:β} {val:β->Value} {fact:β->Fact} (ht:tl.contains k=false) (hl:late.contains k=false) (hw:Region.wanted o (yielded ops a.tmps)=true) (hv:∀ w,Cls w0 o F w->growUpon P o w val fact ((execOp a.eval o).run P w)) (h:∀ b,wpGrowT P ops w0 S tl late Q rest T (k+1) (setF F k (fact b)) (a.put o.dst (val b))) :
 wpGrowT P ops w0 S tl late Q (o::rest) (.fam β d val fact::T) k F a:=⟨⟨ht,hl,hw,hv⟩,h⟩
theorem growT_call {β:Type} {d:β} {val:β->Value} {fact:β->Fact} (ht:tl.contains k=false) (hl:late.contains k=false) (hw:Region.wanted o (yielded ops a.tmps)=true) {f:FuncId} {xs:Array Value} (he:∀ w,(execOp a.eval o).run P w=.ok (.enter f xs) w)
 (hv:∀ w,Cls w0 o F w->Calls P f xs w fun e w''=>Ext w w''∧∃ b,e=.returned (val b)∧(fact b).holds w'') (h:∀ b,wpGrowT P ops w0 S tl late Q rest T (k+1) (setF F k (fact b)) (a.put o.dst (val b))) :
 wpGrowT P ops w0 S tl late Q (o::rest) (.fam β d val fact::T) k F a :=
 growT_fam ht hl hw (fun w hq=>by rw[he w];exact⟨rfl,hv w hq⟩) h
def blkN (N:Nat) (t:TypeId) (cs:Array Value) (b:Nat):Fact:=⟨fun w=>Blk w b t cs∧N<=b,fun _ _ h hx=>⟨h.1.ext hx,h.2⟩⟩
theorem growT_new {n c:Nat} {t:TypeId} {cs:Array Value} (ht:tl.contains k=false) (hl:late.contains k=false) (hw:Region.wanted o (yielded ops a.tmps)=true) (hv:∀ w,(execOp a.eval o).run P w=.ok (.value (.slice (some ⟨w.heap.size,0,none⟩) n c)) (w.alloc (.cells cs t)))
 (h:∀ b,wpGrowT P ops w0 S tl late Q rest T (k+1) (setF F k (blkN w0.heap.size t cs b)) (a.put o.dst (.slice (some ⟨b,0,none⟩) n c))):wpGrowT P ops w0 S tl late Q (o::rest) (.fam Nat 0 (fun b=>.slice (some ⟨b,0,none⟩) n c) (blkN w0.heap.size t cs)::T) k F a :=
 growT_fam ht hl hw (fun w hq=>by rw[hv w];exact⟨(Ext.refl w).alloc _,w.heap.size,rfl,Blk.new w t cs,hq.ext.size⟩) h
theorem Cls.blkN {w:World} (h:Cls w0 o F w) (j:Nat) (hw:waitsFor o j=true) {N b:Nat} {t:TypeId} {cs:Array Value} (hF:F j=blkN N t cs b):Blk w b t cs:=by
 have:=h.facts j hw
 rw[hF] at this
 exact this.1
end
end
section
open Go.RowKit
theorem allS_succ (p:Str->Bool) (xs:List ByteArray) (k:Nat) (h:k < xs.length) (h1:(xs.take k).all (fun x=>p (bs x))=true) (h2:p (bs xs[k])=true):(xs.take (k+1)).all (fun x=>p (bs x))=true:=by
 rw[List.take_succ_eq_append_getElem h,List.all_append,h1]
 simp[h2]
theorem allS_false (p:Str->Bool) (xs:List ByteArray) (k:Nat) (h:k < xs.length) (h2:p (bs xs[k])=false):(xs.map bs).all p=false:=by
 rw[List.all_eq_false]
 exact⟨bs xs[k],List.mem_map.2 ⟨xs[k],List.getElem_mem h,rfl⟩,by simp[h2]⟩
theorem allS_true (p:Str->Bool) (xs:List ByteArray) (h1:(xs.take xs.length).all (fun x=>p (bs x))=true):(xs.map bs).all p=true:=by
 rw[List.take_length] at h1
 rw[List.all_map];exact h1
theorem splitC_le (c:UInt8):∀ (l p:Str),p∈splitC c l->p.length<=l.length
 | [],p,h=>by simp[splitC] at h;simp[h]
 | x::r,p,h=>by
   unfold splitC at h
   by_cases hx:x=c
   ·rw[if_pos hx] at h
    rcases List.mem_cons.1 h with e|e
    ·simp[e]
    ·have:=splitC_le c r p e;simp;omega
   ·rw[if_neg hx] at h
    cases hs:splitC c r with
    | nil=>exact absurd hs (splitC_ne c r)
    | cons q t =>
      rw[hs] at h
      rcases List.mem_cons.1 h with e|e
      ·have:=splitC_le c r q (by rw[hs];simp)
       rw[e];simp;omega
      ·have:=splitC_le c r p (by rw[hs];simp[e]);simp;omega
theorem piece_le {c:UInt8} {s:ByteArray} {xs:List ByteArray} (h:xs.map bs=splitC c (bs s)) {k:Nat} (hk:k < xs.length):xs[k].size<=s.size:=by
 rw[<-bs_length,<-bs_length]
 exact splitC_le c _ _ (by rw[<-h];exact List.mem_map.2 ⟨_,List.getElem_mem hk,rfl⟩)
theorem splitC_length_le (c:UInt8):∀ l:Str,(splitC c l).length<=l.length+1
 | []=>by simp[splitC]
 | x::r=>by
   have:=splitC_length_le c r
   unfold splitC
   split
   ·simp;omega
   ·split<;>simp_all;omega
theorem pieces_le {c:UInt8} {s:ByteArray} {xs:List ByteArray} (h:xs.map bs=splitC c (bs s)):xs.length<=s.size+1:=by
 have h1:=splitC_length_le c (bs s)
 rw[<-h,List.length_map,bs_length] at h1
 exact h1
def pathL (l:Str):Bool:=(splitC 47 l).all partL&&decide (l.length<=200)
set_option maxHeartbeats 400000 in
theorem IsPath_any (s:ByteArray) (w:World) (hg:Good w) (hs:s.size<=2097152) :
 Calls Tryz.prog 20 #[.string s] w fun e w'=>e=.returned (.bool (pathL (bs s)))∧Ext w w':=by
 go_enter Tryz.func20,Tryz.ntmps20
 go_wp2_with fail
 refine (split_any 47 s _ hg hs).mono ?_
 rintro e w1 ⟨b,xs,rfl,hb0,hst,hxs,hx⟩
 have HXS:=Hy hxs
 have hcell:=hst.cell
 have HC:=Hy hcell
 clear hcell
 have hlen:=pieces_le hxs
 clear hxs
 go_wp2
 go_loop [8] (fun i=>∃ k:Nat,k<=xs.length∧i=.int .i64 k∧(xs.take k).all (fun x=>partL (bs x))=true) (fun i=>xs.length - (intOf i).toNat)
 case atStart=>exact⟨0,Nat.zero_le _,rfl,by simp⟩
 case round =>
  obtain⟨k,hk,rfl,hall⟩:=hrel
  have HALL:=Hy hall
  clear hall
  by_cases hlt:k < xs.length
  ·have hk1:=HC.out k hlt
   have hsz:=piece_le HXS.out hlt
   go_wp2_with fail
   refine (isPart_any xs[k] _ (by omega)).mono ?_
   rintro e w' ⟨rfl,rfl⟩
   cases hp:partL (bs xs[k])
   ·go_wp2
    go_ret
    refine⟨ret_bool ?_,hx⟩
    unfold pathL
    rw[<-HXS.out,allS_false partL xs k hlt hp]
    rfl
   ·go_wp2
    go_round
    case rel=>exact⟨k+1,by omega,by go_num,allS_succ _ _ _ hlt HALL.out hp⟩
    case measure=>simp[intOf];omega
  ·obtain rfl:k=xs.length:=by omega
   go_wp2
   go_ret
   refine⟨ret_bool ?_,hx⟩
   unfold pathL
   rw[<-HXS.out,allS_true partL xs HALL.out,bs_length]
   simp
   omega
def earlyWordL (l:Str):Bool:=eachL wordB l 10&&!(numeralL l&&(l.headD 0==48)&&(l != [48]))
def earlyL (l:Str):Bool:=(splitC 46 l).all earlyWordL&&decide (l.length<=40)
theorem cast_beq (a:UInt8) (n:Nat) (h:n < 256):(((a.toNat:Nat):Int)==(n:Int))=(a==UInt8.ofNat n):=by
 rw[Bool.eq_iff_iff,beq_iff_eq,beq_iff_eq]
 constructor
 ·intro e
  apply UInt8.toNat_inj.1
  rw[UInt8.toNat_ofNat']
  omega
 ·rintro rfl
  rw[UInt8.toNat_ofNat']
  omega
theorem ew_bad {x:ByteArray} {h0:0 < x.size} (hh:(bs x).headD 0=x[0]) (hn:numeralL (bs x)=true) (h1:(x[0].toNat:Int)=48) (h2:(!x.toList==[48])=true):earlyWordL (bs x)=false:=by
 have h3:x[0]=48:=UInt8.toNat_inj.1 (by show x[0].toNat=48;omega)
 rw[ByteArray.toList_eq] at h2
 have h4:(bs x != [48])=true:=h2
 rw[earlyWordL,hh,h3,hn,h4]
 simp
theorem ew_good1 {x:ByteArray} (hp:eachL wordB (bs x) 10=true) (h2:(!x.toList==[48])=false):earlyWordL (bs x)=true:=by
 rw[ByteArray.toList_eq] at h2
 have h4:(bs x != [48])=false:=h2
 rw[earlyWordL,hp,h4]
 simp
theorem ew_good2 {x:ByteArray} {h0:0 < x.size} (hp:eachL wordB (bs x) 10=true) (hh:(bs x).headD 0=x[0]) (h1:¬ (x[0].toNat:Int)=48):earlyWordL (bs x)=true:=by
 have h3:(x[0]==48)=false:=by
  rw[beq_eq_false_iff_ne]
  intro e
  rw[e] at h1
  exact h1 rfl
 rw[earlyWordL,hp,hh,h3]
 simp
set_option maxHeartbeats 1000000 in
theorem isEarly_any (s:ByteArray) (w:World) (hg:Good w) (hs:s.size<=2097152) :
 Calls Tryz.prog 75 #[.string s] w fun e w'=>e=.returned (.bool (earlyL (bs s)))∧Ext w w':=by
 go_enter Tryz.func75,Tryz.ntmps75
 go_wp2_with fail
 refine (split_any 46 s _ hg hs).mono ?_
 rintro e w1 ⟨b,xs,rfl,hb0,hst,hxs,hx⟩
 have HXS:=Hy hxs
 have hcell:=hst.cell
 have HC:=Hy hcell
 clear hcell
 have hlen:=pieces_le hxs
 clear hxs
 go_wp2
 go_loop [8] (fun i=>∃ k:Nat,k<=xs.length∧i=.int .i64 k∧(xs.take k).all (fun x=>earlyWordL (bs x))=true) (fun i=>xs.length - (intOf i).toNat)
 case atStart=>exact⟨0,Nat.zero_le _,rfl,by simp⟩
 case round =>
  obtain⟨k,hk,rfl,hall⟩:=hrel
  have HALL:=Hy hall
  clear hall
  by_cases hlt:k < xs.length
  ·have hk1:=HC.out k hlt
   have hsz:=piece_le HXS.out hlt
   have hne:earlyWordL (bs xs[k])=false->(xs.map bs).all earlyWordL=false:=allS_false earlyWordL xs k hlt
   have HNE:=Hy hne
   clear hne
   have hsu:=allS_succ earlyWordL xs k hlt HALL.out
   have HSU:=Hy hsu
   clear hsu
   generalize xs[k]=x at *
   go_wp2_with fail
   refine (each_list _ _ x 10 _ (by omega) isEarly1_pred).mono ?_
   rintro e w' ⟨rfl,rfl⟩
   cases hp:eachL wordB (bs x) 10
   ·go_wp2
    go_ret
    refine⟨ret_bool ?_,hx⟩
    unfold earlyL
    rw[<-HXS.out,HNE.out (by rw[earlyWordL,hp];rfl)]
    rfl
   ·have h0:=eachL_pos hp
    have hh:=head_bs x h0
    have HH:=Hy hh
    clear hh
    go_wp2_with fail
    refine (isNumeral_any x _ (by omega)).mono ?_
    rintro e w' ⟨rfl,rfl⟩
    cases hn:numeralL (bs x)
    ·go_wp2
     go_round
     case rel=>exact⟨k+1,by omega,by go_num,HSU.out (by rw[earlyWordL,hp,hn];rfl)⟩
     case measure=>simp[intOf];omega
    ·go_wp2
     ·go_ret
      refine⟨ret_bool ?_,hx⟩
      unfold earlyL
      rw[<-HXS.out,HNE.out (ew_bad HH.out hn (by assumption) (by assumption))]
      rfl
     ·go_round
      case rel=>exact⟨k+1,by omega,by go_num,HSU.out (ew_good1 hp (by assumption))⟩
      case measure=>simp[intOf];omega
     ·go_round
      case rel=>exact⟨k+1,by omega,by go_num,HSU.out (ew_good2 hp HH.out (by assumption))⟩
      case measure=>simp[intOf];omega
  ·obtain rfl:k=xs.length:=by omega
   go_wp2
   go_ret
   refine⟨ret_bool ?_,hx⟩
   unfold earlyL
   rw[<-HXS.out,allS_true earlyWordL xs HALL.out,bs_length]
   simp
   omega
end
section
open Go.RowKit
def inNum (n:Int):Bool:=decide (0<=n∧n<=999999)
def textL (ma mi pa:Int) (e:Str):Str:=Lib.itoa ma++[46]++Lib.itoa mi++[46]++Lib.itoa pa++(if e=[] then [] else 45::e)
set_option maxHeartbeats 1000000 in
theorem text_any (ma mi pa:Int) (ea:ByteArray) (w:World) (hg:GoodN w) (hs:ea.size<=2097152) (h1:0<=ma) (h2:ma<=999999) (h3:0<=mi) (h4:mi<=999999) (h5:0<=pa) (h6:pa<=999999) :
 Calls Tryz.prog 72 #[.agg #[.int .i64 ma,.int .i64 mi,.int .i64 pa,.string ea]] w fun e w'=>e=.returned (S (textL ma mi pa (bs ea)))∧Ext w w':=by
 have la:=Lib.itoa_length_le ma (by omega) (by omega)
 have li:=Lib.itoa_length_le mi (by omega) (by omega)
 have lp:=Lib.itoa_length_le pa (by omega) (by omega)
 go_enter Tryz.func72,Tryz.ntmps72
 go_wp2_with fail
 refine wp_region_ext (by kernel_rfl) (by kernel_rfl) ?_
 repeat (first|go_big_quiet_skip|(refine wpQuiet_step (fun K hK=>?_);go_simp;first|(refine hK _ ?_;clear hK K)|(apply Exists.intro;refine⟨fun wq hwq=>?_,hK _ ?_⟩;(obtain⟨hqc,hqf⟩:=hwq.cells;have hqs:=hwq.size;(try go_simp);first|rfl|((first|rw[if_neg (by omega)]|rw[if_pos (by omega)]);(try go_simp);rfl)|((go_at_call 82;refine (itoa_any _ _ (hg.ext (Ext.trans Ext.au hwq)) (by omega) (by omega)).mono (fun e w'' h=>⟨h.1,hwq.trans h.2⟩))));clear hK K)))
 refine wpQuiet_nil ?_
 intro wN hxN
 obtain⟨hcN,hfN⟩:=hxN.cells
 have hsN:=hxN.size
 rcases Nat.eq_zero_or_pos ea.size with h0|h0
 ·have he:=emp_of_size h0
  go_wp2
  go_ret
  refine⟨ret_strS ?_,Ext.trans Ext.au hxN⟩
  simp[textL,bs_nil h0]
 ·have he:=nemp_of_size h0
  have hi:=nemp_bool h0
  have he2:¬ bs ea=[]:=fun e=>by have:=bs_length ea;rw[e] at this;simp at this;omega
  go_wp2
  go_ret
  refine⟨ret_strS ?_,Ext.trans Ext.au hxN⟩
  simp[textL,he2]
end
section
open Go.RowKit
theorem outside_num (n:Int) (w:World) :
 Calls Tryz.prog 74 #[.int .i64 n,.int .i64 0,.int .i64 999999] w fun e w'=>e=.returned (.bool (!inNum n))∧w=w' :=
 (outside_any n 0 999999 w).mono fun _ _ ⟨h,k⟩=>⟨by
   rw[h]
   refine ret_bool ?_
   unfold inNum
   rw[<-decide_not,decide_eq_decide]
   omega,k⟩
def checkV (ma mi pa:Int) (e:Str):Int:=if (inNum ma&&inNum mi&&inNum pa)=false then 3 else if (!e.isEmpty&&!earlyL e)=true then 2 else 0
set_option maxHeartbeats 1000000 in
theorem Check_any (ma mi pa:Int) (ea:ByteArray) (w:World) (hg:Good w) (hs:ea.size<=2097152) :
 Calls Tryz.prog 17 #[.agg #[.int .i64 ma,.int .i64 mi,.int .i64 pa,.string ea]] w fun e w'=>e=.returned (.int .i64 (checkV ma mi pa (bs ea)))∧Ext w w':=by
 have i0:∀ w,(Instr.index 115 (.agg #[.int .i64 ma,.int .i64 mi,.int .i64 pa]) (.int .i64 0)).run Tryz.prog w=.ok (.int .i64 ma) w:=fun _=>by kernel_rfl
 have i1:∀ w,(Instr.index 115 (.agg #[.int .i64 ma,.int .i64 mi,.int .i64 pa]) (.int .i64 1)).run Tryz.prog w=.ok (.int .i64 mi) w:=fun _=>by kernel_rfl
 have i2:∀ w,(Instr.index 115 (.agg #[.int .i64 ma,.int .i64 mi,.int .i64 pa]) (.int .i64 2)).run Tryz.prog w=.ok (.int .i64 pa) w:=fun _=>by kernel_rfl
 go_enter Tryz.func17,Tryz.ntmps17
 go_wp2
 go_loop [12] (fun i=>(i=.int .i64 0∨(i=.int .i64 1∧inNum ma=true)∨(i=.int .i64 2∧inNum ma=true∧inNum mi=true)∨(i=.int .i64 3∧inNum ma=true∧inNum mi=true∧inNum pa=true))) (fun i=>3 - (intOf i).toNat)
 case atStart=>exact .inl rfl
 case round =>
  rcases hrel with rfl|⟨rfl,h1⟩|⟨rfl,h1,h2⟩|⟨rfl,h1,h2,h3⟩
  ·go_wp2_with fail
   refine (outside_num _ _).mono ?_
   rintro e w' ⟨rfl,rfl⟩
   cases h1:inNum ma
   ·go_wp2
    go_ret
    exact⟨ret_int (by rw[checkV,h1];rfl),Ext.au⟩
   ·go_wp2
    go_round
    case rel=>exact .inr (.inl ⟨rfl,h1⟩)
    case measure=>decide
  ·go_wp2_with fail
   refine (outside_num _ _).mono ?_
   rintro e w' ⟨rfl,rfl⟩
   cases h2:inNum mi
   ·go_wp2
    go_ret
    exact⟨ret_int (by rw[checkV,h1,h2];rfl),Ext.au⟩
   ·go_wp2
    go_round
    case rel=>exact .inr (.inr (.inl ⟨rfl,h1,h2⟩))
    case measure=>decide
  ·go_wp2_with fail
   refine (outside_num _ _).mono ?_
   rintro e w' ⟨rfl,rfl⟩
   cases h3:inNum pa
   ·go_wp2
    go_ret
    exact⟨ret_int (by rw[checkV,h1,h2,h3];rfl),Ext.au⟩
   ·go_wp2
    go_round
    case rel=>exact .inr (.inr (.inr ⟨rfl,h1,h2,h3⟩))
    case measure=>decide
  ·have H1:=Hy h1
   have H2:=Hy h2
   have H3:=Hy h3
   clear h1 h2 h3
   rcases Nat.eq_zero_or_pos ea.size with h0|h0
   ·have he:=emp_of_size h0
    have hi:ea.toList.isEmpty=true:=by rw[he];rfl
    go_wp2
    go_ret
    exact⟨ret_int (by rw[checkV,H1.out,H2.out,H3.out,bs_nil h0];rfl),Ext.au⟩
   ·have he:=nemp_of_size h0
    have hi:=nemp_bool h0
    have hb:(bs ea).isEmpty=false:=by rw[ByteArray.toList_eq] at hi;exact hi
    have HB:=Hy hb
    clear hb
    go_wp2_with fail
    refine (isEarly_any _ _ (hg.ext Ext.au) hs).mono ?_
    rintro e w1 ⟨rfl,hx1⟩
    cases h4:earlyL (bs ea)
    ·go_wp2
     go_ret
     exact⟨ret_int (by rw[checkV,H1.out,H2.out,H3.out,HB.out,h4];rfl),Ext.trans Ext.au hx1⟩
    ·go_wp2
     go_ret
     exact⟨ret_int (by rw[checkV,H1.out,H2.out,H3.out,HB.out,h4];rfl),Ext.trans Ext.au hx1⟩
theorem checkV_ok {ma mi pa:Int} {e:Str} (h:checkV ma mi pa e=0):(0<=ma∧ma<=999999)∧(0<=mi∧mi<=999999)∧(0<=pa∧pa<=999999)∧(e=[]∨earlyL e=true):=by
 unfold checkV at h
 split at h
 ·cases h
 ·rename_i h1
  split at h
  ·cases h
  ·rename_i h2
   have h1':(inNum ma&&inNum mi&&inNum pa)=true:=by cases hX:(inNum ma&&inNum mi&&inNum pa) with|false=>exact absurd hX h1|true=>rfl
   simp only[Bool.and_eq_true,inNum,decide_eq_true_eq] at h1'
   refine⟨h1'.1.1,h1'.1.2,h1'.2,?_⟩
   by_cases h3:e=[]
   ·exact .inl h3
   ·refine .inr ?_
    cases h4:earlyL e
    ·exact absurd (by rw[h4];simpa using h3) h2
    ·rfl
def printV (ma mi pa:Int) (e:Str):Str:=if checkV ma mi pa e=0 then textL ma mi pa e else []
set_option maxHeartbeats 1000000 in
theorem Print_any (ma mi pa:Int) (ea:ByteArray) (w:World) (hg:GoodN w) (hs:ea.size<=2097152) :
 Calls Tryz.prog 12 #[.agg #[.int .i64 ma,.int .i64 mi,.int .i64 pa,.string ea]] w fun e w'=>e=.returned (.tuple #[S (printV ma mi pa (bs ea)),.int .i64 (checkV ma mi pa (bs ea))])∧Ext w w':=by
 go_enter Tryz.func12,Tryz.ntmps12
 go_wp2_with fail
 refine (Check_any ma mi pa ea _ (hg.toGood.ext Ext.au) hs).mono ?_
 rintro e w1 ⟨rfl,hx1⟩
 obtain⟨hc1,hf1⟩:=hx1.cells
 have hz1:=hx1.size
 by_cases h0:checkV ma mi pa (bs ea)=0
 ·obtain⟨a1,a2,a3,a4⟩:=checkV_ok h0
  have H0:=Hy h0
  rw[h0]
  clear h0
  go_wp2_with fail
  refine (text_any ma mi pa ea _ (hg.ext (Ext.trans Ext.au hx1)) hs a1.1 a1.2 a2.1 a2.2 a3.1 a3.2).mono ?_
  rintro e w2 ⟨rfl,hx2⟩
  go_wp2
  go_ret2
  exact⟨by rw[printV,if_pos H0.out,H0.out];rfl,Ext.trans (Ext.trans Ext.au hx1) hx2⟩
 ·go_wp2
  go_ret2
  exact⟨by rw[printV,if_neg h0];rfl,Ext.trans Ext.au hx1⟩
end
section
open Go.RowKit
section
variable {P:Program} {ops:Array Oper} {md:Region.Mode} {C:World->Prop}
def anyT (P:Program) (md:Region.Mode) (ops:Array Oper) (C:World->Prop) (n:Nat) (L:Array Bool->Act->Prop):Nat->Array Bool->Act->Prop
 | 0,listed,a=>L listed a
 | f+1,listed,a=>Region.ready md ops listed≠[]∧∀ i∈Region.ready md ops listed,i < n∧qOp P ops C i (anyT P md ops C n L f (listed.setIfInBounds i true)) a
theorem wpAny_of_anyT {n g:Nat} {L:Array Bool->Act->Prop} {Q:Exit->Act->World->Prop} (hL:∀ listed a w,C w->L listed a->wpAny P md ops Q g listed a w) :
 ∀ (f:Nat) (listed:Array Bool) (a:Act) (w:World),C w->anyT P md ops C n L f listed a->wpAny P md ops Q (f+g) listed a w:=by
 intro f
 induction f with
 | zero=>intro listed a w hw h;rw[Nat.zero_add];exact hL _ _ _ hw h
 | succ f ih =>
   intro listed a w hw h
   rw[show f+1+g=(f+g)+1 by omega]
   exact⟨fun h0=>absurd h0 h.1,fun i hi=>wpOp_of_qOp hw (fun a' w' hw' h'=>ih _ a' w' hw' h') (h.2 i hi).2⟩
theorem anyT_first {n i:Nat} {oi:Oper} {v:Value} {L:Array Bool->Act->Prop} (hi:ops[i]?=some oi) (hsel:∀ (j:Nat) (o:Oper) cs b,ops[j]?=some o->o.op≠.select cs b)
 (hs:Region.sinkB md ops n=true) (hc:Region.chainB md ops n=true) (hn:n < ops.size) (hin:i < n) (hdone:∀ listed a,L listed a->∀ j∈Region.ready md ops listed,n<=j) :
 ∀ (f:Nat) (listed:Array Bool) (a:Act),HeadInv md ops n listed ->
  (∀ j oj,ops[j]?=some oj->j≠i->listed.getD j true=false->(∀ e∈oj.after,Region.binds md e=true->e.on≠i)->oi.apart ops oj=true) ->
  i∈Region.ready md ops listed->YieldsIn P ops C oi v a ->
  anyT P md ops C n L f (listed.setIfInBounds i true) (a.put oi.dst v)->anyT P md ops C n L (f+1) listed a:=by
 intro f
 induction f with
 | zero =>
   intro listed a inv _ hr hy H
   refine⟨(fun h=>by rw[h] at hr;cases hr),fun j hj=>?_⟩
   have hjn:j < n:=Nat.lt_of_not_le fun h=>tail_waits hs hc hn inv _ i rfl hin (mem_ready.1 hr).1 j h hj
   refine⟨hjn,?_⟩
   rcases Nat.decEq j i with hji|hji
   ·have:=hdone _ _ H j (ready_mono hj hji);omega
   ·subst hji;exact hy.qOp hi H
 | succ f ih =>
   intro listed a inv hfree hr hy H
   have hun:=(mem_ready.1 hr).1
   refine⟨(fun h=>by rw[h] at hr;cases hr),fun j hj=>?_⟩
   have hjn:j < n:=Nat.lt_of_not_le fun h=>tail_waits hs hc hn inv _ i rfl hin hun j h hj
   refine⟨hjn,?_⟩
   rcases Nat.decEq j i with hji|hji
   ·have h1:=(H.2 j (ready_mono hj hji)).2
    obtain⟨hjun,oj,hoj,hall⟩:=mem_ready.1 hj
    have hnot:∀ e∈oj.after,Region.binds md e=true->e.on≠i:=fun e he hb heq=>by
     have h3:=hall e he hb
     rw[heq,getD_both hun] at h3
     cases h3
    have h2:=qOp_put hoj (hfree j oj hoj hji hjun hnot) (fun cs b=>hsel i oi cs b hi) (fun cs b=>hsel j oj cs b hoj) hy h1
    refine qOp_mono (fun a' h3=>ih (listed.setIfInBounds j true) a' (inv.set hj hjn) (fun k ok hk hki hku hno=>hfree k ok hk hki ?_ hno) (ready_mono hr (Ne.symm hji)) h3.1 ?_) h2
    ·rcases Nat.decEq j k with hjk|hjk
     ·rw[getD_set_ne true hjk] at hku;exact hku
     ·subst hjk;exact hjun
    ·rw[Array.setIfInBounds_comm _ _ hji];exact h3.2
   ·subst hji;exact hy.qOp hi H
theorem anyT_lex {n g:Nat} {Lq:Act->Prop} (hsel:Region.noSelect ops=true) (hs:Region.sinkB md ops n=true) (hc:Region.chainB md ops n=true) (hn:n < ops.size) :
 ∀ (l:List Oper) (k:Nat) (listed:Array Bool) (a:Act),(∀ j,j < l.length->l[j]?=ops[k+j]?)->k+l.length=n->HeadInv md ops n listed ->
  Region.lexHead md ops g l.length k listed=true->wpQuiet P ops C Lq l a ->
  anyT P md ops C n (fun listed' a'=>Region.seqB md ops g n listed'=true∧Lq a') l.length listed a:=by
 intro l
 induction l with
 | nil =>
   intro k listed a _ hk _ hB h
   obtain rfl:k=n:=by simpa using hk
   exact⟨by simpa [Region.lexHead] using hB,h⟩
 | cons o l ih =>
   intro k listed a hl hk inv hB h
   have h0:ops[k]?=some o:=by simpa using (hl 0 (by simp)).symm
   simp only[List.length_cons,Region.lexHead,Bool.and_eq_true] at hB hk
   obtain⟨⟨hr,hf⟩,hB'⟩:=hB
   have hr':k∈Region.ready md ops listed:=by simpa using hr
   have hst:qOp P ops C k (wpQuiet P ops C Lq l) a:=by unfold qOp;simp only[h0];exact h
   obtain⟨v,hy,hK⟩:=yieldsIn_of_qOp h0 hst
   exact anyT_first h0 (Region.noSelect_spec hsel) hs hc hn (by omega) (fun listed' a' hL=>seqB_ready hL.1) l.length listed a inv (Region.free_spec h0 hf) hr' hy
    (ih (k+1) _ _ (fun j hj=>by have:=hl (j+1) (by simp;omega);simpa [Nat.add_assoc,Nat.add_comm 1 j] using this) (by omega) (inv.set hr' (by omega)) hB' hK)
theorem wp_region_tail {id:Nat} {Q:Exit->Act->World->Prop} {a:Act} {w:World} {l:List Oper} (n:Nat) (hm:P.follows .mixedOrders=true) (hB:Region.lexTailB .any l.toArray n=true) (hC:C { w with drawn:=w.drawn+1 })
 (h:wpQuiet P l.toArray C (fun a'=>∀ w',C w'->wpList P l.toArray Q (l.drop n) a' w') (l.take n) a):(Code.region id l.toArray true).wp P Q a w:=by
 simp only[Region.lexTailB,Bool.and_eq_true,decide_eq_true_eq] at hB
 obtain⟨⟨⟨⟨hsel,hn⟩,hs⟩,hc⟩,hlex⟩:=hB
 have hn':n < l.length:=by simpa using hn
 have htl:(l.take n).length=n:=by simp;omega
 have inv0:HeadInv .any l.toArray n (Array.replicate l.toArray.size false) :=
  ⟨by simp,(fun j oj _ hl=>by rw[getD_replicate_false] at hl;cases hl),fun t _ ht=>getD_in (by simpa using ht) (getD_replicate_false _ _)⟩
 have H:=anyT_lex (md:=.any) (C:=C) (g:=l.toArray.size - n) hsel hs hc hn (l.take n) 0 _ a (fun j hj=>by
  rw[htl] at hj
  simp[hj]) (by simpa using htl) inv0 (by rw[htl];exact hlex) h
 refine wp_region_any hm ?_
 have H2:=wpAny_of_anyT (Q:=Q) (g:=l.toArray.size - n) (fun listed a' w' hw' hL=>by
  have H3:=wpAny_of_seq (md:=.any) (Q':=Q) (l.drop n) n listed a' w' (fun j=>by simp[List.getElem?_drop]) (by simpa using hL.1) (hL.2 w' hw')
  simpa using H3) _ _ _ _ hC H
 rw[htl,show n+(l.toArray.size - n)=l.toArray.size by omega] at H2
 exact H2
theorem wp_region_ext_tail {id:Nat} {Q:Exit->Act->World->Prop} {a:Act} {w:World} {l:List Oper} (n:Nat) (hm:P.follows .mixedOrders=true) (hB:Region.lexTailB .any l.toArray n=true)
 (h:wpQuiet P l.toArray (Ext w) (fun a'=>∀ w',Ext w w'->wpList P l.toArray Q (l.drop n) a' w') (l.take n) a):(Code.region id l.toArray true).wp P Q a w :=
 wp_region_tail (C:=Ext w) n hm hB ((Ext.refl w).drewN 1) h
end
end
section
def decVal (l:Str):Nat:=l.foldl (fun a c=>a * 10+(c.toNat - 48)) 0
theorem foldl_dec (l:Str):∀ a:Nat,l.foldl (fun a c=>a * 10+(c.toNat - 48)) a=a * 10 ^ l.length+decVal l:=by
 induction l with
 | nil=>intro a;simp[decVal]
 | cons c l ih =>
   intro a
   have h1:=ih (a * 10+(c.toNat - 48))
   have h2:=ih (0 * 10+(c.toNat - 48))
   simp only[List.foldl_cons,List.length_cons,decVal] at h1 h2 ⊢
   rw[h1,h2,Nat.pow_succ,Nat.zero_mul,Nat.zero_add,Nat.add_mul,Nat.mul_assoc,Nat.mul_comm 10,Nat.add_assoc]
theorem decVal_cons (c:UInt8) (l:Str):decVal (c::l)=(c.toNat - 48) * 10 ^ l.length+decVal l:=by
 have:=foldl_dec l (0 * 10+(c.toNat - 48))
 simp only[Nat.zero_mul,Nat.zero_add] at this
 rw[<-this]
 simp[decVal]
theorem digit_bounds {c:UInt8} (h:digitB c=true):48<=c.toNat∧c.toNat<=57:=by simpa [digitB] using h
theorem decVal_lt:∀ l:Str,l.all digitB=true->decVal l < 10 ^ l.length
 | [],_=>by simp[decVal]
 | c::l,h=>by
   simp only[List.all_cons,Bool.and_eq_true] at h
   have h1:=decVal_lt l h.2
   have h2:=digit_bounds h.1
   rw[decVal_cons,List.length_cons,Nat.pow_succ]
   have:(c.toNat - 48) * 10 ^ l.length<=9 * 10 ^ l.length:=Nat.mul_le_mul_right _ (by omega)
   omega
theorem parse_digits:∀ (l:Str) (k acc:Nat),l.all digitB=true->acc < 10 ^ k->k+l.length<=18->Lib.parseUint10 acc l=.ok (acc * 10 ^ l.length+decVal l)
 | [],_,acc,_,_,_=>by simp[Lib.parseUint10,decVal]
 | c::l,k,acc,h,hk,hl=>by
   simp only[List.all_cons,Bool.and_eq_true] at h
   have h2:=digit_bounds h.1
   simp only[List.length_cons] at hl
   have hp:(10:Nat) ^ k<=10 ^ 17:=Nat.pow_le_pow_right (by decide) (by omega)
   have hp2:(10:Nat) ^ 17=100000000000000000:=by decide
   have hs:acc * 10+(c.toNat - 48) < 10 ^ (k+1):=by rw[Nat.pow_succ];omega
   unfold Lib.parseUint10
   rw[if_pos h2,if_neg (by omega),if_neg (by omega),parse_digits l (k+1) _ h.2 hs (by omega),decVal_cons,List.length_cons,Nat.pow_succ]
   rw[Nat.add_mul,Nat.mul_assoc,Nat.mul_comm 10,Nat.add_assoc]
theorem atoi_digits (l:Str) (h:l.all digitB=true) (h0:0 < l.length) (hl:l.length<=18):Lib.atoiAll l=.ok (decVal l):=by
 cases l with
 | nil=>simp at h0
 | cons c r =>
   have hc:digitB c=true:=by simp only[List.all_cons,Bool.and_eq_true] at h;exact h.1
   have h2:=digit_bounds hc
   have h3:=parse_digits (c::r) 0 0 h (by decide) (by omega)
   have h4:=decVal_lt (c::r) h
   have h5:(10:Nat) ^ (c::r).length<=10 ^ 18:=Nat.pow_le_pow_right (by decide) hl
   have h6:(10:Nat) ^ 18=1000000000000000000:=by decide
   rw[Nat.zero_mul,Nat.zero_add] at h3
   unfold Lib.atoiAll
   simp only[Lib.parseMag]
   have e1:¬ (c.toNat=43∨c.toNat=45):=by omega
   have e2:¬ c.toNat=45:=by omega
   rw[if_neg e1,if_neg (by simp),h3]
   simp only[e2,not_false_eq_true,true_and,false_and,if_false]
   rw[if_neg (by omega)]
end
section
def cmpWordL (a b:Str):Int :=
 if (numeralL a&&numeralL b)=true then (if a.length=b.length then Lib.compareBytes a b else Lib.compareInt a.length b.length)
 else if numeralL a=true then -1 else if numeralL b=true then 1 else Lib.compareBytes a b
def cmpWordsL (f:Str->Str->Int):List Str->List Str->Int
 | x::xs,y::ys=>if f x y=0 then cmpWordsL f xs ys else f x y
 | xs,ys=>Lib.compareInt xs.length ys.length
theorem compareInt_succ (a b:Nat):Lib.compareInt ((a+1:Nat):Int) ((b+1:Nat):Int)=Lib.compareInt a b:=by
 unfold Lib.compareInt
 by_cases h1:(a:Int) < b
 ·rw[if_pos h1,if_pos (by omega)]
 ·rw[if_neg h1,if_neg (by omega)]
  by_cases h2:(a:Int) > b
  ·rw[if_pos h2,if_pos (by omega)]
  ·rw[if_neg h2,if_neg (by omega)]
theorem cmpWords_end (f:Str->Str->Int):∀ (xs ys:List Str),(∀ j (h1:j < xs.length) (h2:j < ys.length),f xs[j] ys[j]=0)->cmpWordsL f xs ys=Lib.compareInt xs.length ys.length
 | [],ys,_=>by cases ys<;>rfl
 | x::xs,[],_=>rfl
 | x::xs,y::ys,h=>by
   have h0:f x y=0:=h 0 (by simp) (by simp)
   unfold cmpWordsL
   rw[if_pos h0,cmpWords_end f xs ys (fun j h1 h2=>h (j+1) (by simpa using h1) (by simpa using h2))]
   simp only[List.length_cons]
   rw[compareInt_succ]
theorem cmpWords_at (f:Str->Str->Int):∀ (xs ys:List Str) (k:Nat) (h1:k < xs.length) (h2:k < ys.length),(∀ j (hj:j < k),f xs[j] ys[j]=0)->f xs[k] ys[k]≠0->cmpWordsL f xs ys=f xs[k] ys[k]
 | x::xs,y::ys,0,_,_,_,h=>by unfold cmpWordsL;rw[if_neg (by simpa using h)];rfl
 | x::xs,y::ys,k+1,h1,h2,h0,h=>by
   have hz:f x y=0:=h0 0 (by omega)
   unfold cmpWordsL
   rw[if_pos hz]
   exact cmpWords_at f xs ys k (by simpa using h1) (by simpa using h2) (fun j hj=>h0 (j+1) (by omega)) (by simpa using h)
def cmpEarlyL (a b:Str):Int :=
 if a=b then 0 else if a=[] then 1 else if b=[] then -1 else cmpWordsL cmpWordL (splitC 46 a) (splitC 46 b)
def orderL (a1 a2 a3:Int) (a:Str) (b1 b2 b3:Int) (b:Str):Int:=firstI [Lib.compareInt a1 b1,Lib.compareInt a2 b2,Lib.compareInt a3 b3,cmpEarlyL a b]
end
section
open Go.RowKit
set_option maxHeartbeats 400000 in
theorem compareWords_any (a b:ByteArray) (w:World) (ha:a.size<=2097152) (hb:b.size<=2097152) :
 Calls Tryz.prog 223 #[.string a,.string b] w fun e w'=>e=.returned (.int .i64 (cmpWordL (bs a) (bs b)))∧w=w':=by
 go_enter Tryz.func223,Tryz.ntmps223
 go_wp2_with fail
 refine (isNumeral_any a _ ha).mono ?_
 rintro e w' ⟨rfl,rfl⟩
 go_wp2_with fail
 refine (isNumeral_any b _ hb).mono ?_
 rintro e w' ⟨rfl,rfl⟩
 cases h1:numeralL (bs a)<;>cases h2:numeralL (bs b)
 ·go_wp2_with fail
  refine (compare_any a b _).mono ?_
  rintro e w' ⟨rfl,rfl⟩
  go_wp2
  go_ret
  exact⟨ret_int (by rw[cmpWordL,h1,h2];rfl),rfl⟩
 ·go_wp2
  go_ret
  exact⟨ret_int (by rw[cmpWordL,h1,h2];rfl),rfl⟩
 ·go_wp2
  go_ret
  exact⟨ret_int (by rw[cmpWordL,h1,h2];rfl),rfl⟩
 ·by_cases h3:a.size=b.size
  ·have h4:(((a.size:Nat):Int) != ((b.size:Nat):Int))=false:=by rw[h3];simp
   have h5:(bs a).length=(bs b).length:=by rw[bs_length,bs_length,h3]
   have H5:=Hy h5
   clear h3 h5
   go_wp2_with fail
   refine (compare_any a b _).mono ?_
   rintro e w' ⟨rfl,rfl⟩
   go_wp2
   go_ret
   exact⟨ret_int (by rw[cmpWordL,h1,h2,if_pos (by rfl),if_pos H5.out]),rfl⟩
  ·have h4:(((a.size:Nat):Int) != ((b.size:Nat):Int))=true:=by rw[bne_iff_ne];omega
   have h5:¬ (bs a).length=(bs b).length:=by rw[bs_length,bs_length];exact h3
   have H5:=Hy h5
   clear h3 h5
   go_wp2_with fail
   refine (compareInt_any _ _ _).mono ?_
   rintro e w' ⟨rfl,rfl⟩
   go_wp2
   go_ret
   exact⟨ret_int (by rw[cmpWordL,h1,h2,if_pos (by rfl),if_neg H5.out,bs_length,bs_length]),rfl⟩
theorem map_bs_get {xs:List ByteArray} {k:Nat} (h:k < (xs.map bs).length):(xs.map bs)[k]=bs (xs[k]'(by simpa using h)):=by simp
theorem cmpWords_all {xs ys:List ByteArray} {X Y:List Str} (hX:xs.map bs=X) (hY:ys.map bs=Y) (h:∀ j (h1:j < xs.length) (h2:j < ys.length),cmpWordL (bs xs[j]) (bs ys[j])=0):cmpWordsL cmpWordL X Y=Lib.compareInt xs.length ys.length:=by
 subst hX hY
 rw[cmpWords_end _ _ _ (fun j h1 h2=>by rw[map_bs_get,map_bs_get];exact h j (by simpa using h1) (by simpa using h2))]
 simp
theorem cmpWords_hit {xs ys:List ByteArray} {X Y:List Str} (hX:xs.map bs=X) (hY:ys.map bs=Y) {k:Nat} (h1:k < xs.length) (h2:k < ys.length) (h:∀ j (hj:j < k),cmpWordL (bs xs[j]) (bs ys[j])=0) (hk:cmpWordL (bs xs[k]) (bs ys[k])≠0):cmpWordsL cmpWordL X Y=cmpWordL (bs xs[k]) (bs ys[k]):=by
 subst hX hY
 rw[cmpWords_at _ _ _ k (by simpa using h1) (by simpa using h2) (fun j hj=>by rw[map_bs_get,map_bs_get];exact h j hj) (by rw[map_bs_get,map_bs_get];exact hk),map_bs_get,map_bs_get]
theorem bs_inj {a b:ByteArray} (h:bs a=bs b):a=b:=by rw[<-mk_bs a,<-mk_bs b,h]
set_option maxHeartbeats 1000000 in
theorem compareEarly_any (a b:ByteArray) (w:World) (hg:Good w) (ha:a.size<=2097152) (hb:b.size<=2097152) :
 Calls Tryz.prog 148 #[.string a,.string b] w fun e w'=>e=.returned (.int .i64 (cmpEarlyL (bs a) (bs b)))∧Ext w w':=by
 go_enter Tryz.func148,Tryz.ntmps148
 by_cases hab:a=b
 ·subst hab
  have h1:(a.toList==a.toList)=true:=by simp
  go_wp2
  go_ret
  exact⟨ret_int (by rw[cmpEarlyL,if_pos rfl]),Ext.refl _⟩
 have hne:(a.toList==b.toList)=false:=by
  rw[beq_eq_false_iff_ne,ByteArray.toList_eq,ByteArray.toList_eq]
  exact fun e=>hab (bs_inj e)
 have hne2:¬ bs a=bs b:=fun e=>hab (bs_inj e)
 have HNE:=Hy hne2
 clear hab hne2
 rcases Nat.eq_zero_or_pos a.size with ha0|ha0
 ·have hi:=emp_bool ha0
  go_wp2
  go_ret
  exact⟨ret_int (by rw[cmpEarlyL,if_neg HNE.out,if_pos (bs_nil ha0)]),Ext.refl _⟩
 have hia:=nemp_bool ha0
 have hna:¬ bs a=[]:=fun e=>by have:=bs_length a;rw[e] at this;simp at this;omega
 have HNA:=Hy hna
 clear hna
 rcases Nat.eq_zero_or_pos b.size with hb0|hb0
 ·have hi:=emp_bool hb0
  go_wp2
  go_ret
  exact⟨ret_int (by rw[cmpEarlyL,if_neg HNE.out,if_neg HNA.out,if_pos (bs_nil hb0)]),Ext.refl _⟩
 have hib:=nemp_bool hb0
 have hnb:¬ bs b=[]:=fun e=>by have:=bs_length b;rw[e] at this;simp at this;omega
 have HNB:=Hy hnb
 clear hnb
 go_wp2_with fail
 refine (split_any 46 a _ hg ha).mono ?_
 rintro e w1 ⟨b1,xs,rfl,hb1,hst1,hxs,hx1⟩
 go_wp2_with fail
 refine (split_any 46 b _ (hg.ext hx1) hb).mono ?_
 rintro e w2 ⟨b2,ys,rfl,hb2,hst2,hys,hx2⟩
 have hl1:=pieces_le hxs
 have hl2:=pieces_le hys
 have HXS:=Hy hxs
 have HYS:=Hy hys
 clear hxs hys
 have hc1:=(hst1.ext hx2).cell
 have hc2:=hst2.cell
 have HC1:=Hy hc1
 have HC2:=Hy hc2
 have hx:=hx1.trans hx2
 clear hc1 hc2 hst1 hst2 hx1 hx2 hb2
 go_wp2
 go_loopw [28] (fun i wr=>∃ k:Nat,i=.int .i64 k∧k<=xs.length∧k<=ys.length∧(∀ j (h1:j < xs.length) (h2:j < ys.length),j < k->cmpWordL (bs xs[j]) (bs ys[j])=0)∧Ext w2 wr) (fun i _=>xs.length - (intOf i).toNat)
 case atStart=>exact⟨0,rfl,Nat.zero_le _,Nat.zero_le _,fun j _ _ h=>absurd h (by omega),Ext.refl _⟩
 case round =>
  obtain⟨k,rfl,hk1,hk2,hall,hxr⟩:=hrel
  have HALL:=Hy hall
  clear hall
  by_cases hlt:k < xs.length∧k < ys.length
  ·obtain⟨hlt1,hlt2⟩:=hlt
   have hm:(k:Int) < min (xs.length:Int) (ys.length:Int):=by omega
   have d1:=hxr.cell (HC1.out k hlt1)
   have d2:=hxr.cell (HC2.out k hlt2)
   have q1:=lt_of_cell d1
   have q2:=lt_of_cell d2
   have s1:=piece_le HXS.out hlt1
   have s2:=piece_le HYS.out hlt2
   go_wp2_with fail
   refine wp_region_ext (by kernel_rfl) (by kernel_rfl) ?_
   repeat (first|go_big_quiet_skip|(refine wpQuiet_step (fun K hK=>?_);go_simp;first|(refine hK _ ?_;clear hK K)|(apply Exists.intro;refine⟨fun wq hwq=>?_,hK _ ?_⟩;(obtain⟨hqc,hqf⟩:=hwq.cells;have hqs:=hwq.size;(try go_simp);first|rfl|((first|rw[if_neg (by omega)]|rw[if_pos (by omega)]);(try go_simp);rfl)|((go_at_call 223;refine (compareWords_any xs[k] ys[k] _ (by omega) (by omega)).mono (fun e w'' h=>⟨h.1,h.2 ▸ hwq⟩))));clear hK K)))
   refine wpQuiet_nil ?_
   intro wN hxN
   obtain⟨hcN,hfN⟩:=hxN.cells
   have hsN:=hxN.size
   by_cases hz:cmpWordL (bs xs[k]) (bs ys[k])=0
   ·have hz2:(cmpWordL (bs xs[k]) (bs ys[k]) != 0)=false:=by rw[hz];rfl
    have HZ:=Hy hz
    clear hz
    go_wp2
    go_roundw
    case rel =>
     refine⟨k+1,by go_num,by omega,by omega,fun j h1 h2 h3=>?_,hxr.trans hxN⟩
     by_cases hj:j=k
     ·subst hj;exact HZ.out
     ·exact HALL.out j h1 h2 (by omega)
    case measure=>simp[intOf];omega
   ·have hz2:(cmpWordL (bs xs[k]) (bs ys[k]) != 0)=true:=by rw[bne_iff_ne];exact hz
    have HZ:=Hy hz
    clear hz
    go_wp2
    go_ret
    refine⟨ret_int ?_,(hx.trans hxr).trans hxN⟩
    rw[cmpEarlyL,if_neg HNE.out,if_neg HNA.out,if_neg HNB.out,cmpWords_hit HXS.out HYS.out hlt1 hlt2 (fun j hj=>HALL.out j (by omega) (by omega) hj) HZ.out]
  ·have hm:¬ (k:Int) < min (xs.length:Int) (ys.length:Int):=by omega
   have hfin:cmpEarlyL (bs a) (bs b)=Lib.compareInt xs.length ys.length:=by
    rw[cmpEarlyL,if_neg HNE.out,if_neg HNA.out,if_neg HNB.out,cmpWords_all HXS.out HYS.out (fun j h1 h2=>HALL.out j h1 h2 (by omega))]
   have HFIN:=Hy hfin
   clear hfin
   go_wp2_with fail
   refine (compareInt_any _ _ _).mono ?_
   rintro e w' ⟨rfl,rfl⟩
   go_wp2
   go_ret
   exact⟨ret_int HFIN.out.symm,hx.trans hxr⟩
end
section
open Go.RowKit
set_option maxHeartbeats 400000 in
theorem Or_any (b c:Nat) (es:List Int) (w:World) (hc:∀ k (h:k < es.length),w.cell? ⟨b,k,none⟩=some (.int .i64 es[k])) (hl:es.length<=1000) :
 Calls Tryz.prog 83 #[.slice (some ⟨b,0,none⟩) es.length c] w fun e w'=>e=.returned (.int .i64 (firstI es))∧w=w':=by
 go_enter Tryz.func83,Tryz.ntmps83
 go_wp2
 go_loop [8] (fun i=>∃ k:Nat,k<=es.length∧i=.int .i64 k∧∀ x∈es.take k,x=0) (fun i=>es.length - (intOf i).toNat)
 case atStart=>exact⟨0,Nat.zero_le _,rfl,by simp⟩
 case round =>
  obtain⟨k,hk,rfl,hall⟩:=hrel
  have HALL:=Hy hall
  clear hall
  by_cases hlt:k < es.length
  ·have hk1:=hc k hlt
   have HC:=Hy hc
   clear hc
   by_cases h0:es[k]=0
   ·have H0:=Hy h0
    rw[h0] at hk1
    clear h0
    go_wp2
    go_round
    case rel=>exact⟨k+1,by omega,by go_num,take_zero_succ hlt HALL.out H0.out⟩
    case measure=>simp[intOf];omega
   ·have h1:(es[k] != 0)=true:=by rw[bne_iff_ne];exact h0
    go_wp2
    go_ret
    exact⟨ret_int (firstI_at hlt HALL.out h0).symm,rfl⟩
  ·obtain rfl:k=es.length:=by omega
   have HC:=Hy hc
   clear hc
   go_wp2
   go_ret
   exact⟨ret_int (firstI_zero (by simpa using HALL.out)).symm,rfl⟩
set_option maxHeartbeats 2000000 in
theorem Order_any (a1 a2 a3 b1 b2 b3:Int) (a b:ByteArray) (w:World) (hg:Good w) (ha:a.size<=2097152) (hb:b.size<=2097152) :
 Calls Tryz.prog 73 #[.agg #[.int .i64 a1,.int .i64 a2,.int .i64 a3,.string a],.agg #[.int .i64 b1,.int .i64 b2,.int .i64 b3,.string b]] w
  fun e w'=>e=.returned (.int .i64 (orderL a1 a2 a3 (bs a) b1 b2 b3 (bs b)))∧Ext w w':=by
 go_enter Tryz.func73,Tryz.ntmps73
 go_wp2_with fail
 refine wp_region_ext_tail 20 (by kernel_rfl) (by kernel_rfl) ?_
 simp only[List.take_succ_cons,List.take_zero,List.drop_succ_cons,List.drop_zero]
 repeat (first|go_big_quiet_skip|(refine wpQuiet_step (fun K hK=>?_);go_simp;first|(refine hK _ ?_;clear hK K)|(apply Exists.intro;refine⟨fun wq hwq=>?_,hK _ ?_⟩;(obtain⟨hqc,hqf⟩:=hwq.cells;have hqs:=hwq.size;(try go_simp);first|rfl|((first|rw[if_neg (by omega)]|rw[if_pos (by omega)]);(try go_simp);rfl)|((first|(go_at_call 84;exact (compareInt_any _ _ _).mono (fun e w'' h=>⟨h.1,h.2 ▸ hwq⟩))|(go_at_call 148;exact (compareEarly_any a b _ (hg.ext (Ext.trans Ext.au hwq)) ha hb).mono (fun e w'' h=>⟨h.1,hwq.trans h.2⟩)))));clear hK K)))
 refine wpQuiet_nil ?_
 intro wN hxN
 obtain⟨hcN,hfN⟩:=hxN.cells
 have hsN:=hxN.size
 go_wp2_with fail
 refine (Or_any _ _ [Lib.compareInt a1 b1,Lib.compareInt a2 b2,Lib.compareInt a3 b3,cmpEarlyL (bs a) (bs b)] _ ?_ (by simp)).mono ?_
 ·intro k hk
  rw[World.cell?_alloc_at _ _ _ _ rfl]
  match k,hk with
  | 0,_=>rfl
  | 1,_=>rfl
  | 2,_=>rfl
  | 3,_=>rfl
 rintro e w' ⟨rfl,rfl⟩
 go_wp2
 go_ret
 exact⟨rfl,(Ext.trans Ext.au hxN).alloc _⟩
structure Ver4 (w:World) (g:Nat) (a1 a2 a3:Int) (a:ByteArray):Prop where
 c0:w.cell? ⟨g,0,none⟩=some (.int .i64 a1)
 c1:w.cell? ⟨g,1,none⟩=some (.int .i64 a2)
 c2:w.cell? ⟨g,2,none⟩=some (.int .i64 a3)
 c3:w.cell? ⟨g,3,none⟩=some (.string a)
theorem Ver4.ext {w w':World} {g:Nat} {a1 a2 a3:Int} {a:ByteArray} (h:Ver4 w g a1 a2 a3 a) (hx:Ext w w'):Ver4 w' g a1 a2 a3 a:=⟨hx.cell h.c0,hx.cell h.c1,hx.cell h.c2,hx.cell h.c3⟩
theorem Ver4.lt {w:World} {g:Nat} {a1 a2 a3:Int} {a:ByteArray} (h:Ver4 w g a1 a2 a3 a):g < w.heap.size:=lt_of_cell h.c0
end
section
open Go.RowKit
def numOk (l:Str):Bool:=eachL digitB l 9&&!((l.headD 0==48)&&(l != [48]))
def numV (l:Str):Int:=if numOk l=true then decVal l else 0
theorem eachL_digits {l:Str} {n:Nat} (h:eachL digitB l n=true):l.all digitB=true∧0 < l.length∧l.length<=n:=by
 unfold eachL at h
 simp only[Bool.and_eq_true,decide_eq_true_eq] at h
 exact⟨h.1.1,h.1.2,h.2⟩
theorem no_bad {x:ByteArray} {h0:0 < x.size} (hh:(bs x).headD 0=x[0]) (h1:(x[0].toNat:Int)=48) (h2:(!x.toList==[48])=true):numOk (bs x)=false:=by
 have h3:x[0]=48:=UInt8.toNat_inj.1 (by show x[0].toNat=48;omega)
 rw[ByteArray.toList_eq] at h2
 have h4:(bs x != [48])=true:=h2
 rw[numOk,hh,h3,h4]
 simp
theorem no_good1 {x:ByteArray} (hp:eachL digitB (bs x) 9=true) (h2:(!x.toList==[48])=false):numOk (bs x)=true:=by
 rw[ByteArray.toList_eq] at h2
 have h4:(bs x != [48])=false:=h2
 rw[numOk,hp,h4]
 simp
theorem no_good2 {x:ByteArray} {h0:0 < x.size} (hp:eachL digitB (bs x) 9=true) (hh:(bs x).headD 0=x[0]) (h1:¬ (x[0].toNat:Int)=48):numOk (bs x)=true:=by
 have h3:(x[0]==48)=false:=by
  rw[beq_eq_false_iff_ne]
  intro e
  rw[e] at h1
  exact h1 rfl
 rw[numOk,hp,hh,h3]
 simp
set_option maxHeartbeats 1000000 in
theorem number_any (s:ByteArray) (w:World) (hg:GoodN w) (hs:s.size<=2097152) :
 Calls Tryz.prog 87 #[.string s] w fun e w'=>e=.returned (.tuple #[.int .i64 (numV (bs s)),.bool (numOk (bs s))])∧Ext w w':=by
 go_enter Tryz.func87,Tryz.ntmps87
 go_wp2_with fail
 refine (each_list _ _ s 9 _ hs isDigit_pred).mono ?_
 rintro e w' ⟨rfl,rfl⟩
 cases hp:eachL digitB (bs s) 9
 ·go_wp2
  go_ret2
  refine⟨?_,Ext.refl _⟩
  have h1:numOk (bs s)=false:=by rw[numOk,hp];rfl
  rw[numV,h1]
  rfl
 ·have h0:=eachL_pos hp
  have hh:=head_bs s h0
  have HH:=Hy hh
  clear hh
  have hok:numOk (bs s)=true->numV (bs s)=(decVal (bs s):Nat)∧Lib.atoiAll (bs s)=.ok ((decVal (bs s):Nat):Int):=fun h=>by
   obtain⟨d1,d2,d3⟩:=eachL_digits hp
   exact⟨by rw[numV,if_pos h],atoi_digits _ d1 d2 (by omega)⟩
  have HOK:=Hy hok
  clear hok
  go_wp2_with fail
  ·go_ret2
   refine⟨?_,Ext.refl _⟩
   have h1:numOk (bs s)=false:=no_bad HH.out (by assumption) (by assumption)
   rw[numV,h1]
   rfl
  ·have hN:numOk (bs s)=true:=no_good1 hp (by assumption)
   have HN:=Hy hN
   clear hN
   refine (atoi_any s _ hg hs).mono ?_
   rintro e w1 ⟨v,ev,rfl,hx1,hv,hev⟩
   obtain⟨rfl,rfl⟩:=hv _ (HOK.out HN.out).2
   have hV:=(HOK.out HN.out).1
   have HV:=Hy hV
   clear hV hv hev
   go_wp2_with fail
   refine wp_region_ext (by kernel_rfl) (by kernel_rfl) ?_
   repeat (first|go_big_quiet_skip|(refine wpQuiet_step (fun K hK=>?_);go_simp;first|(refine hK _ ?_;clear hK K)|(apply Exists.intro;refine⟨fun wq hwq=>?_,hK _ ?_⟩;(obtain⟨hqc,hqf⟩:=hwq.cells;have hqs:=hwq.size;(try go_simp);first|rfl|((first|rw[if_neg (by omega)]|rw[if_pos (by omega)]);(try go_simp);rfl)|((fail)));clear hK K)))
   refine wpQuiet_nil ?_
   intro wN hxN
   obtain⟨hcN,hfN⟩:=hxN.cells
   have hsN:=hxN.size
   go_wp2
   go_ret2
   refine⟨?_,hx1.trans hxN⟩
   rw[HV.out,HN.out]
   rfl
  ·have hN:numOk (bs s)=true:=no_good2 hp HH.out (by assumption)
   have HN:=Hy hN
   clear hN
   refine (atoi_any s _ hg hs).mono ?_
   rintro e w1 ⟨v,ev,rfl,hx1,hv,hev⟩
   obtain⟨rfl,rfl⟩:=hv _ (HOK.out HN.out).2
   have hV:=(HOK.out HN.out).1
   have HV:=Hy hV
   clear hV hv hev
   go_wp2_with fail
   refine wp_region_ext (by kernel_rfl) (by kernel_rfl) ?_
   repeat (first|go_big_quiet_skip|(refine wpQuiet_step (fun K hK=>?_);go_simp;first|(refine hK _ ?_;clear hK K)|(apply Exists.intro;refine⟨fun wq hwq=>?_,hK _ ?_⟩;(obtain⟨hqc,hqf⟩:=hwq.cells;have hqs:=hwq.size;(try go_simp);first|rfl|((first|rw[if_neg (by omega)]|rw[if_pos (by omega)]);(try go_simp);rfl)|((fail)));clear hK K)))
   refine wpQuiet_nil ?_
   intro wN hxN
   obtain⟨hcN,hfN⟩:=hxN.cells
   have hsN:=hxN.size
   go_wp2
   go_ret2
   refine⟨?_,hx1.trans hxN⟩
   rw[HV.out,HN.out]
   rfl
end
section
open Go.RowKit
theorem u8_all (p:UInt8->Bool) (h:(List.range 256).all (fun n=>p (UInt8.ofNat n))=true) (c:UInt8):p c=true:=by
 have h1:=List.all_eq_true.1 h c.toNat (List.mem_range.2 c.toNat_lt)
 simpa using h1
def ofL (l cs:Str):Bool:=l.all (cs.contains ·)
theorem indexByte_out {c:UInt8} {l:Str} (h:l.contains c=false):Lib.indexByte l c < 0:=by
 rw[indexByte_none c l (by simpa using h)];decide
theorem indexByte_in {c:UInt8} {l:Str} (h:l.contains c=true):¬ Lib.indexByte l c < 0:=by
 rcases first_cut c l with h1|⟨a,r,ha,rfl⟩
 ·exact absurd h (by simpa using h1)
 ·rw[indexByte_app c r a ha];omega
theorem trim_empty (l cs:Str) (h:ofL l cs=true):Lib.trimS l cs=[]:=by
 unfold Lib.trimS Lib.trimRightS Lib.trimLeftS
 have h1:∀ x∈l.reverse,cs.contains x=true:=fun x hx=>by
  have:=List.all_eq_true.1 h x (by simpa using hx)
  exact this
 rw[(while_all (fun x=>cs.contains x) l.reverse h1).2]
 rfl
set_option maxHeartbeats 400000 in
theorem inner_any (s cs:ByteArray) (w:World) (hs:s.size<=2097152) :
 Calls Tryz.prog 147 #[.string s,.string cs] w fun e w'=>e=.returned (.bool (ofL (bs s) (bs cs)))∧w=w':=by
 go_enter Tryz.func147,Tryz.ntmps147
 go_wp2
 go_loop [8] (fun i=>∃ k:Nat,k<=s.size∧i=.int .i64 k∧(s.data.toList.take k).all (fun c=>(bs cs).contains c)=true) (fun i=>s.size - (intOf i).toNat)
 case atStart=>exact⟨0,Nat.zero_le _,rfl,by simp⟩
 case round =>
  obtain⟨k,hk,rfl,hall⟩:=hrel
  have HALL:=Hy hall
  clear hall
  by_cases hlt:k < s.size
  ·have hfa:=all_false_of (fun c=>(bs cs).contains c) s k hlt
   have hsu:=all_take_succ (fun c=>(bs cs).contains c) s k hlt
   have HFA:=Hy hfa
   have HSU:=Hy hsu
   clear hfa hsu
   go_wp2_with fail
   refine (indexByte_any cs s[k] _).mono ?_
   rintro e w' ⟨rfl,rfl⟩
   cases hp:(bs cs).contains s[k]
   ·have hn:=indexByte_out hp
    have HP:=Hy hp
    clear hp
    go_wp2
    go_ret
    refine⟨ret_bool ?_,rfl⟩
    unfold ofL
    exact (HFA.out HP.out).symm
   ·have hn:=indexByte_in hp
    have HP:=Hy hp
    clear hp
    go_wp2
    go_round
    case rel=>exact⟨k+1,by omega,by go_num,by rw[HSU.out,HALL.out,HP.out];rfl⟩
    case measure=>simp[intOf];omega
  ·obtain rfl:k=s.size:=by omega
   go_wp2
   go_ret
   refine⟨ret_bool ?_,rfl⟩
   rw[take_size] at HALL
   exact HALL.out.symm
def asciiB (l:Str):Bool:=l.all fun c=>decide (c.toNat < 128)
theorem ascii_at {l:Str} (h:asciiB l=true):∀ (j:Nat) b,l[j]?=some b->b.toNat < 128:=fun j b hb=>by
 have:=List.all_eq_true.1 h b (List.mem_of_getElem? hb)
 simpa using this
set_option maxHeartbeats 400000 in
theorem Of_any (s cs:ByteArray) (w:World) (hs:s.size<=2097152) (hcs:cs.size<=1000) (ha:asciiB (bs cs)=true) :
 Calls Tryz.prog 71 #[.string s,.string cs] w fun e w'=>e=.returned (.bool (ofL (bs s) (bs cs)))∧Ext w w':=by
 have hasc:=ascii_at ha
 have HASC:=Hy hasc
 clear hasc
 go_enter Tryz.func71,Tryz.ntmps71
 go_wp2_with fail
 refine (trim_any s cs _ hs hcs HASC.out).mono ?_
 rintro e w1 ⟨rfl,hx1⟩
 by_cases ht:Lib.trimS (bs s) (bs cs)=[]
 ·have HT:=Hy ht
  rw[ht]
  clear ht
  go_wp2_with fail
  refine (inner_any s cs _ hs).mono ?_
  rintro e w' ⟨rfl,rfl⟩
  go_wp2
  go_ret
  exact⟨rfl,hx1⟩
 ·have hf:ofL (bs s) (bs cs)=false:=by
   cases h:ofL (bs s) (bs cs)
   ·rfl
   ·exact absurd (trim_empty _ _ h) ht
  have HF:=Hy hf
  clear hf
  go_wp2
  go_ret
  exact⟨ret_bool HF.out.symm,hx1⟩
def smallS:Str:=[97,98,99,100,101,102,103,104,105,106,107,108,109,110,111,112,113,114,115,116,117,118,119,120,121,122]
def greatS:Str:=[65,66,67,68,69,70,71,72,73,74,75,76,77,78,79,80,81,82,83,84,85,86,87,88,89,90]
def digitS:Str:=[48,49,50,51,52,53,54,55,56,57]
theorem small_set (c:UInt8):smallS.contains c=smallB c:=eq_of_beq (u8_all (fun c=>smallS.contains c==smallB c) (by decide +kernel) c)
theorem digit_set (c:UInt8):digitS.contains c=digitB c:=eq_of_beq (u8_all (fun c=>digitS.contains c==digitB c) (by decide +kernel) c)
theorem word_set (c:UInt8):(smallS++digitS).contains c=wordB c:=eq_of_beq (u8_all (fun c=>(smallS++digitS).contains c==wordB c) (by decide +kernel) c)
theorem name_set (c:UInt8):(smallS++digitS++[45,46]).contains c=nameB c:=eq_of_beq (u8_all (fun c=>(smallS++digitS++[45,46]).contains c==nameB c) (by decide +kernel) c)
theorem part_set (c:UInt8):(smallS++greatS++digitS++[45,46,95]).contains c=partB c:=eq_of_beq (u8_all (fun c=>(smallS++greatS++digitS++[45,46,95]).contains c==partB c) (by decide +kernel) c)
theorem of_set {p:UInt8->Bool} {cs:Str} (h:∀ c,cs.contains c=p c) (l:Str):ofL l cs=l.all p:=by
 unfold ofL
 congr 1
 funext c
 exact h c
theorem of_name (s:ByteArray) (w:World) (hs:s.size<=2097152) :
 Calls Tryz.prog 71 #[.string s,.string ⟨#[97,98,99,100,101,102,103,104,105,106,107,108,109,110,111,112,113,114,115,116,117,118,119,120,121,122,48,49,50,51,52,53,54,55,56,57,45,46]⟩] w fun e w'=>e=.returned (.bool ((bs s).all nameB))∧Ext w w' :=
 (Of_any s ⟨#[97,98,99,100,101,102,103,104,105,106,107,108,109,110,111,112,113,114,115,116,117,118,119,120,121,122,48,49,50,51,52,53,54,55,56,57,45,46]⟩ w hs (by decide) (by decide)).mono fun _ _ ⟨h,k⟩=>⟨by rw[h];exact ret_bool (of_set name_set (bs s)),k⟩
theorem of_small (s:ByteArray) (w:World) (hs:s.size<=2097152) :
 Calls Tryz.prog 71 #[.string s,.string ⟨#[97,98,99,100,101,102,103,104,105,106,107,108,109,110,111,112,113,114,115,116,117,118,119,120,121,122]⟩] w fun e w'=>e=.returned (.bool ((bs s).all smallB))∧Ext w w' :=
 (Of_any s ⟨#[97,98,99,100,101,102,103,104,105,106,107,108,109,110,111,112,113,114,115,116,117,118,119,120,121,122]⟩ w hs (by decide) (by decide)).mono fun _ _ ⟨h,k⟩=>⟨by rw[h];exact ret_bool (of_set small_set (bs s)),k⟩
theorem of_digit (s:ByteArray) (w:World) (hs:s.size<=2097152) :
 Calls Tryz.prog 71 #[.string s,.string ⟨#[48,49,50,51,52,53,54,55,56,57]⟩] w fun e w'=>e=.returned (.bool ((bs s).all digitB))∧Ext w w' :=
 (Of_any s ⟨#[48,49,50,51,52,53,54,55,56,57]⟩ w hs (by decide) (by decide)).mono fun _ _ ⟨h,k⟩=>⟨by rw[h];exact ret_bool (of_set digit_set (bs s)),k⟩
theorem of_word (s:ByteArray) (w:World) (hs:s.size<=2097152) :
 Calls Tryz.prog 71 #[.string s,.string ⟨#[97,98,99,100,101,102,103,104,105,106,107,108,109,110,111,112,113,114,115,116,117,118,119,120,121,122,48,49,50,51,52,53,54,55,56,57]⟩] w fun e w'=>e=.returned (.bool ((bs s).all wordB))∧Ext w w' :=
 (Of_any s ⟨#[97,98,99,100,101,102,103,104,105,106,107,108,109,110,111,112,113,114,115,116,117,118,119,120,121,122,48,49,50,51,52,53,54,55,56,57]⟩ w hs (by decide) (by decide)).mono fun _ _ ⟨h,k⟩=>⟨by rw[h];exact ret_bool (of_set word_set (bs s)),k⟩
theorem of_part (s:ByteArray) (w:World) (hs:s.size<=2097152) :
 Calls Tryz.prog 71 #[.string s,.string ⟨#[97,98,99,100,101,102,103,104,105,106,107,108,109,110,111,112,113,114,115,116,117,118,119,120,121,122,65,66,67,68,69,70,71,72,73,74,75,76,77,78,79,80,81,82,83,84,85,86,87,88,89,90,48,49,50,51,52,53,54,55,56,57,45,46,95]⟩] w fun e w'=>e=.returned (.bool ((bs s).all partB))∧Ext w w' :=
 (Of_any s ⟨#[97,98,99,100,101,102,103,104,105,106,107,108,109,110,111,112,113,114,115,116,117,118,119,120,121,122,65,66,67,68,69,70,71,72,73,74,75,76,77,78,79,80,81,82,83,84,85,86,87,88,89,90,48,49,50,51,52,53,54,55,56,57,45,46,95]⟩ w hs (by decide) (by decide)).mono fun _ _ ⟨h,k⟩=>⟨by rw[h];exact ret_bool (of_set part_set (bs s)),k⟩
theorem head_take (s:ByteArray) (h:0 < s.size):bs (s.extract 0 1)=[s[0]]:=by
 have h1:s.data.toList[0]?=some s[0]:=Lib.data_getElem? s 0 h
 unfold bs
 rw[Lib.extract_data]
 cases hl:s.data.toList with
 | nil=>rw[hl] at h1;cases h1
 | cons x r=>rw[hl] at h1;simp at h1;simp[h1]
set_option maxHeartbeats 1000000 in
theorem NameOf_any (s:ByteArray) (w:World) (hs:s.size<=2097152) :
 Calls Tryz.prog 19 #[.string s] w fun e w'=>e=.returned (.bool (nameL (bs s)))∧Ext w w':=by
 go_enter Tryz.func19,Tryz.ntmps19
 rcases Nat.eq_zero_or_pos s.size with h0|h0
 ·have hi:=emp_bool h0
  go_wp2
  go_ret
  exact⟨ret_bool (by rw[bs_nil h0];rfl),Ext.refl _⟩
 ·have hi:=nemp_bool h0
  by_cases h40:s.size<=40
  ·have he:eachL nameB (bs s) 40=(bs s).all nameB:=by
    unfold eachL
    rw[bs_length,decide_eq_true h0,decide_eq_true h40,Bool.and_true,Bool.and_true]
   have hh:=head_bs s h0
   have ht:=head_take s h0
   have HE:=Hy he
   have HH:=Hy hh
   have HT:=Hy ht
   clear he hh ht
   go_wp2_with fail
   refine (of_name s _ hs).mono ?_
   rintro e w1 ⟨rfl,hx1⟩
   cases hn:(bs s).all nameB
   ·have HN:=Hy hn
    clear hn
    go_wp2
    go_ret
    exact⟨ret_bool (by rw[nameL,HE.out,HN.out];rfl),hx1⟩
   ·have HN:=Hy hn
    clear hn
    have hsz:(s.extract 0 1).size<=2097152:=by rw[<-bs_length,HT.out];simp
    go_wp2_with fail
    refine (of_small _ _ hsz).mono ?_
    rintro e w2 ⟨rfl,hx2⟩
    rw[HT.out]
    go_wp2
    go_ret
    exact⟨ret_bool (by rw[nameL,HE.out,HN.out,HH.out];simp),hx1.trans hx2⟩
  ·have hn:nameL (bs s)=false:=by
    have:eachL nameB (bs s) 40=false:=by
     unfold eachL
     rw[bs_length,decide_eq_false h40];simp
    rw[nameL,this];rfl
   have HN:=Hy hn
   clear hn
   go_wp2
   go_ret
   exact⟨ret_bool HN.out.symm,Ext.refl _⟩
theorem partL_eq (l:Str):partL l=((l != [])&&(l != [46])&&(l != [46,46])&&decide (l.length<=40)&&l.all partB):=by
 unfold partL eachL
 cases l with
 | nil=>simp
 | cons x r =>
   have:decide (0 < (x::r).length)=true:=by simp
   rw[this]
   have h2:((x::r) != ([]:Str))=true:=rfl
   rw[h2]
   generalize (x::r).all partB=a
   generalize decide ((x::r).length<=40)=b
   generalize ((x::r) != [46])=c
   generalize ((x::r) != [46,46])=d
   cases a<;>cases b<;>cases c<;>cases d<;>rfl
theorem tl_beq (s:ByteArray) (l:Str):(s.toList==l)=(bs s==l):=by rw[ByteArray.toList_eq]
set_option maxHeartbeats 2000000 in
theorem PathOf_any (s:ByteArray) (w:World) (hg:Good w) (hs:s.size<=2097152) :
 Calls Tryz.prog 21 #[.string s] w fun e w'=>e=.returned (.bool (pathL (bs s)))∧Ext w w':=by
 go_enter Tryz.func21,Tryz.ntmps21
 by_cases h200:200 < s.size
 ·have hn:pathL (bs s)=false:=by
   unfold pathL
   rw[bs_length,decide_eq_false (by omega)];simp
  have HN:=Hy hn
  clear hn
  go_wp2
  go_ret
  exact⟨ret_bool HN.out.symm,Ext.refl _⟩
 go_wp2_with fail
 refine (split_any 47 s _ hg hs).mono ?_
 rintro e w1 ⟨b,xs,rfl,hb0,hst,hxs,hx⟩
 have HXS:=Hy hxs
 have hcell:=hst.cell
 have HC:=Hy hcell
 clear hcell
 have hlen:=pieces_le hxs
 clear hxs
 go_wp2
 go_loopw [11] (fun i wr=>∃ k:Nat,k<=xs.length∧i=.int .i64 k∧(xs.take k).all (fun x=>partL (bs x))=true∧Ext w1 wr) (fun i _=>xs.length - (intOf i).toNat)
 case atStart=>exact⟨0,Nat.zero_le _,rfl,by simp,Ext.refl _⟩
 case round =>
  obtain⟨k,hk,rfl,hall,hxr⟩:=hrel
  have HALL:=Hy hall
  clear hall
  by_cases hlt:k < xs.length
  ·have hk1:=hxr.cell (HC.out k hlt)
   have hsz:=piece_le HXS.out hlt
   have hne:=allS_false partL xs k hlt
   have HNE:=Hy hne
   clear hne
   have hsu:=allS_succ partL xs k hlt HALL.out
   have HSU:=Hy hsu
   clear hsu
   generalize xs[k]=x at *
   have hpl:=partL_eq (bs x)
   have HPL:=Hy hpl
   clear hpl
   have hbad:partL (bs x)=false->pathL (bs s)=false:=fun h=>by
    unfold pathL
    rw[<-HXS.out,HNE.out h];rfl
   have HBAD:=Hy hbad
   clear hbad
   cases e1:(bs x==([]:Str))
   rotate_left
   ·have hz:x.size=0:=by rw[<-bs_length,eq_of_beq e1];rfl
    have hi:=emp_bool hz
    have HP:=Hy (HBAD.out (by rw[HPL.out,bne,e1];rfl))
    clear e1
    go_wp2
    go_ret
    exact⟨ret_bool HP.out.symm,hx.trans hxr⟩
   have hz:0 < x.size:=by
    rcases Nat.eq_zero_or_pos x.size with h|h
    ·rw[bs_nil h] at e1;cases e1
    ·exact h
   have hi:=nemp_bool hz
   cases e2:(bs x==[46])
   rotate_left
   ·have t2:(x.toList==[46])=true:=by rw[tl_beq];exact e2
    have HP:=Hy (HBAD.out (by rw[HPL.out,bne,bne,e2];simp))
    clear e1 e2
    go_wp2
    go_ret
    exact⟨ret_bool HP.out.symm,hx.trans hxr⟩
   have t2:(x.toList==[46])=false:=by rw[tl_beq];exact e2
   cases e3:(bs x==[46,46])
   rotate_left
   ·have t3:(x.toList==[46,46])=true:=by rw[tl_beq];exact e3
    have HP:=Hy (HBAD.out (by rw[HPL.out,bne,bne,bne,e3];simp))
    clear e1 e2 e3
    go_wp2
    go_ret
    exact⟨ret_bool HP.out.symm,hx.trans hxr⟩
   have t3:(x.toList==[46,46])=false:=by rw[tl_beq];exact e3
   by_cases h40:40 < x.size
   ·have HP:=Hy (HBAD.out (by rw[HPL.out,bs_length,decide_eq_false (by omega:¬ x.size<=40)];simp))
    clear e1 e2 e3
    go_wp2
    go_ret
    exact⟨ret_bool HP.out.symm,hx.trans hxr⟩
   have hgood:partL (bs x)=(bs x).all partB:=by
    rw[HPL.out,bne,bne,bne,e1,e2,e3,bs_length,decide_eq_true (by omega:x.size<=40)];simp
   have HG:=Hy hgood
   clear hgood e1 e2 e3
   go_wp2_with fail
   refine (of_part x _ (by omega)).mono ?_
   rintro e w2 ⟨rfl,hx2⟩
   cases hn:(bs x).all partB
   ·have HP:=Hy (HBAD.out (HG.out.trans hn))
    clear hn
    go_wp2
    go_ret
    exact⟨ret_bool HP.out.symm,(hx.trans hxr).trans hx2⟩
   ·have HP:=Hy (HG.out.trans hn)
    clear hn
    go_wp2
    go_roundw
    case rel=>exact⟨k+1,by omega,by go_num,HSU.out HP.out,hxr.trans hx2⟩
    case measure=>simp[intOf];omega
  ·obtain rfl:k=xs.length:=by omega
   go_wp2
   go_ret
   refine⟨ret_bool ?_,hx.trans hxr⟩
   unfold pathL
   rw[<-HXS.out,allS_true partL xs HALL.out,bs_length]
   simp
   omega
end
section
end
section
open Go.RowKit
end
section
open Go.RowKit
end
section
open Go.ChangeShapes Go.WideShapes Go.ChangeAt Go.RowKit Go.WideElems
theorem own:ownKnob Tryz.prog.godebug=none:=by kernel_rfl
theorem laidOut:laidOutB Tryz.prog=true:=by kernel_rfl
theorem stays {H:Type} {enc:TypeId × Value->H} {W W':World} {sp:Nat->Bool}:∀ (ts:List TypeId) (vs:List Value) (ds:List (DataW H)) (ps:List MemPlace),
 (∀ t∈ts,Tryz.prog.readableRec t=true∧t < Tryz.prog.types.size)->DataW.TrodAll enc Tryz.prog W 0 (fun _=>true) true ts vs ds ps->(∀ p∈ps,W.sameAt W' p)->(∀ p∈ps,sp p.block=true) ->
 DataW.TrodAll enc Tryz.prog W' 0 sp true ts vs ds ps
 | [],vs,ds,ps,_,h,_,_=>by
   obtain⟨rfl,rfl,rfl⟩:=trodAll_nil h
   exact trodAll_mk0
 | t::ts,vs,ds,ps,hr,h,hs,hp=>by
   obtain⟨v0,vs0,d0,ds0,p0,q0,rfl,rfl,rfl,h0,r0⟩:=trodAll_cons h
   exact trodAll_cons_mk (Trod_stays laidOut (hr t (by simp)).1 (hr t (by simp)).2 h0 (fun p hm=>hs p (List.mem_append_left _ hm)) (fun p hm=>hp p (List.mem_append_left _ hm)))
    (stays ts vs0 ds0 q0 (fun t ht=>hr t (by simp[ht])) r0 (fun p hm=>hs p (List.mem_append_right _ hm)) (fun p hm=>hp p (List.mem_append_right _ hm)))
set_option maxRecDepth 100000 in
theorem post_true {H:Type} {enc:TypeId × Value->H} {f:Func} {s:ChangeSpec} {apart fresh handsOn again:Bool} {W W':World} {args:Array Value} {ds gs:List (DataW H)} {before:List MemPlace}
 (hW:DataW.Whole enc Tryz.prog f.params.toList s.vars apart W args.toList ds gs before) (hvars:s.vars=[]) (hrt:f.resultTypes=#[4])
 (hr:∀ t∈f.params.toList,Tryz.prog.readableRec t=true∧t < Tryz.prog.types.size)
 (hres:(s.fn H (ds++gs)).results=[.lit (.bool true)]) (hargs:(s.fn H (ds++gs)).args=ds) (hv:(s.fn H (ds++gs)).vars=[]) (hb:Ext W W') :
 s.post enc Tryz.prog f apart fresh handsOn again W args (.bool true) W':=by
 have hlt:∀ p∈before,p.block < W.heap.size:=fun p hp=>hW.lt p hp
 have hW':=hW
 obtain⟨p,q,hA,hV,rfl,hz,hn⟩:=hW'
 rw[hvars] at hV
 obtain⟨rfl,rfl⟩:=trodVars_none hV
 have hsame:∀ x∈p,W.sameAt W' x:=fun x hx=>Below.same hb (hlt x (by simp[hx]))
 have hT:∀ sp:Nat->Bool,(∀ x∈p++[],sp x.block=true)->DataW.TrodAll enc Tryz.prog W' 0 sp true f.params.toList args.toList (s.fn H (ds++[])).args p:=fun sp hs=>by
  rw[hargs]
  exact stays _ _ _ _ hr hA hsame (fun x hx=>hs x (by simp[hx]))
 have hR:∀ (b:Nat) (sp:Nat->Bool) (hd:Bool),DataW.TrodAll enc Tryz.prog W' b sp hd f.resultTypes.toList ((Value.bool true).resultList f.resultTypes.size) (s.fn H (ds++[])).results []:=fun b sp hd=>by
  rw[hres,hrt]
  exact trodAll_mk1 (shut_bool Tryz.underlying4 true)
 have hVV:∀ sp:Nat->Bool,DataW.TrodVars enc Tryz.prog W' sp s.vars (s.fn H (ds++[])).vars []:=fun sp=>by
  rw[hvars,hv]
  exact rfl
 refine⟨ds,[],p++[],[],p,[],hW,hR _ _ _,hT _ (fun x hx=>by simpa using hlt x hx),hVV _,World.keptBut_mono (fun x hx=>⟨hx,.inr (by simpa using hx)⟩) (Below.frame hb (·∈p++[])),fun _=>?_⟩
 refine⟨?_,_,_,([]++p)++[],⟨[]++p,[],trodAll_append (hT _ (fun _ _=>rfl)) (hR _ _ _),hVV _,rfl,?_,?_⟩,?_⟩
 ·intro j t r h1 h2
  rw[hrt] at h1 h2
  match j with
  | 0 =>
    obtain rfl:4=t:=by simpa using h1
    obtain rfl:Value.bool true=r:=by simpa [Value.resultList] using h2
    exact okWide_bool_mk Tryz.underlying4 true
  | j+1=>simp at h1
 ·intro b off hp
  have hin:MemPlace.cell b off∈p++[]:=by simpa using hp
  rw[Below.frozen hb (hlt _ hin)]
  exact hz b off hin
 ·intro ha
  simpa using hn ha
 ·intro x hx _
  simpa using hx
end
section
open Go.RowKit
section
variable {w w' a:World} {B:Nat} {e:TypeId} {size n:Nat} {v:Value} {xs:List Value}
theorem own_ext (h:w.ownsRow B e size v n xs) (hx:Ext w w'):w'.ownsRow B e size v n xs :=
 h.kept (row:=none) ⟨hx.os,hx.tape,hx.output,hx.size,fun k hk _=>hx.block k hk⟩ (by cases hv:v.ownBlock<;>simp)
theorem Ext.grown (h:Ext a w) (hown:w.ownsRow B e size v n xs) (hB:a.heap.size<=B) (hg:w.grownBy w' v.ownBlock):Ext a w' :=
 Below.grown h hg h.size (fun k hk=>Nat.le_trans hB (hown.lt k hk).1)
theorem Blk.grown {g:Nat} {t:TypeId} {cs:Array Value} (h:Blk w g t cs) (hown:w.ownsRow B e size v n xs) (hB:g < B) (hg:w.grownBy w' v.ownBlock):Blk w' g t cs :=
 (hg.block g h.lt (fun he=>by have:=(hown.lt g he.symm).1;omega)).trans h
theorem own_form (h:w.ownsRow B e size v n xs) (h0:0 < n):∃ g c,v=.slice (some ⟨g,0,none⟩) n c∧g < w.heap.size∧B<=g∧n<=c∧∀ j u,xs[j]?=some u->w.cell? ⟨g,j,none⟩=some u:=by
 have hh:=h
 rcases h.2 with ⟨rfl,h1⟩|⟨g,cap,cur,rfl,hb,hgg,hnc,_⟩
 ·omega
 ·refine⟨g,cap,rfl,(hh.lt g rfl).2,hb,hnc,fun j u hu=>?_⟩
  have:=hh.cells (g:=g) rfl j u hu
  have hadd:(⟨g,0,none⟩:Addr).add j=⟨g,j,none⟩:=by unfold Addr.add;split<;>simp_all
  rwa [hadd] at this
end
section
variable {P:Program}
theorem wpList_app1 {ops:Array Oper} {rest:List Oper} {o:Oper} {a:Act} {Q:Exit->Act->World->Prop} (wr:World) (cs:Array Value) (e:TypeId) (hgd:o.guard=none) (s x:Operand) (t:TypeId)
 (ho:o.op=.call { callee:=.builtin .append,args:=#[s,x],argTypes:=#[t,t] })
 (z:Value) (size bytes:Nat) (ht:P.underlying t=some (.slice e)) (hinfo:(P.info? e).map (fun i=>(i.zero,i.size,i.bytes))=some (some z,size,bytes)) (hzs:z.cells.size=size) (hsz:0 < size) (hby:bytes<=1000)
 (B:Nat) (v:Value) (n:Nat) (xs:List Value) (hs:a.eval s=v) (hown:wr.ownsRow B e size v n xs)
 (c:Nat) (hx:a.eval x=.slice (some ⟨wr.heap.size,0,none⟩) 1 c) (hcs:cs.size=size) (h1:∀ u∈cs.toList,u.oneCell'=true) (hn:n<=100000000) (hbase:B<=wr.heap.size)
 (h:∀ v' w',w'.ownsRow B e size v' (n+1) (xs++cs.toList)->(∀ a',Ext a' wr->a'.heap.size<=B->Ext a' w')->(∀ g t' ds,Blk wr g t' ds->g < B->Blk w' g t' ds)->wpList P ops Q rest (a.put o.dst v') w') :
 wpList P ops Q (o::rest) a (wr.alloc (.cells cs e)):=by
 obtain⟨i,hi,hz0,hz1,hz2⟩:=info_parts hinfo
 have hnew:=Blk.new wr e cs
 refine wpList_append_own (wr.alloc (.cells cs e)) hgd s x t ho B e i z size bytes ht hi hz0 hz1 hz2 hzs hsz v n xs hs (hown.alloc _) ⟨wr.heap.size,0,none⟩ 1 c cs.toList hx (by simp[hcs]) ?_ h1 ?_ ?_ (by simp;omega) ?_
 ·intro j u hu
  have hadd:(⟨wr.heap.size,0,none⟩:Addr).add j=⟨wr.heap.size,j,none⟩:=by unfold Addr.add;split<;>simp_all
  rw[hadd,hnew.cell]
  simpa using hu
 ·simp only[maxLen];omega
 ·have:(n+1) * bytes<=100000001 * 1000:=Nat.mul_le_mul (by omega) hby
  omega
 ·intro v' w' hown' hg _
  refine h v' w' hown' (fun a' ha hB=>?_) (fun g t' ds hb hlt=>?_)
  ·exact (ha.alloc _).grown (hown.alloc _) hB hg
  ·exact (hb.alloc _).grown (hown.alloc _) hlt hg
theorem wpList_app1g {ops:Array Oper} {rest:List Oper} {o:Oper} {a:Act} {Q:Exit->Act->World->Prop} (wr:World) (cs:Array Value) (e:TypeId) (hgd:o.guard=none) (s x:Operand) (t:TypeId)
 (ho:o.op=.call { callee:=.builtin .append,args:=#[s,x],argTypes:=#[t,t] })
 (z:Value) (size bytes:Nat) (ht:P.underlying t=some (.slice e)) (hinfo:(P.info? e).map (fun i=>(i.zero,i.size,i.bytes))=some (some z,size,bytes)) (hzs:z.cells.size=size) (hsz:0 < size) (hby:bytes<=1000)
 (B:Nat) (v:Value) (n:Nat) (xs:List Value) (hs:a.eval s=v) (hown:wr.ownsRow B e size v n xs)
 (c gA:Nat) (hx:a.eval x=.slice (some ⟨gA,0,none⟩) 1 c) (hgA:wr.heap.size=gA) (hcs:cs.size=size) (h1:∀ u∈cs.toList,u.oneCell'=true) (hn:n<=100000000) (hbase:B<=wr.heap.size)
 (h:∀ v' w',w'.ownsRow B e size v' (n+1) (xs++cs.toList)->(∀ a',Ext a' wr->a'.heap.size<=B->Ext a' w')->(∀ g t' ds,Blk wr g t' ds->g < B->Blk w' g t' ds)->wpList P ops Q rest (a.put o.dst v') w') :
 wpList P ops Q (o::rest) a (wr.alloc (.cells cs e)) :=
 wpList_app1 wr cs e hgd s x t ho z size bytes ht hinfo hzs hsz hby B v n xs hs hown c (by rw[hgA];exact hx) hcs h1 hn hbase h
end
end
section
open Go.RowKit
theorem map_take_succ {α β:Type} (f:α->β) (l:List α) (k:Nat) (h:k < l.length):(l.take k).map f++[f l[k]]=(l.take (k+1)).map f:=by
 rw[List.take_succ_eq_append_getElem h,List.map_append];rfl
end
section
open Go.RowKit
end
end Go.Proofs.YtmnafaaijglnfaaGreatDoor
namespace Go.Proofs.YtmnafaaijglnfaaGreatDoor.listed
open Go.ChangeShapes Go.WideShapes Go.ChangeAt Go.RowKit Go.WideElems Go.Joins
theorem star:"*"++"errors.errorString"="*errors.errorString":=by decide
theorem rowErr (u:TypeId) (h:Tryz.prog.typeName? 3 u=some "*errors.errorString"):u=301 :=
 typeName_ptr_named (nm:="errors.errorString") (by rw[star];kernel_rfl) (by kernel_rfl) (by decide) u (by rw[star];exact h)
theorem good {W:World} (hL:laidMetH Tryz.prog Rows.versionsMatchUptoRow.laid W) (hS:W.ShapedOpen Tryz.prog):GoodN W:=by
 have hL':laidMet Tryz.prog Rows.versionsMatchUptoRow.laid W:=hL
 have h1:laidMet Tryz.prog [("internal/strconv.uint64pow10",Rows.laid_internal_strconv_uint64pow10)] W:=hL'.filter (fun x=>x.1=="internal/strconv.uint64pow10")
 have h2:laidMet Tryz.prog [("strconv.ErrSyntax",Rows.laid_strconv_ErrSyntax)] W:=hL'.filter (fun x=>x.1=="strconv.ErrSyntax")
 have h3:laidMet Tryz.prog [("strconv.ErrRange",Rows.laid_strconv_ErrRange)] W:=hL'.filter (fun x=>x.1=="strconv.ErrRange")
 refine⟨⟨Tryz.laysM146.s1_3 W hS⟩,?_,?_,?_⟩
 ·exact Lib.tabIs_of_head (rest:=[]) (g:=3) (by kernel_rfl) (by kernel_rfl) Tryz.underlying298 Tryz.underlying165 (by kernel_rfl) (by kernel_rfl) h1
 ·obtain⟨a,s,hv,_⟩:=laid_sentinel (g:=1) h2 (by kernel_rfl) (by kernel_rfl) Tryz.underlying122 rowErr Tryz.underlying301 Tryz.underlying303 rfl rfl Tryz.underlying9 (by kernel_rfl) (by kernel_rfl)
  exact⟨_,_,hv⟩
 ·obtain⟨a,s,hv,_⟩:=laid_sentinel (g:=2) h3 (by kernel_rfl) (by kernel_rfl) Tryz.underlying122 rowErr Tryz.underlying301 Tryz.underlying303 rfl rfl Tryz.underlying9 (by kernel_rfl) (by kernel_rfl)
  exact⟨_,_,hv⟩
noncomputable def laidWorld (os:Os):World :=
 let N:=(World.settled Tryz.prog os).heap.size
 let w0:=World.holding Tryz.prog os ⟨#[.cells #[.string ⟨#[118,97,108,117,101,32,111,117,116,32,111,102,32,114,97,110,103,101]⟩] 303,.cells #[.string ⟨#[105,110,118,97,108,105,100,32,115,121,110,116,97,120]⟩] 303],#[],[]⟩
 let put (h:Array Obj) (g:Nat) (cs:Array Value):Array Obj:=h.modify g fun
  | .cells _ t frozen=>.cells cs t frozen
  | o=>o
 let h0:=put (put w0.heap 2 #[.iface 301 (.pointer (some ⟨N,0,none⟩))]) 1 #[.iface 301 (.pointer (some ⟨N+1,0,none⟩))]
 let h1:=put h0 4 (Go.Pinned.utf8FirstZ.map fun z:Nat=>Value.int .u8 (z:Int)).toArray
 let h2:=put h1 5 #[.int .u8 128,.int .u8 191,.int .u8 160,.int .u8 191,.int .u8 128,.int .u8 159,.int .u8 144,.int .u8 191,.int .u8 128,.int .u8 143,.int .u8 0,.int .u8 0,.int .u8 0,.int .u8 0,.int .u8 0,.int .u8 0,.int .u8 0,.int .u8 0,.int .u8 0,.int .u8 0,.int .u8 0,.int .u8 0,.int .u8 0,.int .u8 0,.int .u8 0,.int .u8 0,.int .u8 0,.int .u8 0,.int .u8 0,.int .u8 0,.int .u8 0,.int .u8 0]
 let h3:=put h2 6 #[.int .u8 0,.int .u8 1,.int .u8 28,.int .u8 2,.int .u8 29,.int .u8 14,.int .u8 24,.int .u8 3,.int .u8 30,.int .u8 22,.int .u8 20,.int .u8 15,.int .u8 25,.int .u8 17,.int .u8 4,.int .u8 8,.int .u8 31,.int .u8 27,.int .u8 13,.int .u8 23,.int .u8 21,.int .u8 19,.int .u8 16,.int .u8 7,.int .u8 26,.int .u8 12,.int .u8 18,.int .u8 6,.int .u8 11,.int .u8 5,.int .u8 10,.int .u8 9]
 let h4:=put h3 7 #[.int .u8 0,.int .u8 1,.int .u8 56,.int .u8 2,.int .u8 57,.int .u8 49,.int .u8 28,.int .u8 3,.int .u8 61,.int .u8 58,.int .u8 42,.int .u8 50,.int .u8 38,.int .u8 29,.int .u8 17,.int .u8 4,.int .u8 62,.int .u8 47,.int .u8 59,.int .u8 36,.int .u8 45,.int .u8 43,.int .u8 51,.int .u8 22,.int .u8 53,.int .u8 39,.int .u8 33,.int .u8 30,.int .u8 24,.int .u8 18,.int .u8 12,.int .u8 5,.int .u8 63,.int .u8 55,.int .u8 48,.int .u8 27,.int .u8 60,.int .u8 41,.int .u8 37,.int .u8 16,.int .u8 46,.int .u8 35,.int .u8 44,.int .u8 21,.int .u8 52,.int .u8 32,.int .u8 23,.int .u8 11,.int .u8 54,.int .u8 26,.int .u8 40,.int .u8 15,.int .u8 34,.int .u8 20,.int .u8 31,.int .u8 10,.int .u8 25,.int .u8 14,.int .u8 19,.int .u8 9,.int .u8 13,.int .u8 8,.int .u8 7,.int .u8 6]
 let h5:=put h4 3 #[.int .u64 1,.int .u64 10,.int .u64 100,.int .u64 1000,.int .u64 10000,.int .u64 100000,.int .u64 1000000,.int .u64 10000000,.int .u64 100000000,.int .u64 1000000000,.int .u64 10000000000,.int .u64 100000000000,.int .u64 1000000000000,.int .u64 10000000000000,.int .u64 100000000000000,.int .u64 1000000000000000,.int .u64 10000000000000000,.int .u64 100000000000000000,.int .u64 1000000000000000000,.int .u64 10000000000000000000]
 { w0 with heap:=h5 }
end Go.Proofs.YtmnafaaijglnfaaGreatDoor.listed
namespace Go.Proofs.YtmnafaaijglnfaaGreatDoor
section
open Go.ChangeShapes Go.WideShapes Go.ChangeAt Go.RowKit Go.WideElems Go.Joins
def Opens (T:TypeId) {α:Type} (R:World->α->List Value->Prop) (bk:α->Nat):Prop :=
 ∀ (H:Type) (enc:TypeId × Value->H) (W:World) (fuel:Nat) (cs:List Value) (x:DataW H × List MemPlace),DataW.trod enc Tryz.prog W 0 (fun _=>true) true fuel T cs=some x->∃ v,R W v cs∧bk v<=Rows.uptoBulk x.1
theorem opens_string {T:TypeId} (hT:Tryz.prog.underlying T=some .string):Opens T (fun _ (s:ByteArray) cs=>cs=[.string s]) (fun s=>s.size+1):=fun H enc W fuel cs x h=>by
 obtain⟨s,rfl,rfl,_⟩:=DataW.trod_string hT h
 exact⟨s,rfl,by simp only[Rows.uptoBulk,Array.length_toList];exact Nat.le_refl _⟩
theorem opens_int {T:TypeId} (hT:Tryz.prog.underlying T=some (.int .i64)):Opens T (fun _ (n:Int) cs=>cs=[.int .i64 n]) (fun _=>1):=fun H enc W fuel cs x h=>by
 obtain⟨n,rfl,rfl,_⟩:=DataW.trod_int hT h
 exact⟨n,rfl,by simp[Rows.uptoBulk]⟩
theorem opens_bool {T:TypeId} (hT:Tryz.prog.underlying T=some .bool):Opens T (fun _ (b:Bool) cs=>cs=[.bool b]) (fun _=>1):=fun H enc W fuel cs x h=>by
 obtain⟨n,rfl,rfl⟩:=DataW.trod_bool hT h
 exact⟨n,rfl,by simp[Rows.uptoBulk]⟩
theorem bulkAll_le {H:Type} {n:Nat} {D:Nat->DataW H} {bk:Nat->Nat} (h:∀ i,i < n->bk i<=Rows.uptoBulk (D i)):((List.range n).map bk).sum<=Rows.uptoBulkAll ((List.range n).map D):=by
 suffices ∀ l:List Nat,(∀ i∈l,i < n)->(l.map bk).sum<=Rows.uptoBulkAll (l.map D) from this _ fun i hi=>List.mem_range.1 hi
 intro l
 induction l with
 | nil=>intro _;exact Nat.zero_le _
 | cons a l ih =>
   intro hl
   have h1:=h a (hl a (by simp))
   have h2:=ih fun i hi=>hl i (by simp[hi])
   simp only[List.map_cons,List.sum_cons,Rows.uptoBulkAll]
   omega
def RowOf {α:Type} (R:World->α->List Value->Prop) (sz:Nat) (W:World) (A:Option Addr) (l:List α):Prop :=
 l≠[]->∃ b o,A=some ⟨b,o,none⟩∧∀ k (h:k < l.length),∃ ecs,R W l[k] ecs∧ecs.length=sz∧∀ j,j < sz->W.cell? ⟨b,o+k * sz+j,none⟩=ecs[j]?
theorem opens_slice {T E:TypeId} {α:Type} [Inhabited α] {R:World->α->List Value->Prop} {bk:α->Nat} {sz:Nat} (hT:Tryz.prog.underlying T=some (.slice E)) (hsz:Tryz.prog.cellsOf E=sz) (h0:0 < sz) (hE:Opens E R bk) :
 Opens T (fun W (l:List α) cs=>∃ A c,cs=[.slice A l.length c]∧RowOf R sz W A l) (fun l=>(l.map bk).sum+1):=fun H enc W fuel cs x h=>by
 rcases Deep.open_slice hT h with ⟨rfl,rfl⟩|⟨a,len,cap,m,n,D,Pl,rfl,_,hl,_,hm,rfl,hx⟩
 ·exact⟨[],⟨none,0,rfl,fun h=>absurd rfl h⟩,by simp[Rows.uptoBulk]⟩
 ·have hlm:len<=m:=by rw[hm];split<;>omega
  have each:∀ i,i < len->∃ v:α,bk v<=Rows.uptoBulk (D i)∧∃ ecs,R W v ecs∧W.cells? 0 (a.add (i * sz)) sz=some ecs:=fun i hi=>by
   obtain⟨cs',h1,h2⟩:=hx i (by omega)
   obtain⟨v,h3,h4⟩:=hE H enc W n cs' _ h2
   rw[hsz] at h1
   exact⟨v,h4,cs',h3,h1⟩
  obtain⟨F,hF⟩:=Deep.choose_lt each
  refine⟨(List.range len).map F,⟨some a,cap,by simp,?_⟩,?_⟩
  ·intro hne
   have hpos:0 < len:=by
    rcases Nat.eq_zero_or_pos len with h|h
    ·subst h;exact absurd rfl hne
    ·exact h
   obtain⟨_,ecs0,_,hc0⟩:=hF 0 hpos
   obtain⟨_,hl0,hcell0⟩:=World.cells?_some hc0
   obtain⟨b,off,spot⟩:=a
   have g0:=hcell0 0 h0
   have hsome:∃ v,ecs0[0]?=some v:=⟨ecs0[0],List.getElem?_eq_getElem (by omega)⟩
   obtain⟨v0,hv0⟩:=hsome
   rw[hv0] at g0
   have hspot:spot=none:=by
    have:=World.cell?_spot g0
    simpa [Addr.add] using this
   subst hspot
   refine⟨b,off,rfl,fun k hk=>?_⟩
   have hk':k < len:=by simpa using hk
   obtain⟨_,ecs,hR,hc⟩:=hF k hk'
   obtain⟨_,hl1,hcell⟩:=World.cells?_some hc
   refine⟨ecs,by simpa using hR,hl1,fun j hj=>?_⟩
   have:=hcell j hj
   rwa [Deep.add_add,add_plain,<-Nat.add_assoc] at this
  ·have:=bulkAll_le (H:=H) (n:=len) (D:=D) (bk:=fun i=>bk (F i)) fun i hi=>(hF i hi).1
   simp only[List.map_map,Rows.uptoBulk]
   have e:(bk ∘ F)=fun i=>bk (F i):=rfl
   rw[e]
   omega
theorem opens_struct1 {T:TypeId} {f0:Field} {α:Type} {R:World->α->List Value->Prop} {bk:α->Nat} (hT:Tryz.prog.underlying T=some (.struct #[f0])) (ho:f0.offset=0) (hs:Tryz.prog.cellsOf T=Tryz.prog.cellsOf f0.type) (hE:Opens f0.type R bk) :
 Opens T R bk:=fun H enc W fuel cs x h=>by
 obtain⟨y0,n,rfl,hl,h0⟩:=trod_struct1 hT h
 obtain⟨v,h1,h2⟩:=hE H enc W n _ _ h0
 rw[ho,List.drop_zero,List.take_of_length_le (by omega)] at h1
 exact⟨v,h1,by simp only[Rows.uptoBulk,Rows.uptoBulkAll];omega⟩
theorem sum_mem {α:Type} {bk:α->Nat}:∀ {l:List α} {a:α},a∈l->bk a<=(l.map bk).sum
 | b::l,a,h=>by
   rcases List.mem_cons.1 h with rfl|h
   ·simp only[List.map_cons,List.sum_cons];omega
   ·have:=sum_mem (bk:=bk) h
    simp only[List.map_cons,List.sum_cons];omega
theorem sum_len {α:Type} {bk:α->Nat} {c:Nat} (h:∀ a,c<=bk a):∀ l:List α,l.length * c<=(l.map bk).sum
 | []=>by simp
 | a::l=>by
   have:=sum_len h l
   have:=h a
   simp only[List.map_cons,List.sum_cons,List.length_cons,Nat.succ_mul];omega
end
section
def esc:Str->Str
 | []=>[]
 | c::r=>if c=34∨c=92 then 92::c::esc r else c::esc r
def quoteL (s:Str):Str:=34::(esc s++[34])
def unq (s:Str):Option (Str × Str) :=
 match s with
 | []=>none
 | c::r=>if c=34 then some ([],r) else if c=92 then
    (match r with
    | []=>none
    | d::q=>if d=34∨d=92 then (unq q).map fun x=>(d::x.1,x.2) else none)
   else (unq r).map fun x=>(c::x.1,x.2)
termination_by s.length
theorem unq_nil:unq []=none:=by unfold unq;rfl
theorem unq_end (r:Str):unq (34::r)=some ([],r):=by unfold unq;simp
theorem unq_back0:unq [92]=none:=by unfold unq;simp
theorem unq_two {d:UInt8} (h:d=34∨d=92) (q:Str):unq (92::d::q)=(unq q).map fun x=>(d::x.1,x.2):=by
 rw[unq]
 simp only[show ¬ (92:UInt8)=34 by decide,if_false,if_true,if_pos h]
theorem unq_bad {d:UInt8} (h:¬ (d=34∨d=92)) (q:Str):unq (92::d::q)=none:=by
 rw[unq]
 simp only[show ¬ (92:UInt8)=34 by decide,if_false,if_true,if_neg h]
theorem unq_one {c:UInt8} (h1:¬ c=34) (h2:¬ c=92) (r:Str):unq (c::r)=(unq r).map fun x=>(c::x.1,x.2):=by
 rw[unq.eq_def]
 simp only[if_neg h1,if_neg h2]
theorem unq_back:∀ (n:Nat) (s t z:Str),s.length<=n->unq s=some (t,z)->s=esc t++34::z:=by
 intro n
 induction n with
 | zero =>
   intro s t z hl h
   have:s=[]:=List.eq_nil_of_length_eq_zero (by omega)
   subst this
   rw[unq_nil] at h;cases h
 | succ n ih =>
   intro s t z hl h
   match s with
   | []=>rw[unq_nil] at h;cases h
   | c::r =>
     by_cases h1:c=34
     ·subst h1
      rw[unq_end] at h
      cases h;rfl
     by_cases h2:c=92
     ·subst h2
      match r with
      | []=>rw[unq_back0] at h;cases h
      | d::q =>
        by_cases h3:d=34∨d=92
        ·rw[unq_two h3] at h
         cases hu:unq q with
         | none=>rw[hu] at h;cases h
         | some x =>
           rw[hu] at h
           cases h
           have:=ih q x.1 x.2 (by simp at hl;omega) hu
           rw[esc,if_pos h3]
           simp only[List.cons_append]
           rw[<-this]
        ·rw[unq_bad h3] at h;cases h
     ·rw[unq_one h1 h2] at h
      cases hu:unq r with
      | none=>rw[hu] at h;cases h
      | some x =>
        rw[hu] at h
        cases h
        have:=ih r x.1 x.2 (by simp at hl;omega) hu
        rw[esc,if_neg (fun e=>e.elim h1 h2)]
        simp only[List.cons_append]
        rw[<-this]
structure Ru where
 kind:Int
 key:Str
 tt:Str
 old:Str
 new:Str
deriving instance DecidableEq for Ru
def useTo (k:Int):Bool:=k==1||k==2||k==3
def useOld (k:Int):Bool:=k==7||k==8
def useNew (k:Int):Bool:=k==4||k==5||k==7||k==8
structure Shape (r:Ru):Prop where
 lo:1<=r.kind
 hi:r.kind<=8
 key:r.key≠[]
 key32:(32:UInt8) ∉ r.key
 to1:useTo r.kind=true->r.tt≠[]∧(32:UInt8) ∉ r.tt
 to0:useTo r.kind=false->r.tt=[]
 old0:useOld r.kind=false->r.old=[]
 new0:useNew r.kind=false->r.new=[]
end
section
structure RightR (r:Ru):Prop where
 lo:1<=r.kind
 hi:r.kind<=8
 key:pathL r.key=true
 to1:useTo r.kind=true->pathL r.tt=true
 to0:useTo r.kind=false->r.tt=[]
 old0:useOld r.kind=false->r.old=[]
 new0:useNew r.kind=false->r.new=[]
end
section
theorem esc_len (l:Str):(esc l).length=l.length+(l.count 34+l.count 92):=by
 induction l with
 | nil=>rfl
 | cons c r ih =>
   rw[esc]
   by_cases h1:c=34
   ·subst h1;simp[ih];omega
   ·by_cases h2:c=92
    ·subst h2;simp[ih];omega
    ·rw[if_neg (fun e=>e.elim h1 h2),List.length_cons,ih,List.length_cons,List.count_cons_of_ne h1,List.count_cons_of_ne h2];omega
end
section
open Go.RowKit
theorem eqE (x y:ByteArray):(x.toList==y.toList)=decide (bs x=bs y):=by
 rw[ByteArray.toList_eq,ByteArray.toList_eq]
 by_cases h:bs x=bs y
 ·rw[decide_eq_true h,beq_iff_eq];exact h
 ·rw[decide_eq_false h,beq_eq_false_iff_ne];exact h
def u8s (l:Str):List Value:=l.map fun c=>Value.int .u8 c.toNat
@[simp] theorem u8s_length (a:Str):(u8s a).length=a.length:=List.length_map _
theorem info_u8:(Tryz.prog.info? 5).map (fun i=>(i.zero,i.size,i.bytes))=some (some (.int .u8 0),1,1):=by kernel_rfl
end
section
open Go.RowKit
theorem drop_cons (s:ByteArray) (k:Nat) (h:k < s.size):(bs s).drop k=s[k]::(bs s).drop (k+1):=by
 rw[List.drop_eq_getElem_cons (by rw[bs_length];exact h)];rfl
section
variable {s:ByteArray} {R:Option (Str × Str)} {k:Nat} {done:Str}
end
def qatR (n:Nat):Option (Str × Str)->Str × Nat × Bool
 | none=>([],0,false)
 | some (t,z)=>(t,n - z.length,true)
def qat (l:Str) (i:Nat):Str × Nat × Bool:=qatR l.length (unq (l.drop (i+1)))
end
section
open Go.RowKit
def blankB (c:UInt8):Bool:=c==32||c==9
end
section
section
variable {s:ByteArray}
end
end
section
open Go.RowKit
structure ExtC (C:Nat->Prop) (w w':World):Prop where
 os:w'.os=w.os
 tape:w'.tape=w.tape
 output:w'.output=w.output
 size:w.heap.size<=w'.heap.size
 block:∀ k,k < w.heap.size->¬ C k->w'.heap[k]?=w.heap[k]?
namespace ExtC
variable {C:Nat->Prop} {a b c w w':World}
theorem refl (C:Nat->Prop) (w:World):ExtC C w w:=⟨rfl,rfl,rfl,Nat.le_refl _,fun _ _ _=>rfl⟩
theorem ofExt (h:Ext a b):ExtC C a b:=⟨h.os,h.tape,h.output,h.size,fun k hk _=>h.block k hk⟩
theorem trans (h:ExtC C a b) (k:ExtC C b c):ExtC C a c :=
 ⟨k.os.trans h.os,k.tape.trans h.tape,k.output.trans h.output,Nat.le_trans h.size k.size,fun i hi hg=>(k.block i (Nat.lt_of_lt_of_le hi h.size) hg).trans (h.block i hi hg)⟩
theorem alloc (h:ExtC C a w) (o:Obj):ExtC C a (w.alloc o):=h.trans (ofExt ((Ext.refl w).alloc o))
theorem set (h:ExtC C a w) {p:Addr} (hp:C p.block∨a.heap.size<=p.block) (u:Value):ExtC C a (w.setCell p u) :=
 ⟨h.os,h.tape,h.output,by have:=h.size;simpa [World.setCell] using this,fun k hk hg=>by
   refine Eq.trans ?_ (h.block k hk hg)
   simp only[World.setCell,Array.getElem?_modify]
   rw[if_neg]
   rintro rfl
   rcases hp with h1|h1
   ·exact hg h1
   ·omega⟩
theorem ext (h:Ext a w) (k:ExtC C w w') (hC:∀ i,C i->a.heap.size<=i):Ext a w' :=
 ⟨k.os.trans h.os,k.tape.trans h.tape,k.output.trans h.output,Nat.le_trans h.size k.size,fun i hi=>(k.block i (Nat.lt_of_lt_of_le hi h.size) (fun hc=>by have:=hC i hc;omega)).trans (h.block i hi)⟩
theorem imp {C':Nat->Prop} (h:ExtC C a b) (hC:∀ i,C i->C' i):ExtC C' a b:=⟨h.os,h.tape,h.output,h.size,fun k hk hn=>h.block k hk (fun hc=>hn (hC k hc))⟩
theorem cell (h:ExtC C a b) {k o:Nat} {v:Value} (hk:¬ C k) (hc:a.cell? ⟨k,o,none⟩=some v):b.cell? ⟨k,o,none⟩=some v:=by
 have hl:=lt_of_cell hc
 unfold World.cell? at hc ⊢
 rw[h.block k hl hk]
 exact hc
end ExtC
theorem Blk.extC {C:Nat->Prop} {w w':World} {k:Nat} {t:TypeId} {cs:Array Value} (h:Blk w k t cs) (hx:ExtC C w w') (hk:¬ C k):Blk w' k t cs:=(hx.block k h.lt hk).trans h
end
section
structure Iv where
 lo:Nat
 hi:Nat
deriving DecidableEq
def Iv.has (I:Iv) (k:Nat):Bool:=decide (I.lo<=k)&&decide (k < I.hi)
structure Can (N:Nat) (L:List Iv):Prop where
 apart:L.Pairwise fun I J=>I.hi < J.lo
 full:∀ I∈L,I.lo < I.hi∧I.hi<=N
theorem Can.tail {N:Nat} {I:Iv} {L:List Iv} (h:Can N (I::L)):Can N L:=⟨(List.pairwise_cons.1 h.apart).2,fun J hJ=>h.full J (List.mem_cons_of_mem _ hJ)⟩
theorem Can.one {N:Nat} {L:List Iv} (h:Can N L) {I J:Iv} (hI:I∈L) (hJ:J∈L):I=J∨I.hi < J.lo∨J.hi < I.lo:=by
 have ha:=h.apart
 clear h
 induction ha with
 | nil=>cases hI
 | @cons K M h1 _ ih =>
   rcases List.mem_cons.1 hI with e1|m1<;>rcases List.mem_cons.1 hJ with e2|m2
   ·exact .inl (e1.trans e2.symm)
   ·exact .inr (.inl (e1 ▸ h1 _ m2))
   ·exact .inr (.inr (e2 ▸ h1 _ m1))
   ·exact ih m1 m2
section
variable {σ:Type} (op:Nat->σ) (cl:σ->Nat->σ) (f:Nat->Bool)
end
end
section
open Go.RowKit
section
variable {P:Program}
theorem wpList_load_at {ops:Array Oper} {rest:List Oper} {o:Oper} {a:Act} {w:World} {Q:Exit->Act->World->Prop} (hgd:o.guard=none) (ty:TypeId) (x:Operand) (ho:o.op=.load ty x)
 (p:Addr) (hx:a.eval x=.pointer (some p)) (v:Value) (hl:(loadVar ty p).run P w=.ok v w) (h:wpList P ops Q rest (a.put o.dst v) w):wpList P ops Q (o::rest) a w :=
 wpList_plain hgd fun K hK=>by
  unfold Oper.wp execOp
  simp only[ho,hx,Instr.loadAt,Instr.sureAddr,Sem.run_bind,Sem.run_pure,Result.andThen_ok,hl]
  exact hK _ _ h
theorem wpQuiet_load {ops:Array Oper} {rest:List Oper} {o:Oper} {a:Act} {C:World->Prop} {Q:Act->Prop} (hw:Region.wanted o (yielded ops a.tmps)=true) (ty:TypeId) (x:Operand) (ho:o.op=.load ty x)
 (p:Addr) (hx:a.eval x=.pointer (some p)) (v:Value) (hl:∀ w,C w->(loadVar ty p).run P w=.ok v w) (h:wpQuiet P ops C Q rest (a.put o.dst v)):wpQuiet P ops C Q (o::rest) a :=
 wpQuiet_step fun K hK=>by
  rw[if_pos hw]
  refine⟨v,fun w hC=>?_,hK _ h⟩
  unfold Oper.quietAt execOp
  simp only[ho,hx,Instr.loadAt,Instr.sureAddr,Sem.run_bind,Sem.run_pure,Result.andThen_ok,hl w hC]
  exact⟨rfl,rfl⟩
end
end
section
open Go.RowKit
def fnvF (n:Nat) (c:UInt8):Nat:=(n ^^^ c.toNat) * 1099511628211 % 18446744073709551616
def fnvL (l:Str):Nat:=l.foldl fnvF 14695981039346656037
theorem fnvF_lt (n:Nat) (c:UInt8):fnvF n c < 18446744073709551616:=Nat.mod_lt _ (by decide)
theorem fnv_fold_lt:∀ (l:Str) (n:Nat),n < 18446744073709551616->l.foldl fnvF n < 18446744073709551616
 | [],_,h=>h
 | c::l,n,_=>fnv_fold_lt l (fnvF n c) (fnvF_lt n c)
theorem fnvL_lt (l:Str):fnvL l < 18446744073709551616:=by
 unfold fnvL
 exact fnv_fold_lt l 14695981039346656037 (by omega)
theorem fnv_step (n:Nat) (c:UInt8) (hn:n < 18446744073709551616):IntKind.u64.wrap (bits .xor .u64 (n:Int) (c.toNat:Int) * 1099511628211)=(fnvF n c:Nat):=by
 have hc:c.toNat < 256:=c.toNat_lt
 rw[bits_xor_u64_nat n c.toNat hn (by omega),IntKind.wrap_u64,fnvF]
 omega
theorem fnv_take (l:Str) (z k:Nat) (h:k < l.length):(l.take (k+1)).foldl fnvF z=fnvF ((l.take k).foldl fnvF z) l[k]:=by
 rw[List.take_succ_eq_append_getElem h,List.foldl_append,List.foldl_cons,List.foldl_nil]
def hexD (n:Nat):UInt8:=UInt8.ofNat (if n < 10 then 48+n else 87+n)
def hexN:Nat->Nat->Str
 | 0,_=>[]
 | k+1,n=>hexN k (n / 16)++[hexD (n % 16)]
theorem hexD_num:∀ n,n < 16->(hexD n).toNat=if n < 10 then 48+n else 87+n:=by decide
theorem hexN_length:∀ k n,(hexN k n).length=k
 | 0,_=>rfl
 | k+1,n=>by rw[hexN,List.length_append,hexN_length k];rfl
theorem hexN_add (a:Nat):∀ b n,hexN (a+b) n=hexN a (n / 16 ^ b)++hexN b n
 | 0,n=>by simp[hexN]
 | b+1,n=>by
   rw[<-Nat.add_assoc,hexN,hexN_add a b,hexN,List.append_assoc,Nat.div_div_eq_div_mul,Nat.pow_succ,Nat.mul_comm]
theorem hexN_zero:∀ k,hexN k 0=List.replicate k 48
 | 0=>rfl
 | k+1=>by
   rw[hexN,Nat.zero_div,hexN_zero k,List.replicate_succ'];rfl
theorem hexN_get:∀ k n j (h:j < (hexN k n).length),(hexN k n)[j]=hexD (n / 16 ^ (k - 1 - j) % 16)
 | 0,_,j,h=>by simp[hexN] at h
 | k+1,n,j,h=>by
   have hj:j < k+1:=by rw[hexN_length] at h;exact h
   rcases Nat.lt_or_ge j k with hlt|hge
   ·have h2:j < (hexN k (n / 16)).length:=by rw[hexN_length];exact hlt
    have e:(hexN (k+1) n)[j]=(hexN k (n / 16))[j]:=by
     simp only[hexN]
     rw[List.getElem_append_left h2]
    rw[e,hexN_get k (n / 16) j h2,Nat.div_div_eq_div_mul,<-Nat.pow_succ',show (k - 1 - j).succ=k+1 - 1 - j by omega]
   ·obtain rfl:j=k:=by omega
    have e:(hexN (j+1) n)[j]=hexD (n % 16):=by
     simp only[hexN]
     rw[List.getElem_append_right (by rw[hexN_length];exact Nat.le_refl _)]
     simp[hexN_length]
    rw[e,Nat.add_sub_cancel,Nat.sub_self,Nat.pow_zero,Nat.div_one]
theorem hex_pad (k n:Nat) (hk:k<=16) (h:n < 16 ^ k):List.replicate (16 - k) 48++hexN k n=hexN 16 n:=by
 have:=hexN_add (16 - k) k n
 rw[show 16 - k+k=16 by omega,Nat.div_eq_of_lt h,hexN_zero] at this
 exact this.symm
theorem hex_first8 (n:Nat):(hexN 16 n).take 8=hexN 8 (n / 4294967296):=by
 have:=hexN_add 8 8 n
 rw[this,List.take_append_of_le_length (by rw[hexN_length];exact Nat.le_refl _),List.take_of_length_le (by rw[hexN_length];exact Nat.le_refl _)]
def sumT (l:Str):Str:=hexN 16 (fnvL l)
end
section
open Go.RowKit
theorem conv_cells {W:World} {g off n:Nat} {l:Str} (hl:l.length=n) (hc:∀ i (h:i < l.length),W.cell? ⟨g,off+i,none⟩=some (.int .u8 l[i].toNat)) (c:Nat) :
 (convert 202 9 (.slice (some ⟨g,off,none⟩) n c)).run Tryz.prog W=.ok (S l) W:=by
 subst hl
 have:=run_convert_bytes_arg (P:=Tryz.prog) W 202 5 Tryz.underlying202 Tryz.underlying5 g off l.length c (l.map fun x=>(x.toNat:Int)) (by simp) (fun i hi=>by
  rw[hc i hi]
  simp[List.getD,hi]) 9 Tryz.underlying9
 rw[this]
 have e:(l.map fun x=>(x.toNat:Int)).map (fun n=>UInt8.ofNat n.toNat)=l:=by
  rw[List.map_map]
  exact List.map_id'' (fun x=>by simp) l
 unfold strOfNums
 rw[e]
theorem make_u8s (n:Nat) (z:Int) (hz:z=n) (hn:n<=2097152) (w:World):∃ cs:Array Value,cs.size=n∧(Instr.makeSlice 202 (.int .i64 z) (.int .i64 z)).run Tryz.prog w=.ok (.slice (some ⟨w.heap.size,0,none⟩) n n) (w.alloc (.cells cs 5)):=by
 subst hz
 obtain⟨i,hi,hz0,hz1,hz2⟩:=info_parts info_u8
 have h:=run_make (P:=Tryz.prog) w 202 5 i (.int .u8 0) Tryz.underlying202 hi hz0 .i64 .i64 (n:Int) (n:Int) (by omega) (Int.le_refl _) (by rw[hz2];omega) (by omega)
 refine⟨_,?_,h⟩
 rw[size_madeCells,hz1,Int.toNat_natCast]
 simp
theorem hex_at16 (d:Nat) (hd:d < 16) (h:d < (⟨#[48,49,50,51,52,53,54,55,56,57,97,98,99,100,101,102]⟩:ByteArray).size):(⟨#[48,49,50,51,52,53,54,55,56,57,97,98,99,100,101,102]⟩:ByteArray)[d]=hexD d:=by
 have:=(by decide:∀ d:Fin 16,(⟨#[48,49,50,51,52,53,54,55,56,57,97,98,99,100,101,102]⟩:ByteArray)[d.1]'(d.2)=hexD d.1) ⟨d,hd⟩
 exact this
theorem and15 (x:Nat) (hx:x < 18446744073709551616):bits .and .u64 (x:Int) 15=((x % 16:Nat):Int):=by
 have:=bits_and_u64_nat x 15 hx (by omega)
 rw[show ((15:Nat):Int)=15 from rfl] at this
 rw[this,show (15:Nat)=2 ^ 4 - 1 from rfl,Nat.and_two_pow_sub_one_eq_mod]
theorem and15_shift (N k:Nat) (hN:N < 18446744073709551616) (hk:k < 16):bits .and .u64 ((N:Int) / 2 ^ (60 - 4 * k)) 15=((N / 16 ^ (15 - k) % 16:Nat):Int):=by
 have e:((N:Int) / 2 ^ (60 - 4 * k))=((N / 16 ^ (15 - k):Nat):Int):=by
  rw[show (16:Nat)=2 ^ 4 from rfl,<-Nat.pow_mul,show 4 * (15 - k)=60 - 4 * k by omega,Int.natCast_ediv]
  simp
 rw[e,and15 _ (Nat.lt_of_le_of_lt (Nat.div_le_self _ _) hN)]
theorem wrap_u8_64 (c:UInt8):IntKind.u64.wrap (c.toNat:Int)=c.toNat:=by
 have:=c.toNat_lt
 rw[IntKind.wrap_u64]
 omega
set_option maxRecDepth 100000 in
set_option maxHeartbeats 4000000 in
theorem SumOf_any (s:ByteArray) (w:World) (hs:s.size<=9000000) :
 Calls Tryz.prog 188 #[.string s] w fun e w'=>e=.returned (S (sumT (bs s)))∧Ext w w':=by
 obtain⟨SD,hSD⟩:∃ SD:Nat,SD=14695981039346656037:=⟨_,rfl⟩
 have HR:=Hy (show sumT (bs s)=hexN 16 ((bs s).foldl fnvF SD) from by rw[hSD];rfl)
 have HSD:=Hy (show (14695981039346656037:Int)=(SD:Int)∧SD < 18446744073709551616 from by rw[hSD];exact⟨rfl,by omega⟩)
 generalize sumT (bs s)=R at *
 clear hSD
 go_enter Tryz.func188,Tryz.ntmps188
 go_wp2
 go_loop [3,4] (fun vn vi=>∃ (k:Nat) (a:Int),k<=s.size∧vi=.int .i64 k∧vn=.int .u64 a∧Hid (a=(((bs s).take k).foldl fnvF SD:Nat))) (fun _ vi=>s.size - (intOf vi).toNat)
 case atStart=>exact⟨0,_,Nat.zero_le _,rfl,rfl,Hy (by simpa using HSD.out.1)⟩
 case round =>
  obtain⟨k,a,hk,rfl,rfl,ha⟩:=hrel
  have hlt64:((bs s).take k).foldl fnvF SD < 18446744073709551616:=fnv_fold_lt _ _ HSD.out.2
  by_cases hlt:k < s.size
  ·have hst:=fnv_step (((bs s).take k).foldl fnvF SD) s[k] hlt64
   rw[<-ha.out] at hst
   have hnx:=fnv_take (bs s) SD k (by rw[bs_length];exact hlt)
   have hg:(bs s)[k]'(by rw[bs_length];exact hlt)=s[k]:=rfl
   rw[hg] at hnx
   rw[<-hnx] at hst
   obtain⟨b,hb⟩:∃ b:Int,b=(((bs s).take (k+1)).foldl fnvF SD:Nat):=⟨_,rfl⟩
   rw[<-hb] at hst
   have HB:=Hy hb
   have hw:IntKind.u64.wrap (s[k].toNat:Int)=s[k].toNat:=wrap_u8_64 _
   clear hb hnx hg ha hlt64
   go_wp2
   go_round
   case rel=>exact⟨k+1,b,by omega,by go_num,rfl,HB⟩
   case measure=>simp[intOf];omega
  ·have hkk:k=s.size:=by omega
   subst hkk
   rw[List.take_of_length_le (by rw[bs_length];exact Nat.le_refl _)] at ha hlt64
   have HA:=Hy ha
   have HL:=Hy hlt64
   generalize (bs s).foldl fnvF SD=N at *
   clear ha hlt64 hk
   obtain⟨cs,hcs,hmk⟩:=make_u8s 16 16 rfl (by omega) w
   have hx0:Ext w (w.alloc (.cells cs 5)):=(Ext.refl w).alloc _
   have hb0:=Blk.new w 5 cs
   generalize hg:w.heap.size=g at *
   have HG:=Hy hg
   generalize hW:w.alloc (.cells cs 5)=W0 at *
   clear hW hg
   go_wp2
   go_loopw [6,23] (fun _ vi wr=>∃ (k:Nat) (cr:Array Value),k<=16∧vi=.int .i64 k∧Blk wr g 5 cr∧cr.size=16∧(∀ j,j < k->cr[j]?=some (.int .u8 (hexD (N / 16 ^ (15 - j) % 16)).toNat))∧Ext w wr) (fun _ vi _=>16 - (intOf vi).toNat)
   case atStart=>exact⟨0,cs,by omega,rfl,hb0,hcs,fun j hj=>absurd hj (Nat.not_lt_zero _),hx0⟩
   case round =>
    obtain⟨k,cr,hk,rfl,hb,hsz,hall,hxr⟩:=hrel
    by_cases hlt:k < 16
    ·have hfr:=hb.free k
     have hcl:=hb.cell k
     have hw1:IntKind.i64.wrap (60 - IntKind.i64.wrap (4 * (k:Int)))=60 - 4 * (k:Int):=by rw[IntKind.wrap_i64,IntKind.wrap_i64];omega
     obtain⟨d,hd⟩:∃ d,d=N / 16 ^ (15 - k) % 16:=⟨_,rfl⟩
     have hd16:d < 16:=by rw[hd];exact Nat.mod_lt _ (by decide)
     have hbt:bits .and .u64 (a / 2 ^ (60 - 4 * k)) 15=(d:Int):=by rw[hd,HA.out.out];exact and15_shift N k HL.out hlt
     have HD:=Hy (fun h=>hex_at16 d hd16 h)
     have HXT:=Hy hd
     have HALL:=Hy hall
     clear hd hall
     go_wp2
     rw[hex_at16 d hd16]
     refine⟨⟨k+1,_,by omega,by go_num,hb.set k _,by rw[Array.size_setIfInBounds,hsz],fun j hj=>?_,hxr.setCell (by rw[<-HG.out];exact Nat.le_refl _) _⟩,by simp[intOf];omega⟩
     rcases Nat.lt_or_ge j k with h1|h1
     ·rw[Array.getElem?_setIfInBounds_ne (by omega)]
      exact HALL.out j h1
     ·obtain rfl:j=k:=by omega
      rw[Array.getElem?_setIfInBounds_self_of_lt (by omega),HXT.out]
    ·obtain rfl:k=16:=by omega
     have hcv:=conv_cells (W:=wr) (g:=g) (off:=0) (n:=16) (l:=hexN 16 N) (hexN_length _ _) (fun i hi=>by
      have hi2:i < 16:=by rw[hexN_length] at hi;exact hi
      rw[Nat.zero_add,hb.cell,hall i hi2,hexN_get]) 16
     clear hall
     go_wp2
     go_ret
     exact⟨ret_str HR.out.symm,hxr⟩
end
section
open Go.RowKit
structure GoodS (w:World):Prop extends GoodN w where
 tz:w.cell? ⟨7,15,none⟩=some (.int .u8 4)
theorem GoodS.ext {w w':World} (g:GoodS w) (h:Ext w w'):GoodS w':=⟨g.toGoodN.ext h,h.cell g.tz⟩
theorem isPow2_16 (w:World):Calls Tryz.prog 286 #[.int .i64 16] w fun e w'=>e=.returned (.bool true)∧w=w':=by
 have e1:bits .and .i64 16 15=0:=by decide
 go_enter Tryz.func286,Tryz.ntmps286
 go_wp2
 go_ret
 exact⟨rfl,rfl⟩
theorem tz64_16 (w:World) (hc:w.cell? ⟨7,15,none⟩=some (.int .u8 4)):Calls Tryz.prog 290 #[.int .u64 16] w fun e w'=>e=.returned (.int .i64 4)∧w=w':=by
 have e1:IntKind.u64.wrap (bits .and .u64 16 (IntKind.u64.wrap (-16)) * 285870213051353865) / 288230376151711744=15:=by decide +kernel
 go_enter Tryz.func290,Tryz.ntmps290
 go_wp2_with (simp only[e1])
 go_ret
 exact⟨rfl,rfl⟩
theorem tz_16 (w:World) (hc:w.cell? ⟨7,15,none⟩=some (.int .u8 4)):Calls Tryz.prog 287 #[.int .u64 16] w fun e w'=>e=.returned (.int .i64 4)∧w=w':=by
 go_enter Tryz.func287,Tryz.ntmps287
 go_wp2_with (go_at_call 290;refine (tz64_16 _ hc).mono ?_;rintro e w' ⟨rfl,rfl⟩)
 go_ret
 exact⟨rfl,rfl⟩
theorem hex_at36 (d:Nat) (hd:d < 16) (h:d < (⟨#[48,49,50,51,52,53,54,55,56,57,97,98,99,100,101,102,103,104,105,106,107,108,109,110,111,112,113,114,115,116,117,118,119,120,121,122]⟩:ByteArray).size):(⟨#[48,49,50,51,52,53,54,55,56,57,97,98,99,100,101,102,103,104,105,106,107,108,109,110,111,112,113,114,115,116,117,118,119,120,121,122]⟩:ByteArray)[d]=hexD d:=by
 have:=(by decide:∀ d:Fin 16,(⟨#[48,49,50,51,52,53,54,55,56,57,97,98,99,100,101,102,103,104,105,106,107,108,109,110,111,112,113,114,115,116,117,118,119,120,121,122]⟩:ByteArray)[d.1]'(Nat.lt_trans d.2 (by decide))=hexD d.1) ⟨d,hd⟩
 exact this
theorem slice65 (l:Nat) (z:Int) (hz:z=l) (hl:l<=64) (g:Nat) (W:World) :
 (Instr.sliceAt 299 (.pointer (some ⟨g,0,none⟩)) (some (.int .i64 z)) none none).run Tryz.prog W=.ok (.slice (some ⟨g,l,none⟩) (65 - l) (65 - l)) W:=by
 have hlen:Tryz.prog.arrayLen 299=65:=by kernel_rfl
 have hel:Tryz.prog.elem 299=5:=by kernel_rfl
 have hsz:(sizeOf 5).run Tryz.prog W=.ok 1 W:=by kernel_rfl
 have h:=run_sliceAt_array_l (P:=Tryz.prog) W 299 ⟨g,0,none⟩ (by kernel_rfl) .i64 z (by omega) (by rw[hlen];omega)
 rw[h,hel,hsz,hlen]
 subst hz
 simp only[Result.andThen,slicedAt,Int.toNat_natCast,Addr.add]
 rw[if_neg (by omega)]
 have:l * 1=l:=Nat.mul_one l
 simp[this]
 omega
theorem hex_div (n j:Nat):n / 16 ^ j / 16=n / 16 ^ (j+1):=by rw[Nat.div_div_eq_div_mul,Nat.pow_succ]
set_option maxRecDepth 100000 in
set_option maxHeartbeats 4000000 in
theorem formatBits_any (n:Nat) (w:World) (hn:n < 18446744073709551616) (hc:w.cell? ⟨7,15,none⟩=some (.int .u8 4)) :
 Calls Tryz.prog 264 #[.slice none 0 0,.int .u64 (n:Int),.int .i64 16,.bool false,.bool false] w fun e w'=>∃ k,1<=k∧k<=16∧n < 16 ^ k∧e=.returned (.tuple #[.slice none 0 0,S (hexN k n)])∧Ext w w':=by
 obtain⟨a,ha⟩:∃ a:Int,a=(n:Int):=⟨_,rfl⟩
 have HA:=Hy ha
 rw[<-ha]
 clear ha
 go_enter Tryz.func264,Tryz.ntmps264
 have hb0:=Blk.new w 299 Tryz.zeroCells299
 have hx0:Ext w (w.alloc (.cells Tryz.zeroCells299 299)):=(Ext.refl w).alloc _
 have hz0:Tryz.zeroCells299.size=65:=by kernel_rfl
 have hc0:=hx0.cell hc
 go_wp2_with fail
 refine (isPow2_16 _).mono ?_
 rintro e w' ⟨rfl,rfl⟩
 go_wp2_with fail
 refine (tz_16 _ hc0).mono ?_
 rintro e w' ⟨rfl,rfl⟩
 generalize hg:w.heap.size=g at *
 have HG:=Hy hg
 generalize hW:w.alloc (.cells Tryz.zeroCells299 299)=W0 at *
 generalize Tryz.zeroCells299=Z at *
 clear hW hg hc hc0
 have hn15:=Hy (show n / 16 ^ 15 < 16 from by rw[Nat.div_lt_iff_lt_mul (Nat.pow_pos (by decide))];omega)
 go_wp2
 go_loopw [1,13] (fun vu vi wr=>∃ (j:Nat) (u:Int) (cr:Array Value),j<=15∧vi=.int .i64 (65 - (j:Int))∧vu=.int .u64 u∧Hid (u=(n / 16 ^ j:Nat))∧Blk wr g 299 cr∧cr.size=65∧Hid (∀ t,t < j->cr[64 - t]?=some (.int .u8 (hexD (n / 16 ^ t % 16)).toNat))∧Ext w wr) (fun _ vi _=>(intOf vi).toNat)
 case atStart=>exact⟨0,a,Z,by omega,rfl,rfl,Hy (by rw[Nat.pow_zero,Nat.div_one];exact HA.out),hb0,hz0,Hy (fun t ht=>absurd ht (Nat.not_lt_zero _)),hx0⟩
 case round =>
  obtain⟨j,u,cr,hj,rfl,rfl,hu,hb,hsz,hall,hxr⟩:=hrel
  obtain⟨q,hq⟩:∃ q,q=n / 16 ^ j:=⟨_,rfl⟩
  have HQ:=Hy hq
  have hqn:q<=n:=by rw[hq];exact Nat.div_le_self _ _
  have huq:u=(q:Int):=by rw[hq];exact hu.out
  clear hu hq
  have hfr:=hb.free (65 - j - 1)
  obtain⟨cv,hcl⟩:∃ cv,wr.cell? ⟨g,65 - j - 1,none⟩=some cv:=⟨_,(hb.cell (65 - j - 1)).trans (Array.getElem?_eq_getElem (by omega))⟩
  by_cases h16:16<=q
  ·have hj15:j < 15:=by
    rcases Nat.lt_or_ge j 15 with h|h
    ·exact h
    ·obtain rfl:j=15:=by omega
     have:=hn15.out;rw[<-HQ.out] at this;omega
   obtain⟨d,hd⟩:∃ d,d=q % 16:=⟨_,rfl⟩
   have hd16:d < 16:=by rw[hd];exact Nat.mod_lt _ (by decide)
   have hbt:bits .and .u64 u 15=(d:Int):=by rw[hd,huq];exact and15 q (by omega)
   have hul:16<=u:=by omega
   obtain⟨u',hu'⟩:∃ u':Int,u'=u / 16:=⟨_,rfl⟩
   have HU:=Hy (show u'=(n / 16 ^ (j+1):Nat) from by rw[hu',huq,<-hex_div,<-HQ.out];omega)
   have hud:u / 16=u':=hu'.symm
   have HXT:=Hy hd
   clear hd huq hqn h16 hu'
   go_wp2
   rw[hex_at36 d hd16]
   refine⟨⟨j+1,u',_,by omega,by go_num,rfl,HU,hb.set (65 - j - 1) _,by rw[Array.size_setIfInBounds,hsz],Hy fun t ht=>?_,hxr.setCell (by rw[<-HG.out];exact Nat.le_refl _) _⟩,by simp[intOf];omega⟩
   rcases Nat.lt_or_ge t j with h1|h1
   ·rw[Array.getElem?_setIfInBounds_ne (by omega)]
    exact hall.out t h1
   ·obtain rfl:t=j:=by omega
    rw[show 64 - t=65 - t - 1 by omega,Array.getElem?_setIfInBounds_self_of_lt (by omega),HXT.out,HQ.out]
  ·have hq16:q < 16:=by omega
   have hul:u < 16:=by omega
   have hu0:0<=u:=by omega
   have hks:=Hy (show n < 16 ^ (j+1) from by
    have h1:n / 16 ^ j < 16:=by rw[<-HQ.out];exact hq16
    rw[Nat.div_lt_iff_lt_mul (Nat.pow_pos (by decide))] at h1
    rw[Nat.pow_succ,Nat.mul_comm];exact h1)
   have HXT:=Hy (show q=q % 16 from (Nat.mod_eq_of_lt hq16).symm)
   have hut:u.toNat=q:=by omega
   have hbS:=hb.set (65 - j - 1) (.int .u8 (hexD q).toNat)
   have HX:=Hy (show Ext w (wr.setCell ⟨g,65 - j - 1,none⟩ (.int .u8 (hexD q).toNat)) from hxr.setCell (by rw[<-HG.out];exact Nat.le_refl _) _)
   have hcv:=conv_cells (W:=wr.setCell ⟨g,65 - j - 1,none⟩ (.int .u8 (hexD q).toNat)) (g:=g) (off:=65 - j - 1) (n:=65 - (65 - j - 1)) (l:=hexN (j+1) n) (by rw[hexN_length];omega) (fun i hi=>by
    have hi2:i < j+1:=by rw[hexN_length] at hi;exact hi
    rw[hbS.cell,hexN_get]
    rcases Nat.eq_zero_or_pos i with h0|h0
    ·subst h0
     rw[Nat.add_zero,Array.getElem?_setIfInBounds_self_of_lt (by omega),show j+1 - 1 - 0=j by omega,<-HQ.out,<-HXT.out]
    ·rw[Array.getElem?_setIfInBounds_ne (by omega),show 65 - j - 1+i=64 - (j - i) by omega,hall.out (j - i) (by omega),show j+1 - 1 - i=j - i by omega]) (65 - (65 - j - 1))
   have hat:=hex_at36 q hq16
   have hsl:=slice65 (65 - j - 1) (65 - (j:Int) - 1) (by omega) (by omega) g
   clear huq
   go_wp2
   go_ret2
   exact⟨j+1,by omega,by omega,hks.out,rfl,HX.out⟩
theorem formatUintI_any (n:Nat) (w:World) (hn:n < 18446744073709551616) (hc:w.cell? ⟨7,15,none⟩=some (.int .u8 4)) :
 Calls Tryz.prog 240 #[.int .u64 (n:Int),.int .i64 16] w fun e w'=>∃ k,1<=k∧k<=16∧n < 16 ^ k∧e=.returned (S (hexN k n))∧Ext w w':=by
 have C:=Hy (formatBits_any n w hn hc)
 go_enter Tryz.func240,Tryz.ntmps240
 go_wp2_with fail
 refine C.out.mono ?_
 rintro e w1 ⟨k,h1,h2,h3,rfl,hx⟩
 go_wp2
 go_ret
 exact⟨k,h1,h2,h3,rfl,hx⟩
theorem formatUint_any (n:Nat) (w:World) (hn:n < 18446744073709551616) (hc:w.cell? ⟨7,15,none⟩=some (.int .u8 4)) :
 Calls Tryz.prog 190 #[.int .u64 (n:Int),.int .i64 16] w fun e w'=>∃ k,1<=k∧k<=16∧n < 16 ^ k∧e=.returned (S (hexN k n))∧Ext w w':=by
 have C:=Hy (formatUintI_any n w hn hc)
 go_enter Tryz.func190,Tryz.ntmps190
 go_wp2_with fail
 refine C.out.mono ?_
 rintro e w1 ⟨k,h1,h2,h3,rfl,hx⟩
 go_wp2
 go_ret
 exact⟨k,h1,h2,h3,rfl,hx⟩
end
section
open Go.RowKit
theorem repeat_nought (c:Nat) (w:World) (h:c<=16) :
 Calls Tryz.prog 191 #[.string ⟨#[48]⟩,.int .i64 (c:Int)] w fun e w'=>e=.returned (S (List.replicate c 48))∧Ext w w' :=
 (Tryz.strings_Repeat ⟨#[48]⟩ c w (by omega) (by rw[show (⟨#[48]⟩:ByteArray).size=1 from rfl];omega)).mono fun _ _ ⟨a,b⟩=>⟨by
   rw[a,show (⟨#[48]⟩:ByteArray).data.toList=List.replicate 1 48 from rfl,Lib.repeatL_replicate,Nat.mul_one],b⟩
set_option maxRecDepth 100000 in
set_option maxHeartbeats 4000000 in
theorem SumOfR_any (s:ByteArray) (w:World) (hg:GoodS w) (hs:s.size<=9000000) :
 Calls Tryz.prog 115 #[.string s] w fun e w'=>e=.returned (S (sumT (bs s)))∧Ext w w':=by
 obtain⟨SD,hSD⟩:∃ SD:Nat,SD=14695981039346656037:=⟨_,rfl⟩
 have HR:=Hy (show sumT (bs s)=hexN 16 ((bs s).foldl fnvF SD) from by rw[hSD];rfl)
 have HSD:=Hy (show (14695981039346656037:Int)=(SD:Int)∧SD < 18446744073709551616 from by rw[hSD];exact⟨rfl,by omega⟩)
 have HT:=Hy hg.tz
 generalize sumT (bs s)=R at *
 clear hSD hg
 go_enter Tryz.func115,Tryz.ntmps115
 go_wp2
 go_loop [3,8] (fun vn vi=>∃ (k:Nat) (a:Int),k<=s.size∧vi=.int .i64 k∧vn=.int .u64 a∧Hid (a=(((bs s).take k).foldl fnvF SD:Nat))) (fun _ vi=>s.size - (intOf vi).toNat)
 case atStart=>exact⟨0,_,Nat.zero_le _,rfl,rfl,Hy (by simpa using HSD.out.1)⟩
 case round =>
  obtain⟨k,a,hk,rfl,rfl,ha⟩:=hrel
  have hlt64:((bs s).take k).foldl fnvF SD < 18446744073709551616:=fnv_fold_lt _ _ HSD.out.2
  by_cases hlt:k < s.size
  ·have hst:=fnv_step (((bs s).take k).foldl fnvF SD) s[k] hlt64
   rw[<-ha.out] at hst
   have hnx:=fnv_take (bs s) SD k (by rw[bs_length];exact hlt)
   have hg:(bs s)[k]'(by rw[bs_length];exact hlt)=s[k]:=rfl
   rw[hg] at hnx
   rw[<-hnx] at hst
   obtain⟨b,hb⟩:∃ b:Int,b=(((bs s).take (k+1)).foldl fnvF SD:Nat):=⟨_,rfl⟩
   rw[<-hb] at hst
   have HB:=Hy hb
   have hw:IntKind.u64.wrap (s[k].toNat:Int)=s[k].toNat:=wrap_u8_64 _
   clear hb hnx hg ha hlt64
   go_wp2
   go_round
   case rel=>exact⟨k+1,b,by omega,by go_num,rfl,HB⟩
   case measure=>simp[intOf];omega
  ·have hkk:k=s.size:=by omega
   subst hkk
   rw[List.take_of_length_le (by rw[bs_length];exact Nat.le_refl _)] at ha hlt64
   obtain rfl:=ha.out
   have HL:=Hy hlt64
   generalize (bs s).foldl fnvF SD=N at *
   have CF:=Hy (fun W (h:Ext w W)=>formatUint_any N W HL.out (h.cell HT.out))
   clear ha hlt64 hk
   go_wp2_with fail
   refine (CF.out _ (Ext.refl _)).mono ?_
   rintro e w1 ⟨m,hm1,hm2,hm3,rfl,hx1⟩
   obtain⟨X,hXS,hXb,hXz⟩:∃ X:ByteArray,S (hexN m N)=.string X∧bs X=hexN m N∧X.size=m:=⟨⟨(hexN m N).toArray⟩,rfl,bs_mk _,by rw[<-bs_length,bs_mk,hexN_length]⟩
   have HP:=Hy (show R=List.replicate (16 - m) 48++bs X from by rw[HR.out,hXb,hex_pad m N hm2 hm3])
   have CR:=Hy (fun W=>repeat_nought (16 - m) W (by omega))
   rw[show ((16 - m:Nat):Int)=16 - (X.size:Int) by omega] at CR
   have hz1:X.size<=16:=by omega
   rw[hXS]
   clear hXS hXb hXz
   obtain⟨Y,hY⟩:∃ Y:ByteArray,Y=⟨(List.replicate (16 - m) 48).toArray⟩:=⟨_,rfl⟩
   rw[show S (List.replicate (16 - m) 48)=.string Y from by rw[hY]] at CR
   have HY:=Hy (show bs Y=List.replicate (16 - m) 48 from by rw[hY,bs_mk])
   have hYz:Y.size<=16:=by rw[<-bs_length,HY.out,List.length_replicate];omega
   clear hY
   go_wp2_with fail
   refine (CR.out _).mono ?_
   rintro e w2 ⟨rfl,hx2⟩
   go_wp2
   go_ret
   exact⟨ret_strS (by rw[bs_append,HY.out,HP.out]),hx1.trans hx2⟩
end
section
open Go.RowKit
theorem lower_hex (d:Nat) (h0:10<=d) (h1:d < 16) (w:World):Calls Tryz.prog 238 #[.int .u8 (87+(d:Int))] w fun e w'=>e=.returned (.int .u8 (87+(d:Int)))∧w=w':=by
 have e1:bits .or .u8 (87+(d:Int)) 32=87+(d:Int):=by
  have:∀ d:Fin 16,10<=d.1->bits .or .u8 (87+(d.1:Int)) 32=87+(d.1:Int):=by decide +kernel
  exact this ⟨d,h1⟩ h0
 go_enter Tryz.func238,Tryz.ntmps238
 go_wp2
 go_ret
 exact⟨rfl,rfl⟩
theorem hex_acc (m k:Nat) (hk:k < 8):m / 16 ^ (8 - (k+1))=m / 16 ^ (8 - k) * 16+m / 16 ^ (7 - k) % 16:=by
 rw[show 8 - (k+1)=7 - k by omega,show 8 - k=(7 - k)+1 by omega,Nat.pow_succ,<-Nat.div_div_eq_div_mul]
 omega
set_option maxRecDepth 100000 in
set_option maxHeartbeats 8000000 in
theorem parseUintI_any (t:ByteArray) (m:Nat) (hm:m < 4294967296) (ht:bs t=hexN 8 m) (w:World) :
 Calls Tryz.prog 189 #[.string t,.int .i64 16,.int .i64 64] w fun e w'=>e=.returned (.tuple #[.int .u64 (m:Int),.nilIface])∧Ext w w':=by
 have hsz:t.size=8:=by rw[<-bs_length,ht,hexN_length]
 have hemp:=nemp_bool (show 0 < t.size by omega)
 have hcv:=Lib.run_convert_string_bytes (P:=Tryz.prog) w 9 202 5 t Tryz.underlying9 Tryz.underlying202 Tryz.underlying5
 have hB:=Hy (fun j (hj:j < 8)=>show (Lib.bytesWorld w 5 t).cell? ⟨w.heap.size,j,none⟩=some (.int .u8 (hexD (m / 16 ^ (7 - j) % 16)).toNat) from by
  have h1:=Lib.bytesWorld_cell w 5 t j (by omega)
  rw[h1]
  have h2:t.data.toList.getD j 0=(hexN 8 m)[j]'(by rw[hexN_length];exact hj):=by
   rw[show t.data.toList=hexN 8 m from ht]
   simp[List.getD,List.getElem?_eq_getElem (show j < (hexN 8 m).length by rw[hexN_length];exact hj)]
  rw[h2,hexN_get])
 have hx0:Ext w (Lib.bytesWorld w 5 t):=(Ext.refl w).bytesWorld _ _
 rw[hsz] at hcv
 generalize grownCap w 8 0 5=gc at *
 generalize Lib.bytesWorld w 5 t=W0 at *
 generalize w.heap.size=g at *
 have hmv:IntKind.u64.wrap (IntKind.u64.wrap 18446744073709551616 - 1)=18446744073709551615:=by
  rw[IntKind.wrap_u64,IntKind.wrap_u64]
  decide
 have HM:=Hy hm
 clear ht hm
 go_enter Tryz.func189,Tryz.ntmps189
 go_wp2
 go_loop [12,13,101] (fun vu vn vi=>∃ (k:Nat) (a:Int),vu=.bool false∧vn=.int .u64 a∧vi=.int .i64 k∧k<=8∧Hid (a=(m / 16 ^ (8 - k):Nat)))
  (fun _ _ vi=>8 - (intOf vi).toNat)
 case atStart=>exact⟨0,0,rfl,rfl,rfl,by omega,Hy (by have:=HM.out;simp;omega)⟩
 case round =>
  obtain⟨k,a,rfl,rfl,rfl,hk,hh⟩:=hrel
  by_cases hlt:k < 8
  ·have hc:=hB.out k hlt
   have hnx:=hex_acc m k hlt
   obtain⟨d,hd⟩:∃ d,d=m / 16 ^ (7 - k) % 16:=⟨_,rfl⟩
   have hd16:d < 16:=by rw[hd];exact Nat.mod_lt _ (by decide)
   rw[<-hd] at hc hnx
   rw[hexD_num d hd16] at hc
   have HN:=Hy (show a * 16+(d:Int)=(m / 16 ^ (8 - (k+1)):Nat) from by rw[hnx,hh.out];omega)
   have hab:a * 16+(d:Int)<=4294967295:=by
    have h1:m / 16 ^ (8 - (k+1))<=m:=Nat.div_le_self _ _
    have h2:=HM.out
    have h3:=HN.out
    omega
   have ha0:0<=a:=by rw[hh.out];omega
   clear hd hnx hh
   by_cases h10:d < 10
   ·rw[if_pos h10] at hc
    obtain⟨c,hcc⟩:∃ c:Int,c=48+(d:Int):=⟨_,rfl⟩
    have hc2:W0.cell? ⟨g,k,none⟩=some (.int .u8 c):=by rw[hc,hcc];rfl
    have i1:48<=c:=by omega
    have i2:c<=57:=by omega
    have i3:c - 48=(d:Int):=by omega
    clear hc hcc hB
    go_wp2
    go_round
    case rel=>exact⟨k+1,_,rfl,rfl,by go_num,by omega,HN⟩
    case measure=>simp[intOf];omega
   ·rw[if_neg h10] at hc
    have hc2:W0.cell? ⟨g,k,none⟩=some (.int .u8 (87+(d:Int))):=by rw[hc];simp
    have i1:10<=d:=by omega
    clear hc hB h10
    go_wp2_with (go_at_call 238;refine (lower_hex d i1 hd16 _).mono ?_;rintro e w' ⟨rfl,rfl⟩)
    go_round
    case rel=>exact⟨k+1,_,rfl,rfl,by go_num,by omega,Hy (by have:=HN.out;omega)⟩
    case measure=>simp[intOf];omega
  ·obtain rfl:k=8:=by omega
   obtain rfl:a=(m:Int):=by rw[hh.out,Nat.sub_self,Nat.pow_zero,Nat.div_one]
   clear hh
   go_wp2
   go_ret2
   exact⟨rfl,hx0⟩
theorem parseUint_any (t:ByteArray) (m:Nat) (hm:m < 4294967296) (ht:bs t=hexN 8 m) (w:World) :
 Calls Tryz.prog 114 #[.string t,.int .i64 16,.int .i64 64] w fun e w'=>e=.returned (.tuple #[.int .u64 (m:Int),.nilIface])∧Ext w w':=by
 have C:=Hy (parseUintI_any t m hm ht w)
 go_enter Tryz.func114,Tryz.ntmps114
 go_wp2_with fail
 refine C.out.mono ?_
 rintro e w1 ⟨rfl,hx⟩
 go_wp2
 go_ret2
 exact⟨rfl,hx⟩
end
section
open Go.RowKit
def findF (n:Nat) (p:Nat->Bool):Int:=match (List.range n).find? p with|some k=>(k:Int)|none=>-1
def anyF (n:Nat) (p:Nat->Bool):Bool:=(List.range n).any p
theorem findF_at {n k:Nat} {p:Nat->Bool} (hk:k < n) (h0:∀ j,j < k->p j=false) (h:p k=true):findF n p=k:=by
 have e:(List.range n).find? p=some k:=by
  rw[List.find?_eq_some_iff_append]
  refine⟨h,List.range k,(List.range (n - k - 1)).map fun i=>k+(i+1),?_,fun a ha=>by rw[h0 a (List.mem_range.1 ha)];rfl⟩
  have e1:n=k+((n - k - 1)+1):=by omega
  rw[e1,List.range_add,List.range_succ_eq_map]
  simp[Function.comp_def]
 unfold findF;rw[e]
theorem findF_none {n:Nat} {p:Nat->Bool} (h0:∀ j,j < n->p j=false):findF n p=-1:=by
 have e:(List.range n).find? p=none:=by
  rw[List.find?_eq_none]
  exact fun a ha=>by rw[h0 a (List.mem_range.1 ha)];decide
 unfold findF;rw[e]
theorem findF_any (n:Nat) (p:Nat->Bool):decide ((0:Int)<=findF n p)=anyF n p:=by
 unfold findF anyF
 cases h:(List.range n).find? p with
 | none =>
   rw[List.find?_eq_none] at h
   rw[decide_eq_false (by decide),Eq.comm,List.any_eq_false]
   exact h
 | some k =>
   have h1:=List.find?_some h
   have h2:=List.mem_of_find?_eq_some h
   rw[decide_eq_true (show (0:Int)<=(k:Int) by omega),Eq.comm,List.any_eq_true]
   exact⟨k,h2,h1⟩
theorem allF_next {p:Nat->Bool} {k:Nat} (h0:∀ j,j < k->p j=false) (h:p k=false):∀ j,j < k+1->p j=false:=fun j hj=>by
 rcases Nat.lt_or_ge j k with h1|h1
 ·exact h0 j h1
 ·obtain rfl:j=k:=by omega
  exact h
theorem any_allF {α:Type} (l:List α) (p:α->Bool) (z:α):anyF l.length (fun j=>p (l.getD j z))=l.any p:=by
 unfold anyF
 rw[Bool.eq_iff_iff,List.any_eq_true,List.any_eq_true]
 constructor
 ·rintro ⟨j,hj,h⟩
  have hj:=List.mem_range.1 hj
  exact⟨l[j],List.getElem_mem hj,by simpa [List.getD,List.getElem?_eq_getElem hj] using h⟩
 ·rintro ⟨m,hm,h⟩
  obtain⟨j,hj,rfl⟩:=List.mem_iff_getElem.1 hm
  exact⟨j,List.mem_range.2 hj,by simpa [List.getD,List.getElem?_eq_getElem hj] using h⟩
def RdF (w:World) (A:Option Addr) (v:List ByteArray):Prop:=v≠[]->∃ b o,A=some ⟨b,o,none⟩∧∀ k (h:k < v.length),w.cell? ⟨b,o+k,none⟩=some (.string v[k])
theorem RdF.ext {w w':World} {A:Option Addr} {v:List ByteArray} (h:RdF w A v) (hx:Ext w w'):RdF w' A v:=fun hn=>by
 obtain⟨b,o,e,k⟩:=h hn
 exact⟨b,o,e,fun i hi=>hx.cell (k i hi)⟩
end
end Go.Proofs.YtmnafaaijglnfaaGreatDoor
namespace Go.Proofs.YtmnafaaijglnfaaGreatDoor.listed
open Go.ChangeShapes Go.WideShapes Go.ChangeAt Go.RowKit Go.WideElems Go.Joins
abbrev bruZ:List Int:=[0,1,56,2,57,49,28,3,61,58,42,50,38,29,17,4,62,47,59,36,45,43,51,22,53,39,33,30,24,18,12,5,63,55,48,27,60,41,37,16,46,35,44,21,52,32,23,11,54,26,40,15,34,20,31,10,25,14,19,9,13,8,7,6]
theorem goodS {W:World} (hL:laidMetH Tryz.prog Rows.versionsMatchUptoRow.laid W) (hS:W.ShapedOpen Tryz.prog):GoodS W:=by
 have hL':laidMet Tryz.prog Rows.versionsMatchUptoRow.laid W:=hL
 have h4:laidMet Tryz.prog [("math/bits.deBruijn64tab",Rows.laid_math_bits_deBruijn64tab)] W:=hL'.filter (fun x=>x.1=="math/bits.deBruijn64tab")
 have ht:Lib.TabIs Tryz.prog W "math/bits.deBruijn64tab" .u8 bruZ:=Lib.tabIs_of_head (rest:=[]) (g:=7) (by kernel_rfl) (by kernel_rfl) Tryz.underlying311 Tryz.underlying5 (by kernel_rfl) (by kernel_rfl) h4
 exact⟨good hL hS,ht.cell (by kernel_rfl) 15 (by decide)⟩
end Go.Proofs.YtmnafaaijglnfaaGreatDoor.listed
namespace Go.Proofs.YtmnafaaijglnfaaGreatDoor
open Go.RowKit
section
variable {P:Program}
theorem run_store_blk {w:World} (t:TypeId) {g:Nat} {e:TypeId} {cur:Array Value} {v:Value} (hb:Blk w g e cur) (hs:cur.size=v.cells.size) (hsz:(P.info? t).map (·.size)=some v.cells.size) (h1:∀ u∈v.cells.toList,u.oneCell'=true) :
 (storeVar t ⟨g,0,none⟩ v).run P w=.ok () (w.setRow g v.cells):=by
 have h:=run_storeCells_at P g 0 e v.cells.toList 0 cur w hb (by simp[hs]) h1
 have hl:cur.toList.drop (0+0+v.cells.toList.length)=[]:=List.drop_eq_nil_of_le (by simp[hs])
 rw[hl] at h
 cases hq:P.info? t with
 | none=>simp[hq] at hsz
 | some i =>
   have hi:i.size=v.cells.size:=by simpa [hq] using hsz
   unfold storeVar
   simp[sizeOf,typeInfo,hq,hi]
   simpa using h
theorem wpList_store_at {ops:Array Oper} {rest:List Oper} {o:Oper} {a:Act} {w:World} {Q:Exit->Act->World->Prop} (hgd:o.guard=none) (ty:TypeId) (x y:Operand) (ho:o.op=.store ty x y)
 (p:Addr) (hx:a.eval x=.pointer (some p)) (v:Value) (hy:a.eval y=v) (w':World) (hl:(storeVar ty p v).run P w=.ok () w') (h:wpList P ops Q rest (a.put o.dst undef) w'):wpList P ops Q (o::rest) a w :=
 wpList_plain hgd fun K hK=>by
  unfold Oper.wp execOp
  simp only[ho,hx,hy,Instr.storeAt,Instr.sureAddr,Sem.run_bind,Sem.run_pure,Result.andThen_ok,hl]
  exact hK _ _ h
end
end Go.Proofs.YtmnafaaijglnfaaGreatDoor
namespace Go.Proofs.YtmnafaaijglnfaaGreatDoor.offersMatch
open Go.ChangeShapes Go.WideShapes Go.ChangeAt Go.RowKit Go.WideElems Go.Joins
open Go.ChangeMaps (open_string shut_string)
theorem plain (f:FuncId) (fn:Func) (hf:Tryz.prog.funcNamed "outfitter/outlaw2.OffersMatch"=some f) (hfn:Tryz.prog.funcs[f]?=some fn) :
 true=Tryz.prog.looks []∧∀ (j:Nat) t,fn.params[j]?=some t->Tryz.prog.wantsStandIn t=false:=by
 obtain rfl:f=9:=Option.some.inj ((show Tryz.prog.funcNamed "outfitter/outlaw2.OffersMatch"=some 9 by kernel_rfl).symm.trans hf) |>.symm
 obtain rfl:fn=Tryz.f9:=(Option.some.inj (Tryz.func9.symm.trans hfn)).symm
 refine⟨by kernel_rfl,fun j t ht=>?_⟩
 rw[Tryz.params9] at ht
 have hm:t∈[59,96,9,3,3]:=by simpa using Array.mem_of_getElem? ht
 have hall:([59,96,9,3,3].all fun u=>!Tryz.prog.wantsStandIn u)=true:=by kernel_rfl
 simpa using List.all_eq_true.1 hall t hm
theorem wf:Rows.offersMatchUptoRow.wfByText (Rows.OpenSpec.upto Rows.offersMatchSpec)=true:=by kernel_rfl
end Go.Proofs.YtmnafaaijglnfaaGreatDoor.offersMatch
