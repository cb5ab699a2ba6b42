/- Plain laws on strings as lists of bytes: cutting at one byte. What all walks of this seat share: a world that has only grown ('Ext'), the package variables as the row lists them ('Good', 'GoodN'), endings. Contracts of the byte predicates of package ver. Contracts of ver.IsName, isPart, IsValue, isNumeral, outside; outref2.In, When, First. Contracts of outref2.First, cmp.Or[int]: the first of several numbers that is not 0. The library's contracts in this claim's words: a world that has only grown, texts as lists of bytes. Contracts of ver.IsPath, isEarly, Check. Contracts of ver.text. Contracts of ver.Check, Print. A region that draws its order: a quiet beginning in a class of worlds, then a tail in one forced order. Plain laws: decimal numbers and their texts; the order of words. Plain laws: the order of words of early versions, and of versions. Contracts of ver.compareWords, compareEarly, Order, Compare. Contracts of cmp.Or[int], ver.Order, Compare. Contracts of ver.Next, number. Contracts of ver.number, Parse. Contract of ver.Parse. Contracts of outref2: inner, Of, NameOf, PathOf, ValueOf. What the proofs of all rows of this seat share: the package variables out of the row's list, arguments that stay as they were, the row's last step behind a world that has only grown. append of one element onto a slice of the call's own, in a world that grows; strings.Join over such a slice. Contract of ver.PrintRange. What the rows of this seat share that list the library's tables and errors: their variables at the start, and a world for the witness. Arguments opened: what a reading of cells at a type says of memory, and of the reading's bulk. One law a kind of type: numbers, texts, structs of one field, slices. Plain law: rules, their errors, their texts, and what reads them; the reference's reading is the program's. Plain law: a text in quotes, by two replacements of one byte each; its length; what a loop over it has written. Reading a text in quotes, byte by byte; contract of outref2.quotedAt. Contracts of ver.quotedAt, ver.isBlank, ver.kindOf. The condition reader of the program in memory: its state; 'is', 'fail'. The condition reader of the program: 'advance'. The condition reader of the program: 'take'. A world of which some blocks alone were written. Intervals of places, strictly apart: what two lists have in common, a scan that finds the intervals again. Plain words. A struct that is loaded at one step: in a walk, and in a region that draws. append of a whole slice, which may be nil, onto a slice of the call's own. A region that draws its order, walked by an invariant over what has come up: each operation once, no branching over orders. -/
import Derived.Lib.Split
import Derived.Lib.IndexBytes
import Derived.Lib.ItoaLen
import Derived.Test.YtmpccllnpcbgcaaGreatDoorProg
import Derived.WalkKit
import Derived.WalkSpells
import Derived.WalkLawsBesides
import Derived.LoopTactic
import Derived.Outline
import Derived.Lib.Hide
import Derived.Lib.LaidTab
import Derived.Lib.ConvBytes
import Derived.Lib.ItoaNum
import Derived.WalkSmall
import Derived.Sort.Grow
import Derived.Deep.QuietTactic
import Derived.BigQuiet
import Derived.Test.YtmpccllnpcbgcaaGreatDoorShelf
import Derived.StillTail
import Derived.Lib.AtoiAll
import Derived.Lib.Small
import Derived.Lib.Bytealg
import Derived.Test.YtmpccllnpcbgcaaGreatDoorCards
import Derived.Test.YtmpccllnpcbgcaaGreatDoorTie
import Derived.ProofKit
import Derived.OpenShut
import Derived.Deep.DeepHandedRow
import Derived.Deep.DeepWitnessRowRef
import Derived.Lib.LaidIn
import Derived.Lib.SmallJoins
import Derived.Stop.LaidErr
import Derived.LaidSub
import Derived.SizedLaws
import Derived.Laws.AppendOwn
import Derived.Laws.OwnMore
import Derived.Maps.AppendAt
import Derived.OwnWalk
import Derived.Lib.Join
import Derived.Deep.LoopGhost
import Derived.Laws.StructEq
import Derived.Deep.Slices
import Derived.Lib.Replace
import Derived.Lib.SplitLaws
import Derived.Laws.Cells
import Derived.OrdersHeld
import Derived.RegionTactic
namespace Go.Proofs.YtmpccllnpcbgcaaGreatDoor
section
abbrev Str:=List UInt8
abbrev bs (s:ByteArray):Str:=s.data.toList
abbrev S (l:Str):Value:=.string ⟨l.toArray⟩
def splitC (c:UInt8):Str->List Str
 | []=>[[]]
 | x::r=>if x=c then []::splitC c r else (match splitC c r with|[]=>[[x]]|p::q=>(x::p)::q)
theorem splitC_ne (c:UInt8) (l:Str):splitC c l≠[]:=by
 cases l with
 | nil=>simp[splitC]
 | cons x r =>
   simp only[splitC]
   split
   ·simp
   ·split<;>simp
theorem indexByte_none (c:UInt8):∀ l:Str,c ∉ l->Lib.indexByte l c=-1
 | [],_=>rfl
 | b::l,h=>by
   have h1:¬ b=c:=fun e=>h (by simp[e])
   have h2:=indexByte_none c l (fun e=>h (by simp[e]))
   simp[Lib.indexByte,h1,h2]
theorem indexByte_app (c:UInt8) (r:Str):∀ a:Str,c ∉ a->Lib.indexByte (a++c::r) c=a.length
 | [],_=>by simp[Lib.indexByte]
 | b::l,h=>by
   have h1:¬ b=c:=fun e=>h (by simp[e])
   have h2:=indexByte_app c r l (fun e=>h (by simp[e]))
   have h3:¬ ((l.length:Int)=-1):=by omega
   simp[Lib.indexByte,h1,h2,h3]
theorem index_none (c:UInt8) (l:Str) (h:c ∉ l):Lib.index l [c]=-1:=by rw[Lib.index_one,indexByte_none c l h]
theorem index_app (c:UInt8) (a r:Str) (h:c ∉ a):Lib.index (a++c::r) [c]=a.length:=by rw[Lib.index_one,indexByte_app c r a h]
theorem first_cut (c:UInt8):∀ l:Str,c ∉ l∨∃ a r,c ∉ a∧l=a++c::r
 | []=>.inl (by simp)
 | x::l=>by
   by_cases hx:x=c
   ·exact .inr ⟨[],l,by simp,by simp[hx]⟩
   ·rcases first_cut c l with h|⟨a,r,ha,rfl⟩
    ·exact .inl (by simp[h,Ne.symm hx])
    ·exact .inr ⟨x::a,r,by simp[ha,Ne.symm hx],by simp⟩
theorem splitC_none (c:UInt8):∀ l:Str,c ∉ l->splitC c l=[l]
 | [],_=>rfl
 | x::l,h=>by
   have h1:¬ x=c:=fun e=>h (by simp[e])
   simp[splitC,h1,splitC_none c l (fun e=>h (by simp[e]))]
theorem splitC_app (c:UInt8) (r:Str):∀ a:Str,c ∉ a->splitC c (a++c::r)=a::splitC c r
 | [],_=>by simp[splitC]
 | x::a,h=>by
   have h1:¬ x=c:=fun e=>h (by simp[e])
   simp[splitC,h1,splitC_app c r a (fun e=>h (by simp[e]))]
theorem count_one_none (c:UInt8) (l:Str) (h:c ∉ l):Lib.count l [c]=0:=Lib.count_miss (index_none c l h)
theorem count_one_app (c:UInt8) (a r:Str) (h:c ∉ a):Lib.count (a++c::r) [c]=1+Lib.count r [c]:=by
 rw[Lib.count_hit (by simp) (index_app c a r h)]
 congr 2
 rw[<-List.drop_drop]
 simp
theorem splitK_one (c:UInt8):∀ (n:Nat) (l:Str),l.length<=n->Lib.splitK [c] 0 (Lib.count l [c]) l=splitC c l:=by
 intro n
 induction n with
 | zero =>
   intro l hl
   have:l=[]:=List.eq_nil_of_length_eq_zero (by omega)
   subst this
   rw[count_one_none c [] (by simp),splitC_none c [] (by simp)]
   rfl
 | succ n ih =>
   intro l hl
   rcases first_cut c l with h|⟨a,r,ha,rfl⟩
   ·rw[count_one_none c l h,splitC_none c l h]
    rfl
   ·rw[count_one_app c a r ha,splitC_app c r a ha,Nat.add_comm,Lib.splitK]
    rw[index_app c a r ha]
    have h3:¬ (((a.length:Int))==-1)=true:=by rw[beq_iff_eq];omega
    rw[if_neg h3]
    congr 1
    ·simp
    ·rw[Int.toNat_natCast,<-List.drop_drop]
     simp only[List.drop_left',List.length_cons,List.length_nil,Nat.zero_add,List.drop_succ_cons,List.drop_zero]
     exact ih r (by simp at hl;omega)
theorem splitC_count (c:UInt8):∀ (n:Nat) (l:Str),l.length<=n->(splitC c l).length=Lib.count l [c]+1:=by
 intro n
 induction n with
 | zero =>
   intro l hl
   have:l=[]:=List.eq_nil_of_length_eq_zero (by omega)
   subst this
   rw[count_one_none c [] (by simp)]
   rfl
 | succ n ih =>
   intro l hl
   rcases first_cut c l with h|⟨a,r,ha,rfl⟩
   ·rw[count_one_none c l h,splitC_none c l h]
    rfl
   ·rw[count_one_app c a r ha,splitC_app c r a ha,List.length_cons,ih r (by simp at hl;omega)]
    omega
theorem splitB_one (c:UInt8) (s:ByteArray):(Lib.splitB ⟨#[c]⟩ 0 (Lib.countB s ⟨#[c]⟩) s).map (·.data.toList)=splitC c (bs s):=by
 rw[Lib.splitB_data]
 exact splitK_one c _ _ (Nat.le_refl _)
def cutC (c:UInt8) (l:Str):Str × Str × Bool:=(l.takeWhile (· != c),(l.dropWhile (· != c)).drop 1,l.contains c)
theorem while_all (p:UInt8->Bool):∀ l:Str,(∀ x∈l,p x=true)->l.takeWhile p=l∧l.dropWhile p=[]
 | [],_=>⟨rfl,rfl⟩
 | x::l,h=>by
   have hx:=h x (by simp)
   obtain⟨h1,h2⟩:=while_all p l (fun y hy=>h y (by simp[hy]))
   simp[hx,h1,h2]
theorem cutC_none (c:UInt8) (l:Str) (h:c ∉ l):cutC c l=(l,[],false):=by
 unfold cutC
 have h1:∀ x∈l,(x != c)=true:=fun x hx=>by
  rw[bne_iff_ne];rintro rfl;exact h hx
 rw[(while_all _ l h1).1,(while_all _ l h1).2]
 simp[h]
theorem cutC_app (c:UInt8) (a r:Str) (h:c ∉ a):cutC c (a++c::r)=(a,r,true):=by
 unfold cutC
 have h1:∀ x∈a,(x != c)=true:=fun x hx=>by
  rw[bne_iff_ne];rintro rfl;exact h hx
 rw[List.takeWhile_append_of_pos h1,List.dropWhile_append_of_pos h1]
 simp
theorem cut_one (c:UInt8) (l:Str):Lib.cut l [c]=cutC c l:=by
 unfold Lib.cut
 rcases first_cut c l with h|⟨a,r,ha,rfl⟩
 ·rw[index_none c l h,cutC_none c l h]
  rfl
 ·rw[index_app c a r ha,cutC_app c a r ha]
  rw[if_pos (by omega)]
  simp only[Int.toNat_natCast,List.length_cons,List.length_nil]
  rw[<-List.drop_drop]
  simp
theorem splitC_length (c:UInt8) (s:ByteArray):(Lib.splitB ⟨#[c]⟩ 0 (Lib.countB s ⟨#[c]⟩) s).length=(splitC c (bs s)).length:=by
 rw[<-splitB_one];simp
theorem bs_append (x y:ByteArray):bs (x++y)=bs x++bs y:=by simp[bs]
end
section
open Go.RowKit
def Ext (w w':World):Prop:=Below w.heap.size w w'
namespace Ext
variable {a b c w w':World}
theorem refl (w:World):Ext w w:=Below.refl _ _
theorem size (h:Ext a b):a.heap.size<=b.heap.size:=Below.size h
theorem trans (h:Ext a b) (k:Ext b c):Ext a c:=Below.trans h (Below.mono k h.size)
theorem alloc (h:Ext a w) (o:Obj):Ext a (w.alloc o):=Below.alloc h h.size o
theorem drew (h:Ext a w):Ext a w.drew:=Below.drew h
theorem drewN (h:Ext a w) (n:Nat):Ext a (w.drewN n):=⟨h.os,h.tape,h.output,h.size,h.block⟩
theorem setCell (h:Ext a w) {p:Addr} (hp:a.heap.size<=p.block) (u:Value):Ext a (w.setCell p u):=Below.setCell h hp u
theorem grow (h:Ext a w) (os:Array Obj):Ext a (Sort.grow w os) :=
 h.trans ⟨rfl,rfl,rfl,by simp[Sort.grow],fun k hk=>by simp[Sort.grow,Array.getElem?_append,hk]⟩
theorem freeze (h:Ext a w) {p:Addr} (hp:a.heap.size<=p.block) (n:Nat):Ext a (w.freeze p n):=by
 refine Below.trans h ?_
 unfold World.freeze
 split
 ·exact Below.refl _ _
 ·exact⟨rfl,rfl,rfl,by simp,fun k hk=>by simp only[Array.getElem?_modify];rw[if_neg (by omega)]⟩
theorem bytesWorld (h:Ext a w) (t:TypeId) (s:ByteArray):Ext a (Lib.bytesWorld w t s):=freeze (alloc (drew h) _) h.size _
theorem cells (h:Ext a b):(∀ k o,k < a.heap.size->b.cell? ⟨k,o,none⟩=a.cell? ⟨k,o,none⟩)∧(∀ k o,k < a.heap.size->b.frozen? ⟨k,o,none⟩=a.frozen? ⟨k,o,none⟩) :=
 ⟨fun k o hk=>Below.cell (p:=⟨k,o,none⟩) h hk,fun k o hk=>Below.frozen (p:=⟨k,o,none⟩) h hk⟩
theorem below (h:Ext a b):Below a.heap.size a b:=h
end Ext
theorem lt_of_cell {w:World} {k o:Nat} {v:Value} (h:w.cell? ⟨k,o,none⟩=some v):k < w.heap.size:=by
 unfold World.cell? at h
 rcases Nat.lt_or_ge k w.heap.size with hlt|hge
 ·exact hlt
 ·rw[Array.getElem?_eq_none hge] at h;cases h
theorem Ext.cell {a b:World} (h:Ext a b) {k o:Nat} {v:Value} (hc:a.cell? ⟨k,o,none⟩=some v):b.cell? ⟨k,o,none⟩=some v:=(h.cells.1 k o (lt_of_cell hc)).trans hc
theorem Ext.var {a b:World} (h:Ext a b) {n:String} {cs:Array Value} (hv:a.var? Tryz.prog n=some cs):b.var? Tryz.prog n=some cs:=by
 unfold World.var? at hv ⊢
 cases hg:Tryz.prog.globalNamed n with
 | none=>rw[hg] at hv;cases hv
 | some g =>
   rw[hg] at hv
   simp only[Option.bind_some] at hv ⊢
   rcases Nat.lt_or_ge g a.heap.size with hlt|hge
   ·rw[Below.block h g hlt];exact hv
   ·rw[Array.getElem?_eq_none hge] at hv;cases hv
def Blk (w:World) (g:Nat) (t:TypeId) (cs:Array Value):Prop:=w.heap[g]?=some (.cells cs t (0,0))
namespace Blk
variable {w w':World} {g:Nat} {t:TypeId} {cs:Array Value}
theorem lt (h:Blk w g t cs):g < w.heap.size:=by
 rcases Nat.lt_or_ge g w.heap.size with hlt|hge
 ·exact hlt
 ·unfold Blk at h;rw[Array.getElem?_eq_none hge] at h;cases h
theorem cell (h:Blk w g t cs) (i:Nat):w.cell? ⟨g,i,none⟩=cs[i]?:=cell_of_row w g i cs t (0,0) h
theorem free (h:Blk w g t cs) (i:Nat):w.frozen? ⟨g,i,none⟩=false:=by
 unfold Blk at h
 simp[World.frozen?,h]
theorem new (w:World) (t:TypeId) (cs:Array Value):Blk (w.alloc (.cells cs t)) w.heap.size t cs:=heap_alloc_new w _
theorem ext (h:Blk w g t cs) (hx:Ext w w'):Blk w' g t cs:=(Below.block hx g h.lt).trans h
theorem alloc (h:Blk w g t cs) (o:Obj):Blk (w.alloc o) g t cs:=h.ext ((Ext.refl w).alloc o)
theorem set (h:Blk w g t cs) (i:Nat) (u:Value):Blk (w.setCell ⟨g,i,none⟩ u) g t (cs.setIfInBounds i u):=by
 unfold Blk at h ⊢
 simp[World.setCell,Array.getElem?_modify,h]
theorem far (h:Blk w g t cs) {p:Addr} (hp:g≠p.block) (u:Value):Blk (w.setCell p u) g t cs:=(Below.heap_setCell w p u g hp).trans h
end Blk
theorem wp_region_ext {P:Program} {id:Nat} {Q:Exit->Act->World->Prop} {a:Act} {w:World} {l:List Oper} (hm:P.follows .mixedOrders=true) (hB:Region.lexB .any l.toArray=true)
 (h:wpQuiet P l.toArray (Ext w) (fun a'=>∀ w',Ext w w'->Q .normal a' w') l a):(Code.region id l.toArray true).wp P Q a w :=
 wp_region_quiet (C:=Ext w) hm hB ((Ext.refl w).drewN 1) (by simpa using h)
structure Good (w:World):Prop where
 maxLen:∃ m,w.cell? ⟨0,0,none⟩=some (.int .i64 m)
theorem Good.ext {w w':World} (g:Good w) (h:Ext w w'):Good w':=⟨let ⟨m,hm⟩:=g.maxLen;⟨m,h.cell hm⟩⟩
structure GoodN (w:World):Prop extends Good w where
 pow10:Lib.TabIs Tryz.prog w "internal/strconv.uint64pow10" .u64 Lib.pow10Tab
 errS:∃ tp p,w.var? Tryz.prog "strconv.ErrSyntax"=some #[.iface tp p]
 errR:∃ tp p,w.var? Tryz.prog "strconv.ErrRange"=some #[.iface tp p]
theorem GoodN.ext {w w':World} (g:GoodN w) (h:Ext w w'):GoodN w' :=
 ⟨g.toGood.ext h,h.var g.pow10,let ⟨t,p,e⟩:=g.errS;⟨t,p,h.var e⟩,let ⟨t,p,e⟩:=g.errR;⟨t,p,h.var e⟩⟩
theorem ret_bool {a b:Bool} (h:a=b):Ending.returned (.bool a)=.returned (.bool b):=by rw[h]
theorem ret_int {k:IntKind} {a b:Int} (h:a=b):Ending.returned (.int k a)=.returned (.int k b):=by rw[h]
theorem toList_length (s:ByteArray):s.toList.length=s.size:=by rw[ByteArray.toList_eq,Array.length_toList];rfl
theorem bs_length (s:ByteArray):(bs s).length=s.size:=by rw[<-toList_length,ByteArray.toList_eq]
theorem size_zero {s:ByteArray} (h:s.toList=[]):s.size=0:=by rw[<-toList_length,h];rfl
theorem size_pos {s:ByteArray} (h:¬ s.toList=[]):0 < s.size:=by
 rw[<-toList_length]
 exact List.length_pos_iff.2 h
theorem take_size (s:ByteArray):s.data.toList.take s.size=s.data.toList:=List.take_of_length_le (by simp)
theorem emp_of_size {s:ByteArray} (h:s.size=0):s.toList=[]:=List.eq_nil_of_length_eq_zero (by rw[toList_length,h])
theorem nemp_of_size {s:ByteArray} (h:0 < s.size):¬ s.toList=[]:=fun e=>by have:=size_zero e;omega
theorem emp_bool {s:ByteArray} (h:s.size=0):s.toList.isEmpty=true:=by rw[emp_of_size h];rfl
theorem nemp_bool {s:ByteArray} (h:0 < s.size):s.toList.isEmpty=false:=by
 have:=nemp_of_size h
 simpa using this
theorem mk_bs (s:ByteArray):(⟨(bs s).toArray⟩:ByteArray)=s:=Lib.mk_data s
theorem S_bs (s:ByteArray):S (bs s)=.string s:=by rw[S,mk_bs]
theorem bs_mk (l:Str):bs ⟨l.toArray⟩=l:=by simp[bs]
theorem Ext.au {a w:World} (h:Ext a w:=by repeat (first|with_reducible exact Ext.refl _|with_reducible assumption|with_reducible apply Ext.drewN|with_reducible apply Ext.drew|with_reducible apply Ext.alloc|exact Ext.refl _|assumption|apply Ext.drewN|apply Ext.drew|apply Ext.alloc)):Ext a w:=h
theorem Ext.ad {a w:World} (h:Ext a w:=by repeat (first|with_reducible exact Ext.refl _|with_reducible assumption|with_reducible apply Ext.drewN|with_reducible apply Ext.drew|with_reducible apply Ext.alloc|((with_reducible refine Ext.setCell ?_ ?_ _);rotate_left;(first|(dsimp only;omega)|(simp;omega)|skip))|exact Ext.refl _|assumption|apply Ext.drewN|apply Ext.drew|apply Ext.alloc|refine Ext.setCell ?_ (by first|(dsimp only;omega)|(simp;omega)) _)):Ext a w:=h
theorem Hy {p:Prop} (h:p):Go.RowKit.Hid p:=Lib.hid h
end
section
open Go.RowKit
def smallB (c:UInt8):Bool:=decide (97<=c.toNat)&&decide (c.toNat<=122)
def digitB (c:UInt8):Bool:=decide (48<=c.toNat)&&decide (c.toNat<=57)
def greatB (c:UInt8):Bool:=decide (65<=c.toNat)&&decide (c.toNat<=90)
def nameB (c:UInt8):Bool:=smallB c||digitB c||decide (c.toNat=45)||decide (c.toNat=46)
def partB (c:UInt8):Bool:=smallB c||greatB c||digitB c||decide (c.toNat=45)||decide (c.toNat=46)||decide (c.toNat=95)
def valueB (c:UInt8):Bool:=decide (32<=c.toNat)&&decide (c.toNat<=126)
def wordB (c:UInt8):Bool:=smallB c||digitB c
set_option maxHeartbeats 400000 in
theorem isSmall_any (c:UInt8) (w:World) :
 Calls Tryz.prog 79 #[.int .u8 c.toNat] w fun e w'=>e=.returned (.bool (smallB c))∧w=w':=by
 go_enter Tryz.func79,Tryz.ntmps79
 go_wp2
 all_goals go_ret
 all_goals refine⟨ret_bool ?_,rfl⟩
 all_goals rw[Bool.eq_iff_iff]
 all_goals simp only[smallB,Bool.and_eq_true,decide_eq_true_eq,Bool.false_eq_true,false_iff,not_and]
 all_goals omega
set_option maxHeartbeats 400000 in
theorem isDigit_any (c:UInt8) (w:World) :
 Calls Tryz.prog 80 #[.int .u8 c.toNat] w fun e w'=>e=.returned (.bool (digitB c))∧w=w':=by
 go_enter Tryz.func80,Tryz.ntmps80
 go_wp2
 all_goals go_ret
 all_goals refine⟨ret_bool ?_,rfl⟩
 all_goals rw[Bool.eq_iff_iff]
 all_goals simp only[digitB,Bool.and_eq_true,decide_eq_true_eq,Bool.false_eq_true,false_iff,not_and]
 all_goals omega
set_option maxHeartbeats 400000 in
theorem isName1_any (c:UInt8) (w:World) :
 Calls Tryz.prog 78 #[.int .u8 c.toNat] w fun e w'=>e=.returned (.bool (nameB c))∧w=w':=by
 go_enter Tryz.func78,Tryz.ntmps78
 go_wp2_with (first|(go_at_call 79;refine (isSmall_any _ _).mono ?_;rintro e w' ⟨rfl,rfl⟩)|(go_at_call 80;refine (isDigit_any _ _).mono ?_;rintro e w' ⟨rfl,rfl⟩))
 all_goals go_ret
 all_goals refine⟨ret_bool ?_,rfl⟩
 all_goals rw[Bool.eq_iff_iff]
 all_goals simp[nameB, *]
 all_goals omega
set_option maxHeartbeats 400000 in
theorem isValue1_any (c:UInt8) (w:World) :
 Calls Tryz.prog 82 #[.int .u8 c.toNat] w fun e w'=>e=.returned (.bool (valueB c))∧w=w':=by
 go_enter Tryz.func82,Tryz.ntmps82
 go_wp2
 all_goals go_ret
 all_goals refine⟨ret_bool ?_,rfl⟩
 all_goals rw[Bool.eq_iff_iff]
 all_goals simp only[valueB,Bool.and_eq_true,decide_eq_true_eq,Bool.false_eq_true,false_iff,not_and]
 all_goals omega
set_option maxHeartbeats 400000 in
theorem isEarly1_any (c:UInt8) (w:World) :
 Calls Tryz.prog 150 #[.int .u8 c.toNat] w fun e w'=>e=.returned (.bool (wordB c))∧w=w':=by
 go_enter Tryz.func150,Tryz.ntmps150
 go_wp2_with (first|(go_at_call 79;refine (isSmall_any _ _).mono ?_;rintro e w' ⟨rfl,rfl⟩)|(go_at_call 80;refine (isDigit_any _ _).mono ?_;rintro e w' ⟨rfl,rfl⟩))
 all_goals go_ret
 all_goals refine⟨ret_bool ?_,rfl⟩
 all_goals simp[wordB, *]
set_option maxHeartbeats 400000 in
theorem isPart1_any (c:UInt8) (w:World) :
 Calls Tryz.prog 152 #[.int .u8 c.toNat] w fun e w'=>e=.returned (.bool (partB c))∧w=w':=by
 go_enter Tryz.func152,Tryz.ntmps152
 go_wp2_with (first|(go_at_call 79;refine (isSmall_any _ _).mono ?_;rintro e w' ⟨rfl,rfl⟩)|(go_at_call 80;refine (isDigit_any _ _).mono ?_;rintro e w' ⟨rfl,rfl⟩))
 all_goals go_ret
 all_goals refine⟨ret_bool ?_,rfl⟩
 all_goals rw[Bool.eq_iff_iff]
 all_goals simp[partB,greatB, *]
 all_goals omega
structure IsPred (f:FuncId) (p:UInt8->Bool):Prop where
 enter:∀ xs w,Sem.run Tryz.prog (callFunc f xs) w=.ok (.enter f xs) w
 calls:∀ (c:UInt8) (w:World),Calls Tryz.prog f #[.int .u8 c.toNat] w fun e w'=>e=.returned (.bool (p c))∧w=w'
theorem isDigit_pred:IsPred 80 digitB:=⟨fun xs w=>by kernel_rfl,isDigit_any⟩
theorem isValue1_pred:IsPred 82 valueB:=⟨fun xs w=>by kernel_rfl,isValue1_any⟩
theorem isEarly1_pred:IsPred 150 wordB:=⟨fun xs w=>by kernel_rfl,isEarly1_any⟩
theorem isPart1_pred:IsPred 152 partB:=⟨fun xs w=>by kernel_rfl,isPart1_any⟩
theorem isName1_pred:IsPred 78 nameB:=⟨fun xs w=>by kernel_rfl,isName1_any⟩
theorem all_take_succ (p:UInt8->Bool) (s:ByteArray) (k:Nat) (h:k < s.size):(s.data.toList.take (k+1)).all p=((s.data.toList.take k).all p&&p s[k]):=by
 rw[List.take_succ_eq_append_getElem (by simpa using h)]
 simp[ByteArray.getElem_eq_getElem_data]
theorem all_false_of (p:UInt8->Bool) (s:ByteArray) (k:Nat) (h:k < s.size) (hp:p s[k]=false):s.data.toList.all p=false:=by
 rw[List.all_eq_false]
 exact⟨s[k],by simp[ByteArray.getElem_eq_getElem_data],by simp[hp]⟩
def eachB (p:UInt8->Bool) (s:ByteArray) (n:Int):Bool:=s.data.toList.all p&&decide (0 < s.size)&&decide ((s.size:Int)<=n)
set_option maxHeartbeats 400000 in
theorem each_any (f:FuncId) (p:UInt8->Bool) (s:ByteArray) (n:Int) (w:World) (hs:s.size<=2097152) (hf:IsPred f p) :
 Calls Tryz.prog 77 #[.string s,.int .i64 n,.func (.func f) #[] #[]] w fun e w'=>e=.returned (.bool (eachB p s n))∧w=w':=by
 have hen:=hf.enter
 go_enter Tryz.func77,Tryz.ntmps77
 go_wp2
 go_loop [7] (fun i=>∃ k:Nat,k<=s.size∧i=.int .i64 k∧(s.data.toList.take k).all p=true) (fun i=>s.size - (intOf i).toNat)
 case atStart=>exact⟨0,Nat.zero_le _,rfl,by simp⟩
 case round =>
  obtain⟨k,hk,rfl,hall⟩:=hrel
  have HALL:=Hy hall
  clear hall
  by_cases hlt:k < s.size
  ·go_wp2_with (fail)
   refine (hf.calls _ _).mono ?_
   rintro e w' ⟨rfl,rfl⟩
   cases hp:p s[k]
   ·go_wp2
    go_ret
    refine⟨ret_bool ?_,rfl⟩
    unfold eachB
    rw[all_false_of p s k hlt hp]
    rfl
   ·go_wp2
    go_round
    case rel=>exact⟨k+1,by omega,by go_num,by rw[all_take_succ _ _ _ hlt,HALL.out,hp];rfl⟩
    case measure=>simp[intOf];omega
  ·obtain rfl:k=s.size:=by omega
   go_wp2
   all_goals go_ret
   all_goals refine⟨ret_bool ?_,rfl⟩
   all_goals rw[take_size] at HALL
   all_goals unfold eachB
   all_goals rw[HALL.out]
   ·simp[size_zero ‹_›]
   ·simp[size_pos ‹_›,‹¬ s.toList=[]›]
end
section
open Go.RowKit
theorem size_list (s:ByteArray):s.size=(bs s).length:=(bs_length s).symm
def eachL (p:UInt8->Bool) (l:Str) (n:Nat):Bool:=l.all p&&decide (0 < l.length)&&decide (l.length<=n)
theorem eachB_L (p:UInt8->Bool) (s:ByteArray) (n:Nat):eachB p s (n:Int)=eachL p (bs s) n:=by
 unfold eachB eachL
 rw[size_list]
 congr 1
 rw[decide_eq_decide]
 omega
theorem eachL_pos {p:UInt8->Bool} {s:ByteArray} {n:Nat} (h:eachL p (bs s) n=true):0 < s.size:=by
 unfold eachL at h
 simp only[Bool.and_eq_true,decide_eq_true_eq] at h
 rw[size_list];exact h.1.2
theorem each_list (f:FuncId) (p:UInt8->Bool) (s:ByteArray) (n:Nat) (w:World) (hs:s.size<=2097152) (hf:IsPred f p) :
 Calls Tryz.prog 77 #[.string s,.int .i64 n,.func (.func f) #[] #[]] w fun e w'=>e=.returned (.bool (eachL p (bs s) n))∧w=w' :=
 (each_any f p s n w hs hf).mono fun _ _ ⟨h,k⟩=>⟨by rw[h,eachB_L],k⟩
def nameL (l:Str):Bool:=eachL nameB l 40&&smallB (l.headD 0)
theorem head_bs (s:ByteArray) (h:0 < s.size):(bs s).headD 0=s[0]:=by
 have h1:s.data.toList[0]?=some s[0]:=Lib.data_getElem? s 0 h
 unfold bs
 cases hl:s.data.toList with
 | nil=>rw[hl] at h1;cases h1
 | cons x r=>rw[hl] at h1;simpa using h1
set_option maxHeartbeats 400000 in
theorem IsName_any (s:ByteArray) (w:World) (hs:s.size<=2097152) :
 Calls Tryz.prog 18 #[.string s] w fun e w'=>e=.returned (.bool (nameL (bs s)))∧w=w':=by
 go_enter Tryz.func18,Tryz.ntmps18
 go_wp2_with fail
 refine (each_list _ _ s 40 _ hs isName1_pred).mono ?_
 rintro e w' ⟨rfl,rfl⟩
 cases h:eachL nameB (bs s) 40
 ·go_wp2
  go_ret
  exact⟨ret_bool (by rw[nameL,h];rfl),rfl⟩
 ·have hp:=eachL_pos h
  go_wp2_with (go_at_call 79;refine (isSmall_any _ _).mono ?_;rintro e w' ⟨rfl,rfl⟩)
  go_ret
  exact⟨ret_bool (by rw[nameL,h,head_bs s hp];rfl),rfl⟩
def partL (l:Str):Bool:=eachL partB l 40&&(l != [46])&&(l != [46,46])
theorem lit_beq (s:ByteArray) (l:Str):(s.toList==l)=(bs s==l):=by rw[ByteArray.toList_eq]
set_option maxHeartbeats 400000 in
theorem isPart_any (s:ByteArray) (w:World) (hs:s.size<=2097152) :
 Calls Tryz.prog 81 #[.string s] w fun e w'=>e=.returned (.bool (partL (bs s)))∧w=w':=by
 go_enter Tryz.func81,Tryz.ntmps81
 go_wp2_with fail
 refine (each_list _ _ s 40 _ hs isPart1_pred).mono ?_
 rintro e w' ⟨rfl,rfl⟩
 cases h:eachL partB (bs s) 40
 ·go_wp2
  go_ret
  exact⟨ret_bool (by rw[partL,h];rfl),rfl⟩
 ·go_wp2
  all_goals go_ret
  all_goals refine⟨ret_bool ?_,rfl⟩
  all_goals simp_all [partL,ByteArray.toList_eq]
  all_goals rfl
def valueL (l:Str):Bool:=l.all valueB&&decide (l.length<=1000)
theorem bs_nil {s:ByteArray} (h:s.size=0):bs s=[]:=List.eq_nil_of_length_eq_zero (by rw[bs_length,h])
theorem eachL_value {s:ByteArray} (h:0 < s.size):eachL valueB (bs s) 1000=valueL (bs s):=by
 unfold eachL valueL
 rw[bs_length,decide_eq_true h,Bool.and_true]
set_option maxHeartbeats 400000 in
theorem IsValue_any (s:ByteArray) (w:World) (hs:s.size<=2097152) :
 Calls Tryz.prog 22 #[.string s] w fun e w'=>e=.returned (.bool (valueL (bs s)))∧w=w':=by
 go_enter Tryz.func22,Tryz.ntmps22
 rcases Nat.eq_zero_or_pos s.size with h0|h0
 ·have he:=emp_of_size h0
  go_wp2
  go_ret
  exact⟨ret_bool (by rw[bs_nil h0];rfl),rfl⟩
 ·have he:=nemp_of_size h0
  go_wp2_with (go_at_call 77;refine (each_list _ _ s 1000 _ hs isValue1_pred).mono ?_;rintro e w' ⟨rfl,rfl⟩)
  go_ret
  have hi:s.toList.isEmpty=false:=by simpa using he
  exact⟨ret_bool (by rw[eachL_value h0,hi];rfl),rfl⟩
def numeralL (l:Str):Bool:=eachL digitB l 10
set_option maxHeartbeats 400000 in
theorem isNumeral_any (s:ByteArray) (w:World) (hs:s.size<=2097152) :
 Calls Tryz.prog 151 #[.string s] w fun e w'=>e=.returned (.bool (numeralL (bs s)))∧w=w':=by
 go_enter Tryz.func151,Tryz.ntmps151
 go_wp2_with (go_at_call 77;refine (each_list _ _ s 10 _ hs isDigit_pred).mono ?_;rintro e w' ⟨rfl,rfl⟩)
 go_ret
 exact⟨rfl,rfl⟩
set_option maxHeartbeats 400000 in
theorem outside_any (n a b:Int) (w:World) :
 Calls Tryz.prog 75 #[.int .i64 n,.int .i64 a,.int .i64 b] w fun e w'=>e=.returned (.bool (decide (n < a∨b < n)))∧w=w':=by
 go_enter Tryz.func75,Tryz.ntmps75
 go_wp2
 all_goals go_ret
 all_goals refine⟨ret_bool ?_,rfl⟩
 all_goals simp
 all_goals omega
set_option maxHeartbeats 400000 in
theorem In_any (n a b:Int) (w:World) :
 Calls Tryz.prog 70 #[.int .i64 n,.int .i64 a,.int .i64 b] w fun e w'=>e=.returned (.bool (decide (a<=n∧n<=b)))∧w=w':=by
 go_enter Tryz.func70,Tryz.ntmps70
 go_wp2
 all_goals go_ret
 all_goals refine⟨ret_bool ?_,rfl⟩
 all_goals simp
 all_goals omega
set_option maxHeartbeats 400000 in
theorem When_any (b:Bool) (n:Int) (w:World) :
 Calls Tryz.prog 46 #[.bool b,.int .i64 n] w fun e w'=>e=.returned (.int .i64 (if b then n else 0))∧w=w':=by
 go_enter Tryz.func46,Tryz.ntmps46
 cases b
 all_goals go_wp2
 all_goals go_ret
 all_goals exact⟨rfl,rfl⟩
end
section
open Go.RowKit
def firstI:List Int->Int
 | []=>0
 | e::r=>if e=0 then firstI r else e
theorem firstI_zero:∀ {l:List Int},(∀ x∈l,x=0)->firstI l=0
 | [],_=>rfl
 | e::r,h=>by
   unfold firstI
   rw[if_pos (h e (by simp)),firstI_zero fun x hx=>h x (by simp[hx])]
theorem firstI_at:∀ {l:List Int} {k:Nat} (hk:k < l.length),(∀ x∈l.take k,x=0)->l[k]≠0->firstI l=l[k]
 | e::r,0,_,_,h=>by unfold firstI;rw[if_neg (by simpa using h)];rfl
 | e::r,k+1,hk,h0,h=>by
   unfold firstI
   rw[if_pos (h0 e (by simp))]
   exact firstI_at (l:=r) (k:=k) (by simpa using hk) (fun x hx=>h0 x (by simp[hx])) (by simpa using h)
theorem take_zero_succ {l:List Int} {k:Nat} (hk:k < l.length) (h:∀ x∈l.take k,x=0) (h0:l[k]=0):∀ x∈l.take (k+1),x=0:=by
 intro x hx
 rw[List.take_succ_eq_append_getElem hk,List.mem_append] at hx
 rcases hx with hx|hx
 ·exact h x hx
 ·simp at hx;rw[hx,h0]
set_option maxHeartbeats 400000 in
theorem First_any (b c:Nat) (es:List Int) (w:World) (hc:∀ k (h:k < es.length),w.cell? ⟨b,k,none⟩=some (.int .i64 es[k])) (hl:es.length<=1000) :
 Calls Tryz.prog 11 #[.slice (some ⟨b,0,none⟩) es.length c] w fun e w'=>e=.returned (.int .i64 (firstI es))∧w=w':=by
 go_enter Tryz.func11,Tryz.ntmps11
 go_wp2
 go_loop [7] (fun i=>∃ k:Nat,k<=es.length∧i=.int .i64 k∧∀ x∈es.take k,x=0) (fun i=>es.length - (intOf i).toNat)
 case atStart=>exact⟨0,Nat.zero_le _,rfl,by simp⟩
 case round =>
  obtain⟨k,hk,rfl,hall⟩:=hrel
  have HALL:=Hy hall
  clear hall
  by_cases hlt:k < es.length
  ·have hk1:=hc k hlt
   have HC:=Hy hc
   clear hc
   by_cases h0:es[k]=0
   ·have H0:=Hy h0
    rw[h0] at hk1
    clear h0
    go_wp2
    go_round
    case rel=>exact⟨k+1,by omega,by go_num,take_zero_succ hlt HALL.out H0.out⟩
    case measure=>simp[intOf];omega
   ·go_wp2
    go_ret
    exact⟨ret_int (firstI_at hlt HALL.out h0).symm,rfl⟩
  ·obtain rfl:k=es.length:=by omega
   have HC:=Hy hc
   clear hc
   go_wp2
   go_ret
   exact⟨ret_int (firstI_zero (by simpa using HALL.out)).symm,rfl⟩
end
section
open Go.RowKit
structure Strs (w:World) (b:Nat) (xs:List ByteArray):Prop where
 lt:b < w.heap.size
 cell:∀ k (h:k < xs.length),w.cell? ⟨b,k,none⟩=some (.string xs[k])
theorem Strs.ext {w w':World} {b:Nat} {xs:List ByteArray} (h:Strs w b xs) (hx:Ext w w'):Strs w' b xs:=⟨Nat.lt_of_lt_of_le h.lt hx.size,fun k hk=>hx.cell (h.cell k hk)⟩
theorem split_any (c:UInt8) (s:ByteArray) (w:World) (hg:Good w) (hs:s.size<=2097152) :
 Calls Tryz.prog 71 #[.string s,.string ⟨#[c]⟩] w fun e w'=>∃ (b:Nat) (xs:List ByteArray),
  e=.returned (.slice (some ⟨b,0,none⟩) xs.length xs.length)∧w.heap.size<=b∧Strs w' b xs∧xs.map bs=splitC c (bs s)∧Ext w w':=by
 obtain⟨m,hm⟩:=hg.maxLen
 refine (Tryz.strings_Split s ⟨#[c]⟩ m w (by omega) hm (Nat.le_refl _)).mono ?_
 rintro e w' ⟨rfl,rfl⟩
 have hlen:(Lib.splitB ⟨#[c]⟩ 0 (Lib.countB s ⟨#[c]⟩) s).length=Lib.countB s ⟨#[c]⟩+1:=by
  rw[splitC_length,splitC_count c _ _ (Nat.le_refl _)]
 refine⟨w.heap.size,_,by rw[hlen],Nat.le_refl _,⟨by simp,?_⟩,splitB_one c s,(Ext.refl w).alloc _⟩
 intro k hk
 rw[World.cell?_alloc_at _ _ _ _ rfl]
 simp[hk]
theorem cut_any (c:UInt8) (s:ByteArray) (w:World) (hg:Good w) (hs:s.size<=2097152) :
 Calls Tryz.prog 88 #[.string s,.string ⟨#[c]⟩] w fun e w'=>e=.returned (.tuple #[S (cutC c (bs s)).1,S (cutC c (bs s)).2.1,.bool (cutC c (bs s)).2.2])∧Ext w w':=by
 obtain⟨m,hm⟩:=hg.maxLen
 refine (Tryz.strings_Cut s ⟨#[c]⟩ m w (by omega) hm).mono ?_
 rintro e w' ⟨rfl,n,rfl⟩
 exact⟨by rw[show (⟨#[c]⟩:ByteArray).data.toList=[c] from rfl,cut_one],(Ext.refl w).drewN n⟩
theorem cutC_size (c:UInt8) (l:Str):(cutC c l).1.length<=l.length∧(cutC c l).2.1.length<=l.length:=by
 rcases first_cut c l with h|⟨a,r,ha,rfl⟩
 ·rw[cutC_none c l h];simp
 ·rw[cutC_app c a r ha];simp;omega
theorem cut_ex (c:UInt8) (s:ByteArray) (w:World) (hg:Good w) (hs:s.size<=2097152) :
 Calls Tryz.prog 88 #[.string s,.string ⟨#[c]⟩] w fun e w'=>∃ (a b:ByteArray) (f:Bool),e=.returned (.tuple #[.string a,.string b,.bool f])∧cutC c (bs s)=(bs a,bs b,f)∧a.size<=s.size∧b.size<=s.size∧Ext w w' :=
 (cut_any c s w hg hs).mono fun _ _ ⟨h,k⟩=>by
   have h1:=cutC_size c (bs s)
   rw[bs_length] at h1
   exact⟨_,_,_,h,by rw[bs_mk,bs_mk],by rw[<-bs_length,bs_mk];exact h1.1,by rw[<-bs_length,bs_mk];exact h1.2,k⟩
theorem contains_any (c:UInt8) (s:ByteArray) (w:World) (hg:Good w) (hs:s.size<=2097152) :
 Calls Tryz.prog 189 #[.string s,.string ⟨#[c]⟩] w fun e w'=>e=.returned (.bool ((bs s).contains c))∧w=w':=by
 obtain⟨m,hm⟩:=hg.maxLen
 refine (Tryz.strings_Contains s ⟨#[c]⟩ m w (by omega) hm).mono ?_
 rintro e w' ⟨rfl,rfl⟩
 refine⟨ret_bool ?_,rfl⟩
 unfold Lib.contains
 rw[show (⟨#[c]⟩:ByteArray).data.toList=[c] from rfl]
 rcases first_cut c (bs s) with h|⟨a,r,ha,hr⟩
 ·rw[index_none c _ h];simp[h]
 ·rw[show s.data.toList=a++c::r from hr,index_app c a r ha];simp[bs,hr]
theorem hasPrefix_any (s p:ByteArray) (w:World) :
 Calls Tryz.prog 191 #[.string s,.string p] w fun e w'=>e=.returned (.bool ((bs p).isPrefixOf (bs s)))∧w=w' :=
 (Tryz.strings_HasPrefix s p w).mono fun _ _ ⟨h,k⟩=>⟨h,k.symm⟩
theorem cutPrefix_any (s p:ByteArray) (w:World) :
 Calls Tryz.prog 98 #[.string s,.string p] w fun e w'=>e=.returned (.tuple #[S (Lib.trimPrefix (bs s) (bs p)),.bool ((bs p).isPrefixOf (bs s))])∧w=w' :=
 (Tryz.strings_CutPrefix s p w).mono fun _ _ ⟨h,k⟩=>⟨h,k.symm⟩
theorem indexByte_any (s:ByteArray) (c:UInt8) (w:World) :
 Calls Tryz.prog 164 #[.string s,.int .u8 c.toNat] w fun e w'=>e=.returned (.int .i64 (Lib.indexByte (bs s) c))∧w=w' :=
 (Tryz.strings_IndexByte s c.toNat w).mono fun _ _ ⟨h,k⟩=>⟨by rw[h,Lib.byte_back],k.symm⟩
theorem compare_any (a b:ByteArray) (w:World) :
 Calls Tryz.prog 87 #[.string a,.string b] w fun e w'=>e=.returned (.int .i64 (Lib.compareBytes (bs a) (bs b)))∧w=w' :=
 (Tryz.strings_Compare a b w).mono fun _ _ ⟨h,k⟩=>⟨h,k.symm⟩
theorem compareInt_any (a b:Int) (w:World) :
 Calls Tryz.prog 85 #[.int .i64 a,.int .i64 b] w fun e w'=>e=.returned (.int .i64 (Lib.compareInt a b))∧w=w' :=
 (Tryz.cmp_Compare_int a b w).mono fun _ _ ⟨h,k⟩=>⟨h,k.symm⟩
theorem atoi_any (s:ByteArray) (w:World) (hg:GoodN w) (hs:s.size<=2097152) :
 Calls Tryz.prog 86 #[.string s] w fun e w'=>∃ (v:Int) (ev:Value),e=.returned (.tuple #[.int .i64 v,ev])∧Ext w w' ∧
  (∀ u,Lib.atoiAll (bs s)=.ok u->v=u∧ev=.nilIface)∧(ev=.nilIface∨∃ t p,ev=.iface t p):=by
 cases h:Lib.atoiAll s.data.toList
 ·rename_i u
  refine (Tryz.strconv_Atoi_ok s (by omega) u h w).mono ?_
  rintro e w' ⟨rfl,hw⟩
  refine⟨u,.nilIface,rfl,?_,fun u' hu=>⟨by injection hu,rfl⟩,.inl rfl⟩
  rcases hw with rfl|⟨t,rfl⟩
  ·exact Ext.refl _
  ·exact (Ext.refl _).bytesWorld _ _
 ·obtain⟨tp,p,hv⟩:=hg.errS
  refine (Any.strconv_Atoi_syntax_var Tryz.laysC172 s (by omega) h tp p w hv).mono ?_
  rintro e w' ⟨N,rfl,_,_,hb⟩
  exact⟨_,_,rfl,hb,(fun u' hu=>by cases hu),.inr ⟨_,_,rfl⟩⟩
 ·obtain⟨tp,p,hv⟩:=hg.errR
  refine (Tryz.strconv_Atoi_range_var s (by omega) h tp p w hv).mono ?_
  rintro e w' ⟨N,rfl,_,_,hb⟩
  exact⟨_,_,rfl,hb,(fun u' hu=>by cases hu),.inr ⟨_,_,rfl⟩⟩
theorem trim_any (s cs:ByteArray) (w:World) (hs:s.size<=2097152) (hcs:cs.size<=1000) (hascii:∀ (j:Nat) b,cs.data.toList[j]?=some b->b.toNat < 128) :
 Calls Tryz.prog 147 #[.string s,.string cs] w fun e w'=>e=.returned (S (Lib.trimS (bs s) (bs cs)))∧Ext w w' :=
 Any.strings_Trim_laid Tryz.laysT160 (by kernel_rfl) s cs w (by omega) (by omega) hascii
end
section
open Go.RowKit
theorem allS_succ (p:Str->Bool) (xs:List ByteArray) (k:Nat) (h:k < xs.length) (h1:(xs.take k).all (fun x=>p (bs x))=true) (h2:p (bs xs[k])=true):(xs.take (k+1)).all (fun x=>p (bs x))=true:=by
 rw[List.take_succ_eq_append_getElem h,List.all_append,h1]
 simp[h2]
theorem allS_false (p:Str->Bool) (xs:List ByteArray) (k:Nat) (h:k < xs.length) (h2:p (bs xs[k])=false):(xs.map bs).all p=false:=by
 rw[List.all_eq_false]
 exact⟨bs xs[k],List.mem_map.2 ⟨xs[k],List.getElem_mem h,rfl⟩,by simp[h2]⟩
theorem allS_true (p:Str->Bool) (xs:List ByteArray) (h1:(xs.take xs.length).all (fun x=>p (bs x))=true):(xs.map bs).all p=true:=by
 rw[List.take_length] at h1
 rw[List.all_map];exact h1
theorem splitC_le (c:UInt8):∀ (l p:Str),p∈splitC c l->p.length<=l.length
 | [],p,h=>by simp[splitC] at h;simp[h]
 | x::r,p,h=>by
   unfold splitC at h
   by_cases hx:x=c
   ·rw[if_pos hx] at h
    rcases List.mem_cons.1 h with e|e
    ·simp[e]
    ·have:=splitC_le c r p e;simp;omega
   ·rw[if_neg hx] at h
    cases hs:splitC c r with
    | nil=>exact absurd hs (splitC_ne c r)
    | cons q t =>
      rw[hs] at h
      rcases List.mem_cons.1 h with e|e
      ·have:=splitC_le c r q (by rw[hs];simp)
       rw[e];simp;omega
      ·have:=splitC_le c r p (by rw[hs];simp[e]);simp;omega
theorem piece_le {c:UInt8} {s:ByteArray} {xs:List ByteArray} (h:xs.map bs=splitC c (bs s)) {k:Nat} (hk:k < xs.length):xs[k].size<=s.size:=by
 rw[<-bs_length,<-bs_length]
 exact splitC_le c _ _ (by rw[<-h];exact List.mem_map.2 ⟨_,List.getElem_mem hk,rfl⟩)
theorem splitC_length_le (c:UInt8):∀ l:Str,(splitC c l).length<=l.length+1
 | []=>by simp[splitC]
 | x::r=>by
   have:=splitC_length_le c r
   unfold splitC
   split
   ·simp;omega
   ·split<;>simp_all;omega
theorem pieces_le {c:UInt8} {s:ByteArray} {xs:List ByteArray} (h:xs.map bs=splitC c (bs s)):xs.length<=s.size+1:=by
 have h1:=splitC_length_le c (bs s)
 rw[<-h,List.length_map,bs_length] at h1
 exact h1
def pathL (l:Str):Bool:=(splitC 47 l).all partL&&decide (l.length<=200)
set_option maxHeartbeats 400000 in
theorem IsPath_any (s:ByteArray) (w:World) (hg:Good w) (hs:s.size<=2097152) :
 Calls Tryz.prog 20 #[.string s] w fun e w'=>e=.returned (.bool (pathL (bs s)))∧Ext w w':=by
 go_enter Tryz.func20,Tryz.ntmps20
 go_wp2_with fail
 refine (split_any 47 s _ hg hs).mono ?_
 rintro e w1 ⟨b,xs,rfl,hb0,hst,hxs,hx⟩
 have HXS:=Hy hxs
 have hcell:=hst.cell
 have HC:=Hy hcell
 clear hcell
 have hlen:=pieces_le hxs
 clear hxs
 go_wp2
 go_loop [8] (fun i=>∃ k:Nat,k<=xs.length∧i=.int .i64 k∧(xs.take k).all (fun x=>partL (bs x))=true) (fun i=>xs.length - (intOf i).toNat)
 case atStart=>exact⟨0,Nat.zero_le _,rfl,by simp⟩
 case round =>
  obtain⟨k,hk,rfl,hall⟩:=hrel
  have HALL:=Hy hall
  clear hall
  by_cases hlt:k < xs.length
  ·have hk1:=HC.out k hlt
   have hsz:=piece_le HXS.out hlt
   go_wp2_with fail
   refine (isPart_any xs[k] _ (by omega)).mono ?_
   rintro e w' ⟨rfl,rfl⟩
   cases hp:partL (bs xs[k])
   ·go_wp2
    go_ret
    refine⟨ret_bool ?_,hx⟩
    unfold pathL
    rw[<-HXS.out,allS_false partL xs k hlt hp]
    rfl
   ·go_wp2
    go_round
    case rel=>exact⟨k+1,by omega,by go_num,allS_succ _ _ _ hlt HALL.out hp⟩
    case measure=>simp[intOf];omega
  ·obtain rfl:k=xs.length:=by omega
   go_wp2
   go_ret
   refine⟨ret_bool ?_,hx⟩
   unfold pathL
   rw[<-HXS.out,allS_true partL xs HALL.out,bs_length]
   simp
   omega
def earlyWordL (l:Str):Bool:=eachL wordB l 10&&!(numeralL l&&(l.headD 0==48)&&(l != [48]))
def earlyL (l:Str):Bool:=(splitC 46 l).all earlyWordL&&decide (l.length<=40)
theorem cast_beq (a:UInt8) (n:Nat) (h:n < 256):(((a.toNat:Nat):Int)==(n:Int))=(a==UInt8.ofNat n):=by
 rw[Bool.eq_iff_iff,beq_iff_eq,beq_iff_eq]
 constructor
 ·intro e
  apply UInt8.toNat_inj.1
  rw[UInt8.toNat_ofNat']
  omega
 ·rintro rfl
  rw[UInt8.toNat_ofNat']
  omega
theorem ew_bad {x:ByteArray} {h0:0 < x.size} (hh:(bs x).headD 0=x[0]) (hn:numeralL (bs x)=true) (h1:(x[0].toNat:Int)=48) (h2:(!x.toList==[48])=true):earlyWordL (bs x)=false:=by
 have h3:x[0]=48:=UInt8.toNat_inj.1 (by show x[0].toNat=48;omega)
 rw[ByteArray.toList_eq] at h2
 have h4:(bs x != [48])=true:=h2
 rw[earlyWordL,hh,h3,hn,h4]
 simp
theorem ew_good1 {x:ByteArray} (hp:eachL wordB (bs x) 10=true) (h2:(!x.toList==[48])=false):earlyWordL (bs x)=true:=by
 rw[ByteArray.toList_eq] at h2
 have h4:(bs x != [48])=false:=h2
 rw[earlyWordL,hp,h4]
 simp
theorem ew_good2 {x:ByteArray} {h0:0 < x.size} (hp:eachL wordB (bs x) 10=true) (hh:(bs x).headD 0=x[0]) (h1:¬ (x[0].toNat:Int)=48):earlyWordL (bs x)=true:=by
 have h3:(x[0]==48)=false:=by
  rw[beq_eq_false_iff_ne]
  intro e
  rw[e] at h1
  exact h1 rfl
 rw[earlyWordL,hp,hh,h3]
 simp
set_option maxHeartbeats 1000000 in
theorem isEarly_any (s:ByteArray) (w:World) (hg:Good w) (hs:s.size<=2097152) :
 Calls Tryz.prog 76 #[.string s] w fun e w'=>e=.returned (.bool (earlyL (bs s)))∧Ext w w':=by
 go_enter Tryz.func76,Tryz.ntmps76
 go_wp2_with fail
 refine (split_any 46 s _ hg hs).mono ?_
 rintro e w1 ⟨b,xs,rfl,hb0,hst,hxs,hx⟩
 have HXS:=Hy hxs
 have hcell:=hst.cell
 have HC:=Hy hcell
 clear hcell
 have hlen:=pieces_le hxs
 clear hxs
 go_wp2
 go_loop [8] (fun i=>∃ k:Nat,k<=xs.length∧i=.int .i64 k∧(xs.take k).all (fun x=>earlyWordL (bs x))=true) (fun i=>xs.length - (intOf i).toNat)
 case atStart=>exact⟨0,Nat.zero_le _,rfl,by simp⟩
 case round =>
  obtain⟨k,hk,rfl,hall⟩:=hrel
  have HALL:=Hy hall
  clear hall
  by_cases hlt:k < xs.length
  ·have hk1:=HC.out k hlt
   have hsz:=piece_le HXS.out hlt
   have hne:earlyWordL (bs xs[k])=false->(xs.map bs).all earlyWordL=false:=allS_false earlyWordL xs k hlt
   have HNE:=Hy hne
   clear hne
   have hsu:=allS_succ earlyWordL xs k hlt HALL.out
   have HSU:=Hy hsu
   clear hsu
   generalize xs[k]=x at *
   go_wp2_with fail
   refine (each_list _ _ x 10 _ (by omega) isEarly1_pred).mono ?_
   rintro e w' ⟨rfl,rfl⟩
   cases hp:eachL wordB (bs x) 10
   ·go_wp2
    go_ret
    refine⟨ret_bool ?_,hx⟩
    unfold earlyL
    rw[<-HXS.out,HNE.out (by rw[earlyWordL,hp];rfl)]
    rfl
   ·have h0:=eachL_pos hp
    have hh:=head_bs x h0
    have HH:=Hy hh
    clear hh
    go_wp2_with fail
    refine (isNumeral_any x _ (by omega)).mono ?_
    rintro e w' ⟨rfl,rfl⟩
    cases hn:numeralL (bs x)
    ·go_wp2
     go_round
     case rel=>exact⟨k+1,by omega,by go_num,HSU.out (by rw[earlyWordL,hp,hn];rfl)⟩
     case measure=>simp[intOf];omega
    ·go_wp2
     ·go_ret
      refine⟨ret_bool ?_,hx⟩
      unfold earlyL
      rw[<-HXS.out,HNE.out (ew_bad HH.out hn (by assumption) (by assumption))]
      rfl
     ·go_round
      case rel=>exact⟨k+1,by omega,by go_num,HSU.out (ew_good1 hp (by assumption))⟩
      case measure=>simp[intOf];omega
     ·go_round
      case rel=>exact⟨k+1,by omega,by go_num,HSU.out (ew_good2 hp HH.out (by assumption))⟩
      case measure=>simp[intOf];omega
  ·obtain rfl:k=xs.length:=by omega
   go_wp2
   go_ret
   refine⟨ret_bool ?_,hx⟩
   unfold earlyL
   rw[<-HXS.out,allS_true earlyWordL xs HALL.out,bs_length]
   simp
   omega
end
section
open Go.RowKit
def inNum (n:Int):Bool:=decide (0<=n∧n<=999999)
def textL (ma mi pa:Int) (e:Str):Str:=Lib.itoa ma++[46]++Lib.itoa mi++[46]++Lib.itoa pa++(if e=[] then [] else 45::e)
end
section
open Go.RowKit
theorem outside_num (n:Int) (w:World) :
 Calls Tryz.prog 75 #[.int .i64 n,.int .i64 0,.int .i64 999999] w fun e w'=>e=.returned (.bool (!inNum n))∧w=w' :=
 (outside_any n 0 999999 w).mono fun _ _ ⟨h,k⟩=>⟨by
   rw[h]
   refine ret_bool ?_
   unfold inNum
   rw[<-decide_not,decide_eq_decide]
   omega,k⟩
def checkV (ma mi pa:Int) (e:Str):Int:=if (inNum ma&&inNum mi&&inNum pa)=false then 3 else if (!e.isEmpty&&!earlyL e)=true then 2 else 0
set_option maxHeartbeats 1000000 in
theorem Check_any (ma mi pa:Int) (ea:ByteArray) (w:World) (hg:Good w) (hs:ea.size<=2097152) :
 Calls Tryz.prog 17 #[.agg #[.int .i64 ma,.int .i64 mi,.int .i64 pa,.string ea]] w fun e w'=>e=.returned (.int .i64 (checkV ma mi pa (bs ea)))∧Ext w w':=by
 have i0:∀ w,(Instr.index 130 (.agg #[.int .i64 ma,.int .i64 mi,.int .i64 pa]) (.int .i64 0)).run Tryz.prog w=.ok (.int .i64 ma) w:=fun _=>by kernel_rfl
 have i1:∀ w,(Instr.index 130 (.agg #[.int .i64 ma,.int .i64 mi,.int .i64 pa]) (.int .i64 1)).run Tryz.prog w=.ok (.int .i64 mi) w:=fun _=>by kernel_rfl
 have i2:∀ w,(Instr.index 130 (.agg #[.int .i64 ma,.int .i64 mi,.int .i64 pa]) (.int .i64 2)).run Tryz.prog w=.ok (.int .i64 pa) w:=fun _=>by kernel_rfl
 go_enter Tryz.func17,Tryz.ntmps17
 go_wp2
 go_loop [12] (fun i=>(i=.int .i64 0∨(i=.int .i64 1∧inNum ma=true)∨(i=.int .i64 2∧inNum ma=true∧inNum mi=true)∨(i=.int .i64 3∧inNum ma=true∧inNum mi=true∧inNum pa=true))) (fun i=>3 - (intOf i).toNat)
 case atStart=>exact .inl rfl
 case round =>
  rcases hrel with rfl|⟨rfl,h1⟩|⟨rfl,h1,h2⟩|⟨rfl,h1,h2,h3⟩
  ·go_wp2_with fail
   refine (outside_num _ _).mono ?_
   rintro e w' ⟨rfl,rfl⟩
   cases h1:inNum ma
   ·go_wp2
    go_ret
    exact⟨ret_int (by rw[checkV,h1];rfl),Ext.au⟩
   ·go_wp2
    go_round
    case rel=>exact .inr (.inl ⟨rfl,h1⟩)
    case measure=>decide
  ·go_wp2_with fail
   refine (outside_num _ _).mono ?_
   rintro e w' ⟨rfl,rfl⟩
   cases h2:inNum mi
   ·go_wp2
    go_ret
    exact⟨ret_int (by rw[checkV,h1,h2];rfl),Ext.au⟩
   ·go_wp2
    go_round
    case rel=>exact .inr (.inr (.inl ⟨rfl,h1,h2⟩))
    case measure=>decide
  ·go_wp2_with fail
   refine (outside_num _ _).mono ?_
   rintro e w' ⟨rfl,rfl⟩
   cases h3:inNum pa
   ·go_wp2
    go_ret
    exact⟨ret_int (by rw[checkV,h1,h2,h3];rfl),Ext.au⟩
   ·go_wp2
    go_round
    case rel=>exact .inr (.inr (.inr ⟨rfl,h1,h2,h3⟩))
    case measure=>decide
  ·have H1:=Hy h1
   have H2:=Hy h2
   have H3:=Hy h3
   clear h1 h2 h3
   rcases Nat.eq_zero_or_pos ea.size with h0|h0
   ·have he:=emp_of_size h0
    have hi:ea.toList.isEmpty=true:=by rw[he];rfl
    go_wp2
    go_ret
    exact⟨ret_int (by rw[checkV,H1.out,H2.out,H3.out,bs_nil h0];rfl),Ext.au⟩
   ·have he:=nemp_of_size h0
    have hi:=nemp_bool h0
    have hb:(bs ea).isEmpty=false:=by rw[ByteArray.toList_eq] at hi;exact hi
    have HB:=Hy hb
    clear hb
    go_wp2_with fail
    refine (isEarly_any _ _ (hg.ext Ext.au) hs).mono ?_
    rintro e w1 ⟨rfl,hx1⟩
    cases h4:earlyL (bs ea)
    ·go_wp2
     go_ret
     exact⟨ret_int (by rw[checkV,H1.out,H2.out,H3.out,HB.out,h4];rfl),Ext.trans Ext.au hx1⟩
    ·go_wp2
     go_ret
     exact⟨ret_int (by rw[checkV,H1.out,H2.out,H3.out,HB.out,h4];rfl),Ext.trans Ext.au hx1⟩
theorem checkV_ok {ma mi pa:Int} {e:Str} (h:checkV ma mi pa e=0):(0<=ma∧ma<=999999)∧(0<=mi∧mi<=999999)∧(0<=pa∧pa<=999999)∧(e=[]∨earlyL e=true):=by
 unfold checkV at h
 split at h
 ·cases h
 ·rename_i h1
  split at h
  ·cases h
  ·rename_i h2
   have h1':(inNum ma&&inNum mi&&inNum pa)=true:=by cases hX:(inNum ma&&inNum mi&&inNum pa) with|false=>exact absurd hX h1|true=>rfl
   simp only[Bool.and_eq_true,inNum,decide_eq_true_eq] at h1'
   refine⟨h1'.1.1,h1'.1.2,h1'.2,?_⟩
   by_cases h3:e=[]
   ·exact .inl h3
   ·refine .inr ?_
    cases h4:earlyL e
    ·exact absurd (by rw[h4];simpa using h3) h2
    ·rfl
end
section
open Go.RowKit
section
variable {P:Program} {ops:Array Oper} {md:Region.Mode} {C:World->Prop}
def anyT (P:Program) (md:Region.Mode) (ops:Array Oper) (C:World->Prop) (n:Nat) (L:Array Bool->Act->Prop):Nat->Array Bool->Act->Prop
 | 0,listed,a=>L listed a
 | f+1,listed,a=>Region.ready md ops listed≠[]∧∀ i∈Region.ready md ops listed,i < n∧qOp P ops C i (anyT P md ops C n L f (listed.setIfInBounds i true)) a
theorem wpAny_of_anyT {n g:Nat} {L:Array Bool->Act->Prop} {Q:Exit->Act->World->Prop} (hL:∀ listed a w,C w->L listed a->wpAny P md ops Q g listed a w) :
 ∀ (f:Nat) (listed:Array Bool) (a:Act) (w:World),C w->anyT P md ops C n L f listed a->wpAny P md ops Q (f+g) listed a w:=by
 intro f
 induction f with
 | zero=>intro listed a w hw h;rw[Nat.zero_add];exact hL _ _ _ hw h
 | succ f ih =>
   intro listed a w hw h
   rw[show f+1+g=(f+g)+1 by omega]
   exact⟨fun h0=>absurd h0 h.1,fun i hi=>wpOp_of_qOp hw (fun a' w' hw' h'=>ih _ a' w' hw' h') (h.2 i hi).2⟩
theorem anyT_first {n i:Nat} {oi:Oper} {v:Value} {L:Array Bool->Act->Prop} (hi:ops[i]?=some oi) (hsel:∀ (j:Nat) (o:Oper) cs b,ops[j]?=some o->o.op≠.select cs b)
 (hs:Region.sinkB md ops n=true) (hc:Region.chainB md ops n=true) (hn:n < ops.size) (hin:i < n) (hdone:∀ listed a,L listed a->∀ j∈Region.ready md ops listed,n<=j) :
 ∀ (f:Nat) (listed:Array Bool) (a:Act),HeadInv md ops n listed ->
  (∀ j oj,ops[j]?=some oj->j≠i->listed.getD j true=false->(∀ e∈oj.after,Region.binds md e=true->e.on≠i)->oi.apart ops oj=true) ->
  i∈Region.ready md ops listed->YieldsIn P ops C oi v a ->
  anyT P md ops C n L f (listed.setIfInBounds i true) (a.put oi.dst v)->anyT P md ops C n L (f+1) listed a:=by
 intro f
 induction f with
 | zero =>
   intro listed a inv _ hr hy H
   refine⟨(fun h=>by rw[h] at hr;cases hr),fun j hj=>?_⟩
   have hjn:j < n:=Nat.lt_of_not_le fun h=>tail_waits hs hc hn inv _ i rfl hin (mem_ready.1 hr).1 j h hj
   refine⟨hjn,?_⟩
   rcases Nat.decEq j i with hji|hji
   ·have:=hdone _ _ H j (ready_mono hj hji);omega
   ·subst hji;exact hy.qOp hi H
 | succ f ih =>
   intro listed a inv hfree hr hy H
   have hun:=(mem_ready.1 hr).1
   refine⟨(fun h=>by rw[h] at hr;cases hr),fun j hj=>?_⟩
   have hjn:j < n:=Nat.lt_of_not_le fun h=>tail_waits hs hc hn inv _ i rfl hin hun j h hj
   refine⟨hjn,?_⟩
   rcases Nat.decEq j i with hji|hji
   ·have h1:=(H.2 j (ready_mono hj hji)).2
    obtain⟨hjun,oj,hoj,hall⟩:=mem_ready.1 hj
    have hnot:∀ e∈oj.after,Region.binds md e=true->e.on≠i:=fun e he hb heq=>by
     have h3:=hall e he hb
     rw[heq,getD_both hun] at h3
     cases h3
    have h2:=qOp_put hoj (hfree j oj hoj hji hjun hnot) (fun cs b=>hsel i oi cs b hi) (fun cs b=>hsel j oj cs b hoj) hy h1
    refine qOp_mono (fun a' h3=>ih (listed.setIfInBounds j true) a' (inv.set hj hjn) (fun k ok hk hki hku hno=>hfree k ok hk hki ?_ hno) (ready_mono hr (Ne.symm hji)) h3.1 ?_) h2
    ·rcases Nat.decEq j k with hjk|hjk
     ·rw[getD_set_ne true hjk] at hku;exact hku
     ·subst hjk;exact hjun
    ·rw[Array.setIfInBounds_comm _ _ hji];exact h3.2
   ·subst hji;exact hy.qOp hi H
theorem anyT_lex {n g:Nat} {Lq:Act->Prop} (hsel:Region.noSelect ops=true) (hs:Region.sinkB md ops n=true) (hc:Region.chainB md ops n=true) (hn:n < ops.size) :
 ∀ (l:List Oper) (k:Nat) (listed:Array Bool) (a:Act),(∀ j,j < l.length->l[j]?=ops[k+j]?)->k+l.length=n->HeadInv md ops n listed ->
  Region.lexHead md ops g l.length k listed=true->wpQuiet P ops C Lq l a ->
  anyT P md ops C n (fun listed' a'=>Region.seqB md ops g n listed'=true∧Lq a') l.length listed a:=by
 intro l
 induction l with
 | nil =>
   intro k listed a _ hk _ hB h
   obtain rfl:k=n:=by simpa using hk
   exact⟨by simpa [Region.lexHead] using hB,h⟩
 | cons o l ih =>
   intro k listed a hl hk inv hB h
   have h0:ops[k]?=some o:=by simpa using (hl 0 (by simp)).symm
   simp only[List.length_cons,Region.lexHead,Bool.and_eq_true] at hB hk
   obtain⟨⟨hr,hf⟩,hB'⟩:=hB
   have hr':k∈Region.ready md ops listed:=by simpa using hr
   have hst:qOp P ops C k (wpQuiet P ops C Lq l) a:=by unfold qOp;simp only[h0];exact h
   obtain⟨v,hy,hK⟩:=yieldsIn_of_qOp h0 hst
   exact anyT_first h0 (Region.noSelect_spec hsel) hs hc hn (by omega) (fun listed' a' hL=>seqB_ready hL.1) l.length listed a inv (Region.free_spec h0 hf) hr' hy
    (ih (k+1) _ _ (fun j hj=>by have:=hl (j+1) (by simp;omega);simpa [Nat.add_assoc,Nat.add_comm 1 j] using this) (by omega) (inv.set hr' (by omega)) hB' hK)
theorem wp_region_tail {id:Nat} {Q:Exit->Act->World->Prop} {a:Act} {w:World} {l:List Oper} (n:Nat) (hm:P.follows .mixedOrders=true) (hB:Region.lexTailB .any l.toArray n=true) (hC:C { w with drawn:=w.drawn+1 })
 (h:wpQuiet P l.toArray C (fun a'=>∀ w',C w'->wpList P l.toArray Q (l.drop n) a' w') (l.take n) a):(Code.region id l.toArray true).wp P Q a w:=by
 simp only[Region.lexTailB,Bool.and_eq_true,decide_eq_true_eq] at hB
 obtain⟨⟨⟨⟨hsel,hn⟩,hs⟩,hc⟩,hlex⟩:=hB
 have hn':n < l.length:=by simpa using hn
 have htl:(l.take n).length=n:=by simp;omega
 have inv0:HeadInv .any l.toArray n (Array.replicate l.toArray.size false) :=
  ⟨by simp,(fun j oj _ hl=>by rw[getD_replicate_false] at hl;cases hl),fun t _ ht=>getD_in (by simpa using ht) (getD_replicate_false _ _)⟩
 have H:=anyT_lex (md:=.any) (C:=C) (g:=l.toArray.size - n) hsel hs hc hn (l.take n) 0 _ a (fun j hj=>by
  rw[htl] at hj
  simp[hj]) (by simpa using htl) inv0 (by rw[htl];exact hlex) h
 refine wp_region_any hm ?_
 have H2:=wpAny_of_anyT (Q:=Q) (g:=l.toArray.size - n) (fun listed a' w' hw' hL=>by
  have H3:=wpAny_of_seq (md:=.any) (Q':=Q) (l.drop n) n listed a' w' (fun j=>by simp[List.getElem?_drop]) (by simpa using hL.1) (hL.2 w' hw')
  simpa using H3) _ _ _ _ hC H
 rw[htl,show n+(l.toArray.size - n)=l.toArray.size by omega] at H2
 exact H2
theorem wp_region_ext_tail {id:Nat} {Q:Exit->Act->World->Prop} {a:Act} {w:World} {l:List Oper} (n:Nat) (hm:P.follows .mixedOrders=true) (hB:Region.lexTailB .any l.toArray n=true)
 (h:wpQuiet P l.toArray (Ext w) (fun a'=>∀ w',Ext w w'->wpList P l.toArray Q (l.drop n) a' w') (l.take n) a):(Code.region id l.toArray true).wp P Q a w :=
 wp_region_tail (C:=Ext w) n hm hB ((Ext.refl w).drewN 1) h
end
end
section
def decVal (l:Str):Nat:=l.foldl (fun a c=>a * 10+(c.toNat - 48)) 0
theorem foldl_dec (l:Str):∀ a:Nat,l.foldl (fun a c=>a * 10+(c.toNat - 48)) a=a * 10 ^ l.length+decVal l:=by
 induction l with
 | nil=>intro a;simp[decVal]
 | cons c l ih =>
   intro a
   have h1:=ih (a * 10+(c.toNat - 48))
   have h2:=ih (0 * 10+(c.toNat - 48))
   simp only[List.foldl_cons,List.length_cons,decVal] at h1 h2 ⊢
   rw[h1,h2,Nat.pow_succ,Nat.zero_mul,Nat.zero_add,Nat.add_mul,Nat.mul_assoc,Nat.mul_comm 10,Nat.add_assoc]
theorem decVal_cons (c:UInt8) (l:Str):decVal (c::l)=(c.toNat - 48) * 10 ^ l.length+decVal l:=by
 have:=foldl_dec l (0 * 10+(c.toNat - 48))
 simp only[Nat.zero_mul,Nat.zero_add] at this
 rw[<-this]
 simp[decVal]
theorem digit_bounds {c:UInt8} (h:digitB c=true):48<=c.toNat∧c.toNat<=57:=by simpa [digitB] using h
theorem decVal_lt:∀ l:Str,l.all digitB=true->decVal l < 10 ^ l.length
 | [],_=>by simp[decVal]
 | c::l,h=>by
   simp only[List.all_cons,Bool.and_eq_true] at h
   have h1:=decVal_lt l h.2
   have h2:=digit_bounds h.1
   rw[decVal_cons,List.length_cons,Nat.pow_succ]
   have:(c.toNat - 48) * 10 ^ l.length<=9 * 10 ^ l.length:=Nat.mul_le_mul_right _ (by omega)
   omega
theorem parse_digits:∀ (l:Str) (k acc:Nat),l.all digitB=true->acc < 10 ^ k->k+l.length<=18->Lib.parseUint10 acc l=.ok (acc * 10 ^ l.length+decVal l)
 | [],_,acc,_,_,_=>by simp[Lib.parseUint10,decVal]
 | c::l,k,acc,h,hk,hl=>by
   simp only[List.all_cons,Bool.and_eq_true] at h
   have h2:=digit_bounds h.1
   simp only[List.length_cons] at hl
   have hp:(10:Nat) ^ k<=10 ^ 17:=Nat.pow_le_pow_right (by decide) (by omega)
   have hp2:(10:Nat) ^ 17=100000000000000000:=by decide
   have hs:acc * 10+(c.toNat - 48) < 10 ^ (k+1):=by rw[Nat.pow_succ];omega
   unfold Lib.parseUint10
   rw[if_pos h2,if_neg (by omega),if_neg (by omega),parse_digits l (k+1) _ h.2 hs (by omega),decVal_cons,List.length_cons,Nat.pow_succ]
   rw[Nat.add_mul,Nat.mul_assoc,Nat.mul_comm 10,Nat.add_assoc]
theorem atoi_digits (l:Str) (h:l.all digitB=true) (h0:0 < l.length) (hl:l.length<=18):Lib.atoiAll l=.ok (decVal l):=by
 cases l with
 | nil=>simp at h0
 | cons c r =>
   have hc:digitB c=true:=by simp only[List.all_cons,Bool.and_eq_true] at h;exact h.1
   have h2:=digit_bounds hc
   have h3:=parse_digits (c::r) 0 0 h (by decide) (by omega)
   have h4:=decVal_lt (c::r) h
   have h5:(10:Nat) ^ (c::r).length<=10 ^ 18:=Nat.pow_le_pow_right (by decide) hl
   have h6:(10:Nat) ^ 18=1000000000000000000:=by decide
   rw[Nat.zero_mul,Nat.zero_add] at h3
   unfold Lib.atoiAll
   simp only[Lib.parseMag]
   have e1:¬ (c.toNat=43∨c.toNat=45):=by omega
   have e2:¬ c.toNat=45:=by omega
   rw[if_neg e1,if_neg (by simp),h3]
   simp only[e2,not_false_eq_true,true_and,false_and,if_false]
   rw[if_neg (by omega)]
end
section
def cmpWordL (a b:Str):Int :=
 if (numeralL a&&numeralL b)=true then (if a.length=b.length then Lib.compareBytes a b else Lib.compareInt a.length b.length)
 else if numeralL a=true then -1 else if numeralL b=true then 1 else Lib.compareBytes a b
def cmpWordsL (f:Str->Str->Int):List Str->List Str->Int
 | x::xs,y::ys=>if f x y=0 then cmpWordsL f xs ys else f x y
 | xs,ys=>Lib.compareInt xs.length ys.length
theorem compareInt_succ (a b:Nat):Lib.compareInt ((a+1:Nat):Int) ((b+1:Nat):Int)=Lib.compareInt a b:=by
 unfold Lib.compareInt
 by_cases h1:(a:Int) < b
 ·rw[if_pos h1,if_pos (by omega)]
 ·rw[if_neg h1,if_neg (by omega)]
  by_cases h2:(a:Int) > b
  ·rw[if_pos h2,if_pos (by omega)]
  ·rw[if_neg h2,if_neg (by omega)]
theorem cmpWords_end (f:Str->Str->Int):∀ (xs ys:List Str),(∀ j (h1:j < xs.length) (h2:j < ys.length),f xs[j] ys[j]=0)->cmpWordsL f xs ys=Lib.compareInt xs.length ys.length
 | [],ys,_=>by cases ys<;>rfl
 | x::xs,[],_=>rfl
 | x::xs,y::ys,h=>by
   have h0:f x y=0:=h 0 (by simp) (by simp)
   unfold cmpWordsL
   rw[if_pos h0,cmpWords_end f xs ys (fun j h1 h2=>h (j+1) (by simpa using h1) (by simpa using h2))]
   simp only[List.length_cons]
   rw[compareInt_succ]
theorem cmpWords_at (f:Str->Str->Int):∀ (xs ys:List Str) (k:Nat) (h1:k < xs.length) (h2:k < ys.length),(∀ j (hj:j < k),f xs[j] ys[j]=0)->f xs[k] ys[k]≠0->cmpWordsL f xs ys=f xs[k] ys[k]
 | x::xs,y::ys,0,_,_,_,h=>by unfold cmpWordsL;rw[if_neg (by simpa using h)];rfl
 | x::xs,y::ys,k+1,h1,h2,h0,h=>by
   have hz:f x y=0:=h0 0 (by omega)
   unfold cmpWordsL
   rw[if_pos hz]
   exact cmpWords_at f xs ys k (by simpa using h1) (by simpa using h2) (fun j hj=>h0 (j+1) (by omega)) (by simpa using h)
def cmpEarlyL (a b:Str):Int :=
 if a=b then 0 else if a=[] then 1 else if b=[] then -1 else cmpWordsL cmpWordL (splitC 46 a) (splitC 46 b)
def orderL (a1 a2 a3:Int) (a:Str) (b1 b2 b3:Int) (b:Str):Int:=firstI [Lib.compareInt a1 b1,Lib.compareInt a2 b2,Lib.compareInt a3 b3,cmpEarlyL a b]
end
section
open Go.RowKit
set_option maxHeartbeats 400000 in
theorem compareWords_any (a b:ByteArray) (w:World) (ha:a.size<=2097152) (hb:b.size<=2097152) :
 Calls Tryz.prog 244 #[.string a,.string b] w fun e w'=>e=.returned (.int .i64 (cmpWordL (bs a) (bs b)))∧w=w':=by
 go_enter Tryz.func244,Tryz.ntmps244
 go_wp2_with fail
 refine (isNumeral_any a _ ha).mono ?_
 rintro e w' ⟨rfl,rfl⟩
 go_wp2_with fail
 refine (isNumeral_any b _ hb).mono ?_
 rintro e w' ⟨rfl,rfl⟩
 cases h1:numeralL (bs a)<;>cases h2:numeralL (bs b)
 ·go_wp2_with fail
  refine (compare_any a b _).mono ?_
  rintro e w' ⟨rfl,rfl⟩
  go_wp2
  go_ret
  exact⟨ret_int (by rw[cmpWordL,h1,h2];rfl),rfl⟩
 ·go_wp2
  go_ret
  exact⟨ret_int (by rw[cmpWordL,h1,h2];rfl),rfl⟩
 ·go_wp2
  go_ret
  exact⟨ret_int (by rw[cmpWordL,h1,h2];rfl),rfl⟩
 ·by_cases h3:a.size=b.size
  ·have h4:(((a.size:Nat):Int) != ((b.size:Nat):Int))=false:=by rw[h3];simp
   have h5:(bs a).length=(bs b).length:=by rw[bs_length,bs_length,h3]
   have H5:=Hy h5
   clear h3 h5
   go_wp2_with fail
   refine (compare_any a b _).mono ?_
   rintro e w' ⟨rfl,rfl⟩
   go_wp2
   go_ret
   exact⟨ret_int (by rw[cmpWordL,h1,h2,if_pos (by rfl),if_pos H5.out]),rfl⟩
  ·have h4:(((a.size:Nat):Int) != ((b.size:Nat):Int))=true:=by rw[bne_iff_ne];omega
   have h5:¬ (bs a).length=(bs b).length:=by rw[bs_length,bs_length];exact h3
   have H5:=Hy h5
   clear h3 h5
   go_wp2_with fail
   refine (compareInt_any _ _ _).mono ?_
   rintro e w' ⟨rfl,rfl⟩
   go_wp2
   go_ret
   exact⟨ret_int (by rw[cmpWordL,h1,h2,if_pos (by rfl),if_neg H5.out,bs_length,bs_length]),rfl⟩
theorem map_bs_get {xs:List ByteArray} {k:Nat} (h:k < (xs.map bs).length):(xs.map bs)[k]=bs (xs[k]'(by simpa using h)):=by simp
theorem cmpWords_all {xs ys:List ByteArray} {X Y:List Str} (hX:xs.map bs=X) (hY:ys.map bs=Y) (h:∀ j (h1:j < xs.length) (h2:j < ys.length),cmpWordL (bs xs[j]) (bs ys[j])=0):cmpWordsL cmpWordL X Y=Lib.compareInt xs.length ys.length:=by
 subst hX hY
 rw[cmpWords_end _ _ _ (fun j h1 h2=>by rw[map_bs_get,map_bs_get];exact h j (by simpa using h1) (by simpa using h2))]
 simp
theorem cmpWords_hit {xs ys:List ByteArray} {X Y:List Str} (hX:xs.map bs=X) (hY:ys.map bs=Y) {k:Nat} (h1:k < xs.length) (h2:k < ys.length) (h:∀ j (hj:j < k),cmpWordL (bs xs[j]) (bs ys[j])=0) (hk:cmpWordL (bs xs[k]) (bs ys[k])≠0):cmpWordsL cmpWordL X Y=cmpWordL (bs xs[k]) (bs ys[k]):=by
 subst hX hY
 rw[cmpWords_at _ _ _ k (by simpa using h1) (by simpa using h2) (fun j hj=>by rw[map_bs_get,map_bs_get];exact h j hj) (by rw[map_bs_get,map_bs_get];exact hk),map_bs_get,map_bs_get]
theorem bs_inj {a b:ByteArray} (h:bs a=bs b):a=b:=by rw[<-mk_bs a,<-mk_bs b,h]
set_option maxHeartbeats 1000000 in
theorem compareEarly_any (a b:ByteArray) (w:World) (hg:Good w) (ha:a.size<=2097152) (hb:b.size<=2097152) :
 Calls Tryz.prog 149 #[.string a,.string b] w fun e w'=>e=.returned (.int .i64 (cmpEarlyL (bs a) (bs b)))∧Ext w w':=by
 go_enter Tryz.func149,Tryz.ntmps149
 by_cases hab:a=b
 ·subst hab
  have h1:(a.toList==a.toList)=true:=by simp
  go_wp2
  go_ret
  exact⟨ret_int (by rw[cmpEarlyL,if_pos rfl]),Ext.refl _⟩
 have hne:(a.toList==b.toList)=false:=by
  rw[beq_eq_false_iff_ne,ByteArray.toList_eq,ByteArray.toList_eq]
  exact fun e=>hab (bs_inj e)
 have hne2:¬ bs a=bs b:=fun e=>hab (bs_inj e)
 have HNE:=Hy hne2
 clear hab hne2
 rcases Nat.eq_zero_or_pos a.size with ha0|ha0
 ·have hi:=emp_bool ha0
  go_wp2
  go_ret
  exact⟨ret_int (by rw[cmpEarlyL,if_neg HNE.out,if_pos (bs_nil ha0)]),Ext.refl _⟩
 have hia:=nemp_bool ha0
 have hna:¬ bs a=[]:=fun e=>by have:=bs_length a;rw[e] at this;simp at this;omega
 have HNA:=Hy hna
 clear hna
 rcases Nat.eq_zero_or_pos b.size with hb0|hb0
 ·have hi:=emp_bool hb0
  go_wp2
  go_ret
  exact⟨ret_int (by rw[cmpEarlyL,if_neg HNE.out,if_neg HNA.out,if_pos (bs_nil hb0)]),Ext.refl _⟩
 have hib:=nemp_bool hb0
 have hnb:¬ bs b=[]:=fun e=>by have:=bs_length b;rw[e] at this;simp at this;omega
 have HNB:=Hy hnb
 clear hnb
 go_wp2_with fail
 refine (split_any 46 a _ hg ha).mono ?_
 rintro e w1 ⟨b1,xs,rfl,hb1,hst1,hxs,hx1⟩
 go_wp2_with fail
 refine (split_any 46 b _ (hg.ext hx1) hb).mono ?_
 rintro e w2 ⟨b2,ys,rfl,hb2,hst2,hys,hx2⟩
 have hl1:=pieces_le hxs
 have hl2:=pieces_le hys
 have HXS:=Hy hxs
 have HYS:=Hy hys
 clear hxs hys
 have hc1:=(hst1.ext hx2).cell
 have hc2:=hst2.cell
 have HC1:=Hy hc1
 have HC2:=Hy hc2
 have hx:=hx1.trans hx2
 clear hc1 hc2 hst1 hst2 hx1 hx2 hb2
 go_wp2
 go_loopw [28] (fun i wr=>∃ k:Nat,i=.int .i64 k∧k<=xs.length∧k<=ys.length∧(∀ j (h1:j < xs.length) (h2:j < ys.length),j < k->cmpWordL (bs xs[j]) (bs ys[j])=0)∧Ext w2 wr) (fun i _=>xs.length - (intOf i).toNat)
 case atStart=>exact⟨0,rfl,Nat.zero_le _,Nat.zero_le _,fun j _ _ h=>absurd h (by omega),Ext.refl _⟩
 case round =>
  obtain⟨k,rfl,hk1,hk2,hall,hxr⟩:=hrel
  have HALL:=Hy hall
  clear hall
  by_cases hlt:k < xs.length∧k < ys.length
  ·obtain⟨hlt1,hlt2⟩:=hlt
   have hm:(k:Int) < min (xs.length:Int) (ys.length:Int):=by omega
   have d1:=hxr.cell (HC1.out k hlt1)
   have d2:=hxr.cell (HC2.out k hlt2)
   have q1:=lt_of_cell d1
   have q2:=lt_of_cell d2
   have s1:=piece_le HXS.out hlt1
   have s2:=piece_le HYS.out hlt2
   go_wp2_with fail
   refine wp_region_ext (by kernel_rfl) (by kernel_rfl) ?_
   repeat (first|go_big_quiet_skip|(refine wpQuiet_step (fun K hK=>?_);go_simp;first|(refine hK _ ?_;clear hK K)|(apply Exists.intro;refine⟨fun wq hwq=>?_,hK _ ?_⟩;(obtain⟨hqc,hqf⟩:=hwq.cells;have hqs:=hwq.size;(try go_simp);first|rfl|((first|rw[if_neg (by omega)]|rw[if_pos (by omega)]);(try go_simp);rfl)|((go_at_call 244;refine (compareWords_any xs[k] ys[k] _ (by omega) (by omega)).mono (fun e w'' h=>⟨h.1,h.2 ▸ hwq⟩))));clear hK K)))
   refine wpQuiet_nil ?_
   intro wN hxN
   obtain⟨hcN,hfN⟩:=hxN.cells
   have hsN:=hxN.size
   by_cases hz:cmpWordL (bs xs[k]) (bs ys[k])=0
   ·have hz2:(cmpWordL (bs xs[k]) (bs ys[k]) != 0)=false:=by rw[hz];rfl
    have HZ:=Hy hz
    clear hz
    go_wp2
    go_roundw
    case rel =>
     refine⟨k+1,by go_num,by omega,by omega,fun j h1 h2 h3=>?_,hxr.trans hxN⟩
     by_cases hj:j=k
     ·subst hj;exact HZ.out
     ·exact HALL.out j h1 h2 (by omega)
    case measure=>simp[intOf];omega
   ·have hz2:(cmpWordL (bs xs[k]) (bs ys[k]) != 0)=true:=by rw[bne_iff_ne];exact hz
    have HZ:=Hy hz
    clear hz
    go_wp2
    go_ret
    refine⟨ret_int ?_,(hx.trans hxr).trans hxN⟩
    rw[cmpEarlyL,if_neg HNE.out,if_neg HNA.out,if_neg HNB.out,cmpWords_hit HXS.out HYS.out hlt1 hlt2 (fun j hj=>HALL.out j (by omega) (by omega) hj) HZ.out]
  ·have hm:¬ (k:Int) < min (xs.length:Int) (ys.length:Int):=by omega
   have hfin:cmpEarlyL (bs a) (bs b)=Lib.compareInt xs.length ys.length:=by
    rw[cmpEarlyL,if_neg HNE.out,if_neg HNA.out,if_neg HNB.out,cmpWords_all HXS.out HYS.out (fun j h1 h2=>HALL.out j h1 h2 (by omega))]
   have HFIN:=Hy hfin
   clear hfin
   go_wp2_with fail
   refine (compareInt_any _ _ _).mono ?_
   rintro e w' ⟨rfl,rfl⟩
   go_wp2
   go_ret
   exact⟨ret_int HFIN.out.symm,hx.trans hxr⟩
end
section
open Go.RowKit
set_option maxHeartbeats 400000 in
theorem Or_any (b c:Nat) (es:List Int) (w:World) (hc:∀ k (h:k < es.length),w.cell? ⟨b,k,none⟩=some (.int .i64 es[k])) (hl:es.length<=1000) :
 Calls Tryz.prog 84 #[.slice (some ⟨b,0,none⟩) es.length c] w fun e w'=>e=.returned (.int .i64 (firstI es))∧w=w':=by
 go_enter Tryz.func84,Tryz.ntmps84
 go_wp2
 go_loop [8] (fun i=>∃ k:Nat,k<=es.length∧i=.int .i64 k∧∀ x∈es.take k,x=0) (fun i=>es.length - (intOf i).toNat)
 case atStart=>exact⟨0,Nat.zero_le _,rfl,by simp⟩
 case round =>
  obtain⟨k,hk,rfl,hall⟩:=hrel
  have HALL:=Hy hall
  clear hall
  by_cases hlt:k < es.length
  ·have hk1:=hc k hlt
   have HC:=Hy hc
   clear hc
   by_cases h0:es[k]=0
   ·have H0:=Hy h0
    rw[h0] at hk1
    clear h0
    go_wp2
    go_round
    case rel=>exact⟨k+1,by omega,by go_num,take_zero_succ hlt HALL.out H0.out⟩
    case measure=>simp[intOf];omega
   ·have h1:(es[k] != 0)=true:=by rw[bne_iff_ne];exact h0
    go_wp2
    go_ret
    exact⟨ret_int (firstI_at hlt HALL.out h0).symm,rfl⟩
  ·obtain rfl:k=es.length:=by omega
   have HC:=Hy hc
   clear hc
   go_wp2
   go_ret
   exact⟨ret_int (firstI_zero (by simpa using HALL.out)).symm,rfl⟩
set_option maxHeartbeats 2000000 in
theorem Order_any (a1 a2 a3 b1 b2 b3:Int) (a b:ByteArray) (w:World) (hg:Good w) (ha:a.size<=2097152) (hb:b.size<=2097152) :
 Calls Tryz.prog 74 #[.agg #[.int .i64 a1,.int .i64 a2,.int .i64 a3,.string a],.agg #[.int .i64 b1,.int .i64 b2,.int .i64 b3,.string b]] w
  fun e w'=>e=.returned (.int .i64 (orderL a1 a2 a3 (bs a) b1 b2 b3 (bs b)))∧Ext w w':=by
 go_enter Tryz.func74,Tryz.ntmps74
 go_wp2_with fail
 refine wp_region_ext_tail 20 (by kernel_rfl) (by kernel_rfl) ?_
 simp only[List.take_succ_cons,List.take_zero,List.drop_succ_cons,List.drop_zero]
 repeat (first|go_big_quiet_skip|(refine wpQuiet_step (fun K hK=>?_);go_simp;first|(refine hK _ ?_;clear hK K)|(apply Exists.intro;refine⟨fun wq hwq=>?_,hK _ ?_⟩;(obtain⟨hqc,hqf⟩:=hwq.cells;have hqs:=hwq.size;(try go_simp);first|rfl|((first|rw[if_neg (by omega)]|rw[if_pos (by omega)]);(try go_simp);rfl)|((first|(go_at_call 85;exact (compareInt_any _ _ _).mono (fun e w'' h=>⟨h.1,h.2 ▸ hwq⟩))|(go_at_call 149;exact (compareEarly_any a b _ (hg.ext (Ext.trans Ext.au hwq)) ha hb).mono (fun e w'' h=>⟨h.1,hwq.trans h.2⟩)))));clear hK K)))
 refine wpQuiet_nil ?_
 intro wN hxN
 obtain⟨hcN,hfN⟩:=hxN.cells
 have hsN:=hxN.size
 go_wp2_with fail
 refine (Or_any _ _ [Lib.compareInt a1 b1,Lib.compareInt a2 b2,Lib.compareInt a3 b3,cmpEarlyL (bs a) (bs b)] _ ?_ (by simp)).mono ?_
 ·intro k hk
  rw[World.cell?_alloc_at _ _ _ _ rfl]
  match k,hk with
  | 0,_=>rfl
  | 1,_=>rfl
  | 2,_=>rfl
  | 3,_=>rfl
 rintro e w' ⟨rfl,rfl⟩
 go_wp2
 go_ret
 exact⟨rfl,(Ext.trans Ext.au hxN).alloc _⟩
structure Ver4 (w:World) (g:Nat) (a1 a2 a3:Int) (a:ByteArray):Prop where
 c0:w.cell? ⟨g,0,none⟩=some (.int .i64 a1)
 c1:w.cell? ⟨g,1,none⟩=some (.int .i64 a2)
 c2:w.cell? ⟨g,2,none⟩=some (.int .i64 a3)
 c3:w.cell? ⟨g,3,none⟩=some (.string a)
theorem Ver4.ext {w w':World} {g:Nat} {a1 a2 a3:Int} {a:ByteArray} (h:Ver4 w g a1 a2 a3 a) (hx:Ext w w'):Ver4 w' g a1 a2 a3 a:=⟨hx.cell h.c0,hx.cell h.c1,hx.cell h.c2,hx.cell h.c3⟩
theorem Ver4.lt {w:World} {g:Nat} {a1 a2 a3:Int} {a:ByteArray} (h:Ver4 w g a1 a2 a3 a):g < w.heap.size:=lt_of_cell h.c0
end
section
open Go.RowKit
abbrev verVal (a1 a2 a3:Int) (a:ByteArray):Value:=.agg #[.int .i64 a1,.int .i64 a2,.int .i64 a3,.string a]
def nextN (ma mi pa:Int) (e:Str) (part:Int):Option (Int × Int × Int) :=
 if part=0 then some (ma+1,0,0) else if part=1 then some (ma,mi+1,0) else if part=2 then some (ma,mi,if e=[] then pa+1 else pa) else none
def nextV (ma mi pa:Int) (e:Str) (part:Int):(Int × Int × Int) × Int :=
 if checkV ma mi pa e=0 then (match nextN ma mi pa e part with|none=>((0,0,0),3)|some v=>if checkV v.1 v.2.1 v.2.2 []=0 then (v,0) else ((0,0,0),3))
 else ((0,0,0),checkV ma mi pa e)
def NextPost (ma mi pa:Int) (e:Str) (part:Int) (w:World) (E:Ending) (w':World):Prop :=
 E=.returned (.tuple #[verVal (nextV ma mi pa e part).1.1 (nextV ma mi pa e part).1.2.1 (nextV ma mi pa e part).1.2.2 ⟨#[]⟩,.int .i64 (nextV ma mi pa e part).2])∧Ext w w'
theorem next_err {ma mi pa:Int} {e:Str} {part:Int} (h:checkV ma mi pa e≠0):nextV ma mi pa e part=((0,0,0),checkV ma mi pa e):=by rw[nextV,if_neg h]
theorem next_none {ma mi pa:Int} {e:Str} {part:Int} (h:checkV ma mi pa e=0) (h2:nextN ma mi pa e part=none):nextV ma mi pa e part=((0,0,0),3):=by rw[nextV,if_pos h,h2]
theorem next_ok {ma mi pa:Int} {e:Str} {part x y z:Int} (h:checkV ma mi pa e=0) (h2:nextN ma mi pa e part=some (x,y,z)) (h3:checkV x y z []=0):nextV ma mi pa e part=((x,y,z),0):=by
 rw[nextV,if_pos h,h2]
 simp only
 rw[if_pos h3]
theorem next_out {ma mi pa:Int} {e:Str} {part x y z:Int} (h:checkV ma mi pa e=0) (h2:nextN ma mi pa e part=some (x,y,z)) (h3:checkV x y z []≠0):nextV ma mi pa e part=((0,0,0),3):=by
 rw[nextV,if_pos h,h2]
 simp only
 rw[if_neg h3]
theorem post_next {ma mi pa:Int} {e:Str} {part:Int} {w w':World} {x y z r:Int} (h:nextV ma mi pa e part=((x,y,z),r)) (hx:Ext w w'):NextPost ma mi pa e part w (.returned (.tuple #[verVal x y z ⟨#[]⟩,.int .i64 r])) w':=by
 unfold NextPost
 rw[h]
 exact⟨rfl,hx⟩
set_option maxHeartbeats 2000000 in
theorem Next_any (ma mi pa part:Int) (ea:ByteArray) (w:World) (hg:Good w) (hs:ea.size<=2097152) :
 Calls Tryz.prog 14 #[.agg #[.int .i64 ma,.int .i64 mi,.int .i64 pa,.string ea],.int .i64 part] w (NextPost ma mi pa (bs ea) part w):=by
 go_enter Tryz.func14,Tryz.ntmps14
 go_wp2_with fail
 refine (Check_any ma mi pa ea _ (hg.ext Ext.au) hs).mono ?_
 rintro e w1 ⟨rfl,hx1⟩
 obtain⟨hc1,hf1⟩:=hx1.cells
 have hz1:=hx1.size
 have hz2:w.heap.size+1 < w1.heap.size:=by simp at hz1;omega
 have hz3:w.heap.size < w1.heap.size:=by omega
 clear hz1
 have hxx:Ext w w1:=Ext.trans Ext.au hx1
 by_cases h0:checkV ma mi pa (bs ea)=0
 ·obtain⟨p1,p2,p3,p4⟩:=checkV_ok h0
  obtain⟨p1,p1'⟩:=p1
  obtain⟨p2,p2'⟩:=p2
  obtain⟨p3,p3'⟩:=p3
  have H0:=Hy h0
  rw[h0]
  clear h0 p4
  by_cases hp0:part=0
  ·subst hp0
   have hN:nextN ma mi pa (bs ea) 0=some (ma+1,0,0):=by rw[nextN,if_pos rfl]
   have HN:=Hy hN
   clear hN
   go_wp2_with fail
   refine (Check_any (ma+1) (0) (0) ⟨#[]⟩ _ (hg.ext (Ext.trans hxx ?_)) (by decide)).mono ?_
   ·exact Ext.ad
   rintro e w2 ⟨rfl,hx2⟩
   obtain⟨hc2,hf2⟩:=hx2.cells
   have hz4:=hx2.size
   have hz5:w1.heap.size < w2.heap.size:=by simp at hz4;omega
   have hz6:w.heap.size+1 < w2.heap.size:=by omega
   have hx3:Ext w1 w2:=Ext.trans Ext.ad hx2
   have hx4:Ext w w2:=hxx.trans hx3
   clear hz4
   have hbe:bs { data:=#[] }=[]:=rfl
   by_cases h5:checkV (ma+1) (0) (0) (bs { data:=#[] })=0
   ·have H5:=Hy h5
    rw[h5]
    clear h5
    go_wp2
    refine bodyPost_ret (v:=.tuple #[verVal (ma+1) (0) (0) ⟨#[]⟩,.int .i64 0]) (by simp[results,Tryz.results14,go_sem,hc1,hc2,hz2,hz3]) rfl (post_next (next_ok H0.out HN.out H5.out) ?_)
    exact Ext.ad
   ·go_wp2
    refine bodyPost_ret (v:=.tuple #[verVal 0 0 0 ⟨#[]⟩,.int .i64 3]) (by simp[results,Tryz.results14,go_sem,hc1,hc2,hz2,hz3]) rfl (post_next (next_out H0.out HN.out h5) ?_)
    exact Ext.ad
  by_cases hp1:part=1
  ·subst hp1
   have hN:nextN ma mi pa (bs ea) 1=some (ma,mi+1,0):=by rw[nextN,if_neg (by decide),if_pos rfl]
   have HN:=Hy hN
   clear hN
   go_wp2_with fail
   refine (Check_any (ma) (mi+1) (0) ⟨#[]⟩ _ (hg.ext (Ext.trans hxx ?_)) (by decide)).mono ?_
   ·exact Ext.ad
   rintro e w2 ⟨rfl,hx2⟩
   obtain⟨hc2,hf2⟩:=hx2.cells
   have hz4:=hx2.size
   have hz5:w1.heap.size < w2.heap.size:=by simp at hz4;omega
   have hz6:w.heap.size+1 < w2.heap.size:=by omega
   have hx3:Ext w1 w2:=Ext.trans Ext.ad hx2
   have hx4:Ext w w2:=hxx.trans hx3
   clear hz4
   have hbe:bs { data:=#[] }=[]:=rfl
   by_cases h5:checkV (ma) (mi+1) (0) (bs { data:=#[] })=0
   ·have H5:=Hy h5
    rw[h5]
    clear h5
    go_wp2
    refine bodyPost_ret (v:=.tuple #[verVal (ma) (mi+1) (0) ⟨#[]⟩,.int .i64 0]) (by simp[results,Tryz.results14,go_sem,hc1,hc2,hz2,hz3]) rfl (post_next (next_ok H0.out HN.out H5.out) ?_)
    exact Ext.ad
   ·go_wp2
    refine bodyPost_ret (v:=.tuple #[verVal 0 0 0 ⟨#[]⟩,.int .i64 3]) (by simp[results,Tryz.results14,go_sem,hc1,hc2,hz2,hz3]) rfl (post_next (next_out H0.out HN.out h5) ?_)
    exact Ext.ad
  by_cases hp2:part=2
  ·subst hp2
   rcases Nat.eq_zero_or_pos ea.size with hs0|hs0
   ·have hi:=emp_bool hs0
    have hN:nextN ma mi pa (bs ea) 2=some (ma,mi,pa+1):=by rw[nextN,if_neg (by decide),if_neg (by decide),if_pos rfl,if_pos (bs_nil hs0)]
    have HN:=Hy hN
    clear hN
    go_wp2_with fail
    refine (Check_any (ma) (mi) (pa+1) ⟨#[]⟩ _ (hg.ext (Ext.trans hxx ?_)) (by decide)).mono ?_
    ·exact Ext.ad
    rintro e w2 ⟨rfl,hx2⟩
    obtain⟨hc2,hf2⟩:=hx2.cells
    have hz4:=hx2.size
    have hz5:w1.heap.size < w2.heap.size:=by simp at hz4;omega
    have hz6:w.heap.size+1 < w2.heap.size:=by omega
    have hx3:Ext w1 w2:=Ext.trans Ext.ad hx2
    have hx4:Ext w w2:=hxx.trans hx3
    clear hz4
    have hbe:bs { data:=#[] }=[]:=rfl
    by_cases h5:checkV (ma) (mi) (pa+1) (bs { data:=#[] })=0
    ·have H5:=Hy h5
     rw[h5]
     clear h5
     go_wp2
     refine bodyPost_ret (v:=.tuple #[verVal (ma) (mi) (pa+1) ⟨#[]⟩,.int .i64 0]) (by simp[results,Tryz.results14,go_sem,hc1,hc2,hz2,hz3]) rfl (post_next (next_ok H0.out HN.out H5.out) ?_)
     exact Ext.ad
    ·go_wp2
     refine bodyPost_ret (v:=.tuple #[verVal 0 0 0 ⟨#[]⟩,.int .i64 3]) (by simp[results,Tryz.results14,go_sem,hc1,hc2,hz2,hz3]) rfl (post_next (next_out H0.out HN.out h5) ?_)
     exact Ext.ad
   ·have hi:=nemp_bool hs0
    have hne:¬ bs ea=[]:=fun e=>by have:=bs_length ea;rw[e] at this;simp at this;omega
    have hN:nextN ma mi pa (bs ea) 2=some (ma,mi,pa):=by rw[nextN,if_neg (by decide),if_neg (by decide),if_pos rfl,if_neg hne]
    have HN:=Hy hN
    clear hN
    go_wp2_with fail
    refine (Check_any (ma) (mi) (pa) ⟨#[]⟩ _ (hg.ext (Ext.trans hxx ?_)) (by decide)).mono ?_
    ·exact Ext.ad
    rintro e w2 ⟨rfl,hx2⟩
    obtain⟨hc2,hf2⟩:=hx2.cells
    have hz4:=hx2.size
    have hz5:w1.heap.size < w2.heap.size:=by simp at hz4;omega
    have hz6:w.heap.size+1 < w2.heap.size:=by omega
    have hx3:Ext w1 w2:=Ext.trans Ext.ad hx2
    have hx4:Ext w w2:=hxx.trans hx3
    clear hz4
    have hbe:bs { data:=#[] }=[]:=rfl
    by_cases h5:checkV (ma) (mi) (pa) (bs { data:=#[] })=0
    ·have H5:=Hy h5
     rw[h5]
     clear h5
     go_wp2
     refine bodyPost_ret (v:=.tuple #[verVal (ma) (mi) (pa) ⟨#[]⟩,.int .i64 0]) (by simp[results,Tryz.results14,go_sem,hc1,hc2,hz2,hz3]) rfl (post_next (next_ok H0.out HN.out H5.out) ?_)
     exact Ext.ad
    ·go_wp2
     refine bodyPost_ret (v:=.tuple #[verVal 0 0 0 ⟨#[]⟩,.int .i64 3]) (by simp[results,Tryz.results14,go_sem,hc1,hc2,hz2,hz3]) rfl (post_next (next_out H0.out HN.out h5) ?_)
     exact Ext.ad
  have hN:nextN ma mi pa (bs ea) part=none:=by rw[nextN,if_neg hp0,if_neg hp1,if_neg hp2]
  have HN:=Hy hN
  have b0:(part==0)=false:=by simpa using hp0
  have b1:(part==1)=false:=by simpa using hp1
  have b2:(part==2)=false:=by simpa using hp2
  have b3:(part != 2)=true:=by simpa using hp2
  clear hN hp0 hp1 hp2
  go_wp2
  refine bodyPost_ret (v:=.tuple #[verVal 0 0 0 ⟨#[]⟩,.int .i64 3]) (by simp[results,Tryz.results14,go_sem,hc1,hz2]) rfl (post_next (next_none H0.out HN.out) ?_)
  exact Ext.ad
 ·go_wp2
  refine bodyPost_ret (v:=.tuple #[verVal 0 0 0 ⟨#[]⟩,.int .i64 (checkV ma mi pa (bs ea))]) (by simp[results,Tryz.results14,go_sem,hc1]) rfl (post_next (next_err h0) ?_)
  exact Ext.ad
end
section
open Go.RowKit
def numOk (l:Str):Bool:=eachL digitB l 9&&!((l.headD 0==48)&&(l != [48]))
def numV (l:Str):Int:=if numOk l=true then decVal l else 0
theorem eachL_digits {l:Str} {n:Nat} (h:eachL digitB l n=true):l.all digitB=true∧0 < l.length∧l.length<=n:=by
 unfold eachL at h
 simp only[Bool.and_eq_true,decide_eq_true_eq] at h
 exact⟨h.1.1,h.1.2,h.2⟩
theorem no_bad {x:ByteArray} {h0:0 < x.size} (hh:(bs x).headD 0=x[0]) (h1:(x[0].toNat:Int)=48) (h2:(!x.toList==[48])=true):numOk (bs x)=false:=by
 have h3:x[0]=48:=UInt8.toNat_inj.1 (by show x[0].toNat=48;omega)
 rw[ByteArray.toList_eq] at h2
 have h4:(bs x != [48])=true:=h2
 rw[numOk,hh,h3,h4]
 simp
theorem no_good1 {x:ByteArray} (hp:eachL digitB (bs x) 9=true) (h2:(!x.toList==[48])=false):numOk (bs x)=true:=by
 rw[ByteArray.toList_eq] at h2
 have h4:(bs x != [48])=false:=h2
 rw[numOk,hp,h4]
 simp
theorem no_good2 {x:ByteArray} {h0:0 < x.size} (hp:eachL digitB (bs x) 9=true) (hh:(bs x).headD 0=x[0]) (h1:¬ (x[0].toNat:Int)=48):numOk (bs x)=true:=by
 have h3:(x[0]==48)=false:=by
  rw[beq_eq_false_iff_ne]
  intro e
  rw[e] at h1
  exact h1 rfl
 rw[numOk,hp,hh,h3]
 simp
set_option maxHeartbeats 1000000 in
theorem number_any (s:ByteArray) (w:World) (hg:GoodN w) (hs:s.size<=2097152) :
 Calls Tryz.prog 89 #[.string s] w fun e w'=>e=.returned (.tuple #[.int .i64 (numV (bs s)),.bool (numOk (bs s))])∧Ext w w':=by
 go_enter Tryz.func89,Tryz.ntmps89
 go_wp2_with fail
 refine (each_list _ _ s 9 _ hs isDigit_pred).mono ?_
 rintro e w' ⟨rfl,rfl⟩
 cases hp:eachL digitB (bs s) 9
 ·go_wp2
  go_ret2
  refine⟨?_,Ext.refl _⟩
  have h1:numOk (bs s)=false:=by rw[numOk,hp];rfl
  rw[numV,h1]
  rfl
 ·have h0:=eachL_pos hp
  have hh:=head_bs s h0
  have HH:=Hy hh
  clear hh
  have hok:numOk (bs s)=true->numV (bs s)=(decVal (bs s):Nat)∧Lib.atoiAll (bs s)=.ok ((decVal (bs s):Nat):Int):=fun h=>by
   obtain⟨d1,d2,d3⟩:=eachL_digits hp
   exact⟨by rw[numV,if_pos h],atoi_digits _ d1 d2 (by omega)⟩
  have HOK:=Hy hok
  clear hok
  go_wp2_with fail
  ·go_ret2
   refine⟨?_,Ext.refl _⟩
   have h1:numOk (bs s)=false:=no_bad HH.out (by assumption) (by assumption)
   rw[numV,h1]
   rfl
  ·have hN:numOk (bs s)=true:=no_good1 hp (by assumption)
   have HN:=Hy hN
   clear hN
   refine (atoi_any s _ hg hs).mono ?_
   rintro e w1 ⟨v,ev,rfl,hx1,hv,hev⟩
   obtain⟨rfl,rfl⟩:=hv _ (HOK.out HN.out).2
   have hV:=(HOK.out HN.out).1
   have HV:=Hy hV
   clear hV hv hev
   go_wp2_with fail
   refine wp_region_ext (by kernel_rfl) (by kernel_rfl) ?_
   repeat (first|go_big_quiet_skip|(refine wpQuiet_step (fun K hK=>?_);go_simp;first|(refine hK _ ?_;clear hK K)|(apply Exists.intro;refine⟨fun wq hwq=>?_,hK _ ?_⟩;(obtain⟨hqc,hqf⟩:=hwq.cells;have hqs:=hwq.size;(try go_simp);first|rfl|((first|rw[if_neg (by omega)]|rw[if_pos (by omega)]);(try go_simp);rfl)|((fail)));clear hK K)))
   refine wpQuiet_nil ?_
   intro wN hxN
   obtain⟨hcN,hfN⟩:=hxN.cells
   have hsN:=hxN.size
   go_wp2
   go_ret2
   refine⟨?_,hx1.trans hxN⟩
   rw[HV.out,HN.out]
   rfl
  ·have hN:numOk (bs s)=true:=no_good2 hp HH.out (by assumption)
   have HN:=Hy hN
   clear hN
   refine (atoi_any s _ hg hs).mono ?_
   rintro e w1 ⟨v,ev,rfl,hx1,hv,hev⟩
   obtain⟨rfl,rfl⟩:=hv _ (HOK.out HN.out).2
   have hV:=(HOK.out HN.out).1
   have HV:=Hy hV
   clear hV hv hev
   go_wp2_with fail
   refine wp_region_ext (by kernel_rfl) (by kernel_rfl) ?_
   repeat (first|go_big_quiet_skip|(refine wpQuiet_step (fun K hK=>?_);go_simp;first|(refine hK _ ?_;clear hK K)|(apply Exists.intro;refine⟨fun wq hwq=>?_,hK _ ?_⟩;(obtain⟨hqc,hqf⟩:=hwq.cells;have hqs:=hwq.size;(try go_simp);first|rfl|((first|rw[if_neg (by omega)]|rw[if_pos (by omega)]);(try go_simp);rfl)|((fail)));clear hK K)))
   refine wpQuiet_nil ?_
   intro wN hxN
   obtain⟨hcN,hfN⟩:=hxN.cells
   have hsN:=hxN.size
   go_wp2
   go_ret2
   refine⟨?_,hx1.trans hxN⟩
   rw[HV.out,HN.out]
   rfl
end
section
open Go.RowKit
abbrev verVal' (a1 a2 a3:Int) (a:ByteArray):Value:=.agg #[.int .i64 a1,.int .i64 a2,.int .i64 a3,.string a]
def parseV (l:Str):(Int × Int × Int × Str) × Int :=
 match splitC 46 (cutC 45 l).1 with
 | [x,y,z] =>
   if ((cutC 45 l).2.2&&(cutC 45 l).2.1.isEmpty)=true then ((0,0,0,[]),8)
   else if (numOk x&&numOk y&&numOk z)=false then ((0,0,0,[]),8)
   else if checkV (numV x) (numV y) (numV z) (cutC 45 l).2.1=0 then ((numV x,numV y,numV z,(cutC 45 l).2.1),0)
   else ((0,0,0,[]),checkV (numV x) (numV y) (numV z) (cutC 45 l).2.1)
 | _=>((0,0,0,[]),8)
def ParsePost (l:Str) (w:World) (E:Ending) (w':World):Prop :=
 ∃ b:ByteArray,E=.returned (.tuple #[verVal' (parseV l).1.1 (parseV l).1.2.1 (parseV l).1.2.2.1 b,.int .i64 (parseV l).2])∧bs b=(parseV l).1.2.2.2∧b.size<=l.length∧Ext w w'
theorem post_parse0 {l:Str} {w w':World} {r:Int} (h:parseV l=((0,0,0,[]),r)) (hx:Ext w w'):ParsePost l w (.returned (.tuple #[verVal' 0 0 0 ⟨#[]⟩,.int .i64 r])) w' :=
 ⟨⟨#[]⟩,by rw[h],by rw[h],Nat.zero_le _,hx⟩
theorem parse_count {l:Str} (h:(splitC 46 (cutC 45 l).1).length≠3):parseV l=((0,0,0,[]),8):=by
 unfold parseV
 split
 ·rename_i x y z e;exact absurd (by rw[e];rfl) h
 ·rfl
theorem parse_tail {l:Str} {x y z:Str} (h:splitC 46 (cutC 45 l).1=[x,y,z]) (h2:((cutC 45 l).2.2&&(cutC 45 l).2.1.isEmpty)=true):parseV l=((0,0,0,[]),8):=by
 unfold parseV
 rw[h]
 simp only
 rw[if_pos h2]
theorem parse_num {l:Str} {x y z:Str} (h:splitC 46 (cutC 45 l).1=[x,y,z]) (h2:((cutC 45 l).2.2&&(cutC 45 l).2.1.isEmpty)=false) (h3:(numOk x&&numOk y&&numOk z)=false):parseV l=((0,0,0,[]),8):=by
 unfold parseV
 rw[h]
 simp only
 rw[if_neg (by rw[h2];decide),if_pos h3]
theorem parse_ok {l:Str} {x y z:Str} (h:splitC 46 (cutC 45 l).1=[x,y,z]) (h2:((cutC 45 l).2.2&&(cutC 45 l).2.1.isEmpty)=false) (h3:numOk x=true) (h4:numOk y=true) (h5:numOk z=true) :
 parseV l=if checkV (numV x) (numV y) (numV z) (cutC 45 l).2.1=0 then ((numV x,numV y,numV z,(cutC 45 l).2.1),0) else ((0,0,0,[]),checkV (numV x) (numV y) (numV z) (cutC 45 l).2.1):=by
 unfold parseV
 rw[h]
 simp only
 rw[if_neg (by rw[h2];decide),if_neg (by rw[h3,h4,h5];decide)]
theorem post_parse1 {l:Str} {w w':World} {a1 a2 a3:Int} {b:ByteArray} (h:parseV l=((a1,a2,a3,bs b),0)) (hb:b.size<=l.length) (hx:Ext w w'):ParsePost l w (.returned (.tuple #[verVal' a1 a2 a3 b,.int .i64 0])) w' :=
 ⟨b,by rw[h],by rw[h],hb,hx⟩
theorem three {xs:List ByteArray} (h:xs.length=3):∃ x y z,xs=[x,y,z]:=by
 match xs,h with
 | [x,y,z],_=>exact⟨x,y,z,rfl⟩
set_option maxHeartbeats 2000000 in
theorem Parse_any (s:ByteArray) (w:World) (hg:GoodN w) (hs:s.size<=2097152) :
 Calls Tryz.prog 26 #[.string s] w (ParsePost (bs s) w):=by
 go_enter Tryz.func26,Tryz.ntmps26
 go_wp2_with fail
 refine (cut_ex 45 s _ (hg.toGood.ext Ext.au) hs).mono ?_
 rintro e w1 ⟨nb,eb,fl,rfl,hcut,hsn,hse,hx1⟩
 have HCUT:=Hy hcut
 clear hcut
 go_wp2_with fail
 refine (split_any 46 nb _ ((hg.toGood.ext Ext.au).ext hx1) (by omega)).mono ?_
 rintro e w2 ⟨b,xs,rfl,hb0,hst,hxs,hx2⟩
 have hxx:Ext w w2:=(Ext.trans Ext.au hx1).trans hx2
 have hR:=((Blk.new w 23 #[.int .i64 0,.int .i64 0,.int .i64 0,.string ⟨#[]⟩]).ext hx1).ext hx2
 have rc:=hR.cell
 have rf:=hR.free
 have rl:=hR.lt
 by_cases h3:xs.length=3
 ·obtain⟨x,y,z,rfl⟩:=three h3
  have hsp:splitC 46 (cutC 45 (bs s)).1=[bs x,bs y,bs z]:=by rw[HCUT.out,<-hxs];rfl
  have HSP:=Hy hsp
  have c0:w2.cell? ⟨b,0,none⟩=some (.string x):=hst.cell 0 (by simp)
  have c1:w2.cell? ⟨b,1,none⟩=some (.string y):=hst.cell 1 (by simp)
  have c2:w2.cell? ⟨b,2,none⟩=some (.string z):=hst.cell 2 (by simp)
  have sx:x.size<=nb.size:=piece_le hxs (k:=0) (by simp)
  have sy:y.size<=nb.size:=piece_le hxs (k:=1) (by simp)
  have sz:z.size<=nb.size:=piece_le hxs (k:=2) (by simp)
  have hbl:=hst.lt
  clear h3 hxs hst hsp
  have htail:(cutC 45 (bs s)).2.2=fl∧(cutC 45 (bs s)).2.1=bs eb:=by rw[HCUT.out];exact⟨rfl,rfl⟩
  have HT:=Hy htail
  clear htail
  by_cases ht:fl=true∧eb.size=0
  ·obtain⟨rfl,he0⟩:=ht
   have hi:=emp_bool he0
   have hp:parseV (bs s)=((0,0,0,[]),8):=parse_tail HSP.out (by rw[HT.out.1,HT.out.2,bs_nil he0];rfl)
   have HP:=Hy hp
   clear hp
   go_wp2
   refine bodyPost_ret (v:=.tuple #[verVal' 0 0 0 ⟨#[]⟩,.int .i64 8]) (by simp[results,Tryz.results26,go_sem,rc]) rfl (post_parse0 HP.out ?_)
   exact Ext.ad
  have hT2:((cutC 45 (bs s)).2.2&&(cutC 45 (bs s)).2.1.isEmpty)=false:=by
   rw[HT.out.1,HT.out.2]
   cases fl
   ·rfl
   ·rcases Nat.eq_zero_or_pos eb.size with h0|h0
    ·exact absurd ⟨rfl,h0⟩ ht
    ·have:=nemp_bool h0
     rw[ByteArray.toList_eq] at this
     rw[this];rfl
  have HT2:=Hy hT2
  clear hT2
  have hq:fl=false∨(fl=true∧0 < eb.size):=by
   cases fl
   ·exact .inl rfl
   ·exact .inr ⟨rfl,Nat.pos_of_ne_zero fun h0=>ht ⟨rfl,h0⟩⟩
  clear ht
  rcases hq with rfl|⟨rfl,hq0⟩
  rotate_left
  ·have hi:=nemp_bool hq0
   go_wp2
   go_loopw [36] (fun i wr=>((i=.int .i64 0∧Blk wr w2.heap.size 130 #[.int .i64 0,.int .i64 0,.int .i64 0])∨(i=.int .i64 1∧numOk (bs x)=true∧Blk wr w2.heap.size 130 #[.int .i64 (numV (bs x)),.int .i64 0,.int .i64 0])∨(i=.int .i64 2∧numOk (bs x)=true∧numOk (bs y)=true∧Blk wr w2.heap.size 130 #[.int .i64 (numV (bs x)),.int .i64 (numV (bs y)),.int .i64 0])∨(i=.int .i64 3∧numOk (bs x)=true∧numOk (bs y)=true∧numOk (bs z)=true∧Blk wr w2.heap.size 130 #[.int .i64 (numV (bs x)),.int .i64 (numV (bs y)),.int .i64 (numV (bs z))]))∧Ext w2 wr) (fun i _=>3 - (intOf i).toNat)
   case atStart=>exact⟨.inl ⟨rfl,Blk.new w2 _ _⟩,(Ext.refl w2).alloc _⟩
   case round =>
    obtain⟨hi,hxr⟩:=hrel
    have rr:=hR.ext hxr
    have d0:=hxr.cell c0
    have d1:=hxr.cell c1
    have d2:=hxr.cell c2
    have gr:=((hg.ext Ext.au).ext hx1).ext (hx2.trans hxr)
    clear rc rf rl c0 c1 c2
    rcases hi with ⟨rfl,hA⟩|⟨rfl,o0,hA⟩|⟨rfl,o0,o1,hA⟩|⟨rfl,o0,o1,o2,hA⟩
    ·skip
     go_wp2_with fail
     refine (number_any x _ gr (by omega)).mono ?_
     rintro e w3 ⟨rfl,hx3⟩
     have hA3:=hA.ext hx3
     have ac:=hA3.cell
     have af:=hA3.free
     have rr3:=rr.ext hx3
     have rc:=rr3.cell
     have rf:=rr3.free
     cases hk:numOk (bs x)
     ·have HP:=Hy (parse_num HSP.out HT2.out (by rw[hk];simp))
      clear hk ac af
      go_wp2
      refine bodyPost_ret (v:=.tuple #[verVal' 0 0 0 ⟨#[]⟩,.int .i64 8]) (by simp[results,Tryz.results26,go_sem,rc]) rfl (post_parse0 HP.out ?_)
      have hx4:Ext w w3:=(hxx.trans hxr).trans hx3
      exact Ext.ad
     ·have OK:=Hy hk
      clear hk rc rf
      go_wp2
      go_roundw
      case rel=>exact⟨.inr (.inl ⟨rfl,OK.out,hA3.set 0 _⟩),Ext.setCell (hxr.trans hx3) (Nat.le_refl _) _⟩
      case measure=>decide
    ·have O0:=Hy o0;clear o0
     go_wp2_with fail
     refine (number_any y _ gr (by omega)).mono ?_
     rintro e w3 ⟨rfl,hx3⟩
     have hA3:=hA.ext hx3
     have ac:=hA3.cell
     have af:=hA3.free
     have rr3:=rr.ext hx3
     have rc:=rr3.cell
     have rf:=rr3.free
     cases hk:numOk (bs y)
     ·have HP:=Hy (parse_num HSP.out HT2.out (by rw[hk,O0.out];simp))
      clear hk ac af
      go_wp2
      refine bodyPost_ret (v:=.tuple #[verVal' 0 0 0 ⟨#[]⟩,.int .i64 8]) (by simp[results,Tryz.results26,go_sem,rc]) rfl (post_parse0 HP.out ?_)
      have hx4:Ext w w3:=(hxx.trans hxr).trans hx3
      exact Ext.ad
     ·have OK:=Hy hk
      clear hk rc rf
      go_wp2
      go_roundw
      case rel=>exact⟨.inr (.inr (.inl ⟨rfl,O0.out,OK.out,hA3.set 1 _⟩)),Ext.setCell (hxr.trans hx3) (Nat.le_refl _) _⟩
      case measure=>decide
    ·have O0:=Hy o0;have O1:=Hy o1;clear o0 o1
     go_wp2_with fail
     refine (number_any z _ gr (by omega)).mono ?_
     rintro e w3 ⟨rfl,hx3⟩
     have hA3:=hA.ext hx3
     have ac:=hA3.cell
     have af:=hA3.free
     have rr3:=rr.ext hx3
     have rc:=rr3.cell
     have rf:=rr3.free
     cases hk:numOk (bs z)
     ·have HP:=Hy (parse_num HSP.out HT2.out (by rw[hk,O0.out,O1.out];simp))
      clear hk ac af
      go_wp2
      refine bodyPost_ret (v:=.tuple #[verVal' 0 0 0 ⟨#[]⟩,.int .i64 8]) (by simp[results,Tryz.results26,go_sem,rc]) rfl (post_parse0 HP.out ?_)
      have hx4:Ext w w3:=(hxx.trans hxr).trans hx3
      exact Ext.ad
     ·have OK:=Hy hk
      clear hk rc rf
      go_wp2
      go_roundw
      case rel=>exact⟨.inr (.inr (.inr (⟨rfl,O0.out,O1.out,OK.out,hA3.set 2 _⟩))),Ext.setCell (hxr.trans hx3) (Nat.le_refl _) _⟩
      case measure=>decide
    ·have O0:=Hy o0;have O1:=Hy o1;have O2:=Hy o2;clear o0 o1 o2
     have ac:=hA.cell
     have rc:=rr.cell
     have rf:=rr.free
     have rl:=rr.lt
     have hp:=parse_ok HSP.out HT2.out O0.out O1.out O2.out
     rw[HT.out.2] at hp
     have HP:=Hy hp
     clear hp
     go_wp2_with fail
     refine (Check_any _ _ _ eb _ (gr.toGood.ext Ext.au) (by omega)).mono ?_
     rintro e w3 ⟨rfl,hx3⟩
     have hx4:Ext w w3:=Ext.trans (Ext.trans (hxx.trans hxr) Ext.au) hx3
     have rr3:=(rr.alloc _).ext hx3
     have rc3:=rr3.cell
     have rf3:=rr3.free
     obtain⟨hc3,hf3⟩:=hx3.cells
     clear ac rc rf
     have vb:=(Blk.new wr 23 #[.int .i64 (numV (bs x)),.int .i64 (numV (bs y)),.int .i64 (numV (bs z)),.string eb]).ext hx3
     have vc:=vb.cell
     by_cases h5:checkV (numV (bs x)) (numV (bs y)) (numV (bs z)) (bs eb)=0
     ·have H5:=Hy h5
      rw[h5]
      clear h5
      go_wp2
      refine bodyPost_ret (v:=.tuple #[verVal' (numV (bs x)) (numV (bs y)) (numV (bs z)) eb,.int .i64 0]) (by simp[results,Tryz.results26,go_sem,rc3]) rfl (post_parse1 (by rw[HP.out,if_pos H5.out]) (by rw[bs_length];exact hse) ?_)
      exact Ext.ad
     ·have H5:=Hy h5
      go_wp2
      refine bodyPost_ret (v:=.tuple #[verVal' 0 0 0 ⟨#[]⟩,.int .i64 (checkV (numV (bs x)) (numV (bs y)) (numV (bs z)) (bs eb))]) (by simp[results,Tryz.results26,go_sem,rc3]) rfl (post_parse0 (by rw[HP.out,if_neg H5.out]) ?_)
      exact Ext.ad
  ·go_wp2
   go_loopw [36] (fun i wr=>((i=.int .i64 0∧Blk wr w2.heap.size 130 #[.int .i64 0,.int .i64 0,.int .i64 0])∨(i=.int .i64 1∧numOk (bs x)=true∧Blk wr w2.heap.size 130 #[.int .i64 (numV (bs x)),.int .i64 0,.int .i64 0])∨(i=.int .i64 2∧numOk (bs x)=true∧numOk (bs y)=true∧Blk wr w2.heap.size 130 #[.int .i64 (numV (bs x)),.int .i64 (numV (bs y)),.int .i64 0])∨(i=.int .i64 3∧numOk (bs x)=true∧numOk (bs y)=true∧numOk (bs z)=true∧Blk wr w2.heap.size 130 #[.int .i64 (numV (bs x)),.int .i64 (numV (bs y)),.int .i64 (numV (bs z))]))∧Ext w2 wr) (fun i _=>3 - (intOf i).toNat)
   case atStart=>exact⟨.inl ⟨rfl,Blk.new w2 _ _⟩,(Ext.refl w2).alloc _⟩
   case round =>
    obtain⟨hi,hxr⟩:=hrel
    have rr:=hR.ext hxr
    have d0:=hxr.cell c0
    have d1:=hxr.cell c1
    have d2:=hxr.cell c2
    have gr:=((hg.ext Ext.au).ext hx1).ext (hx2.trans hxr)
    clear rc rf rl c0 c1 c2
    rcases hi with ⟨rfl,hA⟩|⟨rfl,o0,hA⟩|⟨rfl,o0,o1,hA⟩|⟨rfl,o0,o1,o2,hA⟩
    ·skip
     go_wp2_with fail
     refine (number_any x _ gr (by omega)).mono ?_
     rintro e w3 ⟨rfl,hx3⟩
     have hA3:=hA.ext hx3
     have ac:=hA3.cell
     have af:=hA3.free
     have rr3:=rr.ext hx3
     have rc:=rr3.cell
     have rf:=rr3.free
     cases hk:numOk (bs x)
     ·have HP:=Hy (parse_num HSP.out HT2.out (by rw[hk];simp))
      clear hk ac af
      go_wp2
      refine bodyPost_ret (v:=.tuple #[verVal' 0 0 0 ⟨#[]⟩,.int .i64 8]) (by simp[results,Tryz.results26,go_sem,rc]) rfl (post_parse0 HP.out ?_)
      have hx4:Ext w w3:=(hxx.trans hxr).trans hx3
      exact Ext.ad
     ·have OK:=Hy hk
      clear hk rc rf
      go_wp2
      go_roundw
      case rel=>exact⟨.inr (.inl ⟨rfl,OK.out,hA3.set 0 _⟩),Ext.setCell (hxr.trans hx3) (Nat.le_refl _) _⟩
      case measure=>decide
    ·have O0:=Hy o0;clear o0
     go_wp2_with fail
     refine (number_any y _ gr (by omega)).mono ?_
     rintro e w3 ⟨rfl,hx3⟩
     have hA3:=hA.ext hx3
     have ac:=hA3.cell
     have af:=hA3.free
     have rr3:=rr.ext hx3
     have rc:=rr3.cell
     have rf:=rr3.free
     cases hk:numOk (bs y)
     ·have HP:=Hy (parse_num HSP.out HT2.out (by rw[hk,O0.out];simp))
      clear hk ac af
      go_wp2
      refine bodyPost_ret (v:=.tuple #[verVal' 0 0 0 ⟨#[]⟩,.int .i64 8]) (by simp[results,Tryz.results26,go_sem,rc]) rfl (post_parse0 HP.out ?_)
      have hx4:Ext w w3:=(hxx.trans hxr).trans hx3
      exact Ext.ad
     ·have OK:=Hy hk
      clear hk rc rf
      go_wp2
      go_roundw
      case rel=>exact⟨.inr (.inr (.inl ⟨rfl,O0.out,OK.out,hA3.set 1 _⟩)),Ext.setCell (hxr.trans hx3) (Nat.le_refl _) _⟩
      case measure=>decide
    ·have O0:=Hy o0;have O1:=Hy o1;clear o0 o1
     go_wp2_with fail
     refine (number_any z _ gr (by omega)).mono ?_
     rintro e w3 ⟨rfl,hx3⟩
     have hA3:=hA.ext hx3
     have ac:=hA3.cell
     have af:=hA3.free
     have rr3:=rr.ext hx3
     have rc:=rr3.cell
     have rf:=rr3.free
     cases hk:numOk (bs z)
     ·have HP:=Hy (parse_num HSP.out HT2.out (by rw[hk,O0.out,O1.out];simp))
      clear hk ac af
      go_wp2
      refine bodyPost_ret (v:=.tuple #[verVal' 0 0 0 ⟨#[]⟩,.int .i64 8]) (by simp[results,Tryz.results26,go_sem,rc]) rfl (post_parse0 HP.out ?_)
      have hx4:Ext w w3:=(hxx.trans hxr).trans hx3
      exact Ext.ad
     ·have OK:=Hy hk
      clear hk rc rf
      go_wp2
      go_roundw
      case rel=>exact⟨.inr (.inr (.inr (⟨rfl,O0.out,O1.out,OK.out,hA3.set 2 _⟩))),Ext.setCell (hxr.trans hx3) (Nat.le_refl _) _⟩
      case measure=>decide
    ·have O0:=Hy o0;have O1:=Hy o1;have O2:=Hy o2;clear o0 o1 o2
     have ac:=hA.cell
     have rc:=rr.cell
     have rf:=rr.free
     have rl:=rr.lt
     have hp:=parse_ok HSP.out HT2.out O0.out O1.out O2.out
     rw[HT.out.2] at hp
     have HP:=Hy hp
     clear hp
     go_wp2_with fail
     refine (Check_any _ _ _ eb _ (gr.toGood.ext Ext.au) (by omega)).mono ?_
     rintro e w3 ⟨rfl,hx3⟩
     have hx4:Ext w w3:=Ext.trans (Ext.trans (hxx.trans hxr) Ext.au) hx3
     have rr3:=(rr.alloc _).ext hx3
     have rc3:=rr3.cell
     have rf3:=rr3.free
     obtain⟨hc3,hf3⟩:=hx3.cells
     clear ac rc rf
     have vb:=(Blk.new wr 23 #[.int .i64 (numV (bs x)),.int .i64 (numV (bs y)),.int .i64 (numV (bs z)),.string eb]).ext hx3
     have vc:=vb.cell
     by_cases h5:checkV (numV (bs x)) (numV (bs y)) (numV (bs z)) (bs eb)=0
     ·have H5:=Hy h5
      rw[h5]
      clear h5
      go_wp2
      refine bodyPost_ret (v:=.tuple #[verVal' (numV (bs x)) (numV (bs y)) (numV (bs z)) eb,.int .i64 0]) (by simp[results,Tryz.results26,go_sem,rc3]) rfl (post_parse1 (by rw[HP.out,if_pos H5.out]) (by rw[bs_length];exact hse) ?_)
      exact Ext.ad
     ·have H5:=Hy h5
      go_wp2
      refine bodyPost_ret (v:=.tuple #[verVal' 0 0 0 ⟨#[]⟩,.int .i64 (checkV (numV (bs x)) (numV (bs y)) (numV (bs z)) (bs eb))]) (by simp[results,Tryz.results26,go_sem,rc3]) rfl (post_parse0 (by rw[HP.out,if_neg H5.out]) ?_)
      exact Ext.ad
 ·have b3:((xs.length:Int) != 3)=true:=by rw[bne_iff_ne];omega
  have hp:parseV (bs s)=((0,0,0,[]),8):=parse_count (by rw[HCUT.out,<-hxs,List.length_map];exact h3)
  have HP:=Hy hp
  clear hp h3 hxs hst
  go_wp2
  refine bodyPost_ret (v:=.tuple #[verVal' 0 0 0 ⟨#[]⟩,.int .i64 8]) (by simp[results,Tryz.results26,go_sem,rc]) rfl (post_parse0 HP.out ?_)
  exact Ext.ad
end
section
open Go.RowKit
theorem u8_all (p:UInt8->Bool) (h:(List.range 256).all (fun n=>p (UInt8.ofNat n))=true) (c:UInt8):p c=true:=by
 have h1:=List.all_eq_true.1 h c.toNat (List.mem_range.2 c.toNat_lt)
 simpa using h1
def ofL (l cs:Str):Bool:=l.all (cs.contains ·)
theorem indexByte_out {c:UInt8} {l:Str} (h:l.contains c=false):Lib.indexByte l c < 0:=by
 rw[indexByte_none c l (by simpa using h)];decide
theorem indexByte_in {c:UInt8} {l:Str} (h:l.contains c=true):¬ Lib.indexByte l c < 0:=by
 rcases first_cut c l with h1|⟨a,r,ha,rfl⟩
 ·exact absurd h (by simpa using h1)
 ·rw[indexByte_app c r a ha];omega
theorem trim_empty (l cs:Str) (h:ofL l cs=true):Lib.trimS l cs=[]:=by
 unfold Lib.trimS Lib.trimRightS Lib.trimLeftS
 have h1:∀ x∈l.reverse,cs.contains x=true:=fun x hx=>by
  have:=List.all_eq_true.1 h x (by simpa using hx)
  exact this
 rw[(while_all (fun x=>cs.contains x) l.reverse h1).2]
 rfl
set_option maxHeartbeats 400000 in
theorem inner_any (s cs:ByteArray) (w:World) (hs:s.size<=2097152) :
 Calls Tryz.prog 148 #[.string s,.string cs] w fun e w'=>e=.returned (.bool (ofL (bs s) (bs cs)))∧w=w':=by
 go_enter Tryz.func148,Tryz.ntmps148
 go_wp2
 go_loop [8] (fun i=>∃ k:Nat,k<=s.size∧i=.int .i64 k∧(s.data.toList.take k).all (fun c=>(bs cs).contains c)=true) (fun i=>s.size - (intOf i).toNat)
 case atStart=>exact⟨0,Nat.zero_le _,rfl,by simp⟩
 case round =>
  obtain⟨k,hk,rfl,hall⟩:=hrel
  have HALL:=Hy hall
  clear hall
  by_cases hlt:k < s.size
  ·have hfa:=all_false_of (fun c=>(bs cs).contains c) s k hlt
   have hsu:=all_take_succ (fun c=>(bs cs).contains c) s k hlt
   have HFA:=Hy hfa
   have HSU:=Hy hsu
   clear hfa hsu
   go_wp2_with fail
   refine (indexByte_any cs s[k] _).mono ?_
   rintro e w' ⟨rfl,rfl⟩
   cases hp:(bs cs).contains s[k]
   ·have hn:=indexByte_out hp
    have HP:=Hy hp
    clear hp
    go_wp2
    go_ret
    refine⟨ret_bool ?_,rfl⟩
    unfold ofL
    exact (HFA.out HP.out).symm
   ·have hn:=indexByte_in hp
    have HP:=Hy hp
    clear hp
    go_wp2
    go_round
    case rel=>exact⟨k+1,by omega,by go_num,by rw[HSU.out,HALL.out,HP.out];rfl⟩
    case measure=>simp[intOf];omega
  ·obtain rfl:k=s.size:=by omega
   go_wp2
   go_ret
   refine⟨ret_bool ?_,rfl⟩
   rw[take_size] at HALL
   exact HALL.out.symm
def asciiB (l:Str):Bool:=l.all fun c=>decide (c.toNat < 128)
theorem ascii_at {l:Str} (h:asciiB l=true):∀ (j:Nat) b,l[j]?=some b->b.toNat < 128:=fun j b hb=>by
 have:=List.all_eq_true.1 h b (List.mem_of_getElem? hb)
 simpa using this
set_option maxHeartbeats 400000 in
theorem Of_any (s cs:ByteArray) (w:World) (hs:s.size<=2097152) (hcs:cs.size<=1000) (ha:asciiB (bs cs)=true) :
 Calls Tryz.prog 72 #[.string s,.string cs] w fun e w'=>e=.returned (.bool (ofL (bs s) (bs cs)))∧Ext w w':=by
 have hasc:=ascii_at ha
 have HASC:=Hy hasc
 clear hasc
 go_enter Tryz.func72,Tryz.ntmps72
 go_wp2_with fail
 refine (trim_any s cs _ hs hcs HASC.out).mono ?_
 rintro e w1 ⟨rfl,hx1⟩
 by_cases ht:Lib.trimS (bs s) (bs cs)=[]
 ·have HT:=Hy ht
  rw[ht]
  clear ht
  go_wp2_with fail
  refine (inner_any s cs _ hs).mono ?_
  rintro e w' ⟨rfl,rfl⟩
  go_wp2
  go_ret
  exact⟨rfl,hx1⟩
 ·have hf:ofL (bs s) (bs cs)=false:=by
   cases h:ofL (bs s) (bs cs)
   ·rfl
   ·exact absurd (trim_empty _ _ h) ht
  have HF:=Hy hf
  clear hf
  go_wp2
  go_ret
  exact⟨ret_bool HF.out.symm,hx1⟩
def smallS:Str:=[97,98,99,100,101,102,103,104,105,106,107,108,109,110,111,112,113,114,115,116,117,118,119,120,121,122]
def greatS:Str:=[65,66,67,68,69,70,71,72,73,74,75,76,77,78,79,80,81,82,83,84,85,86,87,88,89,90]
def digitS:Str:=[48,49,50,51,52,53,54,55,56,57]
theorem small_set (c:UInt8):smallS.contains c=smallB c:=eq_of_beq (u8_all (fun c=>smallS.contains c==smallB c) (by decide +kernel) c)
theorem digit_set (c:UInt8):digitS.contains c=digitB c:=eq_of_beq (u8_all (fun c=>digitS.contains c==digitB c) (by decide +kernel) c)
theorem word_set (c:UInt8):(smallS++digitS).contains c=wordB c:=eq_of_beq (u8_all (fun c=>(smallS++digitS).contains c==wordB c) (by decide +kernel) c)
theorem name_set (c:UInt8):(smallS++digitS++[45,46]).contains c=nameB c:=eq_of_beq (u8_all (fun c=>(smallS++digitS++[45,46]).contains c==nameB c) (by decide +kernel) c)
theorem part_set (c:UInt8):(smallS++greatS++digitS++[45,46,95]).contains c=partB c:=eq_of_beq (u8_all (fun c=>(smallS++greatS++digitS++[45,46,95]).contains c==partB c) (by decide +kernel) c)
theorem of_set {p:UInt8->Bool} {cs:Str} (h:∀ c,cs.contains c=p c) (l:Str):ofL l cs=l.all p:=by
 unfold ofL
 congr 1
 funext c
 exact h c
theorem of_name (s:ByteArray) (w:World) (hs:s.size<=2097152) :
 Calls Tryz.prog 72 #[.string s,.string ⟨#[97,98,99,100,101,102,103,104,105,106,107,108,109,110,111,112,113,114,115,116,117,118,119,120,121,122,48,49,50,51,52,53,54,55,56,57,45,46]⟩] w fun e w'=>e=.returned (.bool ((bs s).all nameB))∧Ext w w' :=
 (Of_any s ⟨#[97,98,99,100,101,102,103,104,105,106,107,108,109,110,111,112,113,114,115,116,117,118,119,120,121,122,48,49,50,51,52,53,54,55,56,57,45,46]⟩ w hs (by decide) (by decide)).mono fun _ _ ⟨h,k⟩=>⟨by rw[h];exact ret_bool (of_set name_set (bs s)),k⟩
theorem of_small (s:ByteArray) (w:World) (hs:s.size<=2097152) :
 Calls Tryz.prog 72 #[.string s,.string ⟨#[97,98,99,100,101,102,103,104,105,106,107,108,109,110,111,112,113,114,115,116,117,118,119,120,121,122]⟩] w fun e w'=>e=.returned (.bool ((bs s).all smallB))∧Ext w w' :=
 (Of_any s ⟨#[97,98,99,100,101,102,103,104,105,106,107,108,109,110,111,112,113,114,115,116,117,118,119,120,121,122]⟩ w hs (by decide) (by decide)).mono fun _ _ ⟨h,k⟩=>⟨by rw[h];exact ret_bool (of_set small_set (bs s)),k⟩
theorem of_digit (s:ByteArray) (w:World) (hs:s.size<=2097152) :
 Calls Tryz.prog 72 #[.string s,.string ⟨#[48,49,50,51,52,53,54,55,56,57]⟩] w fun e w'=>e=.returned (.bool ((bs s).all digitB))∧Ext w w' :=
 (Of_any s ⟨#[48,49,50,51,52,53,54,55,56,57]⟩ w hs (by decide) (by decide)).mono fun _ _ ⟨h,k⟩=>⟨by rw[h];exact ret_bool (of_set digit_set (bs s)),k⟩
theorem of_word (s:ByteArray) (w:World) (hs:s.size<=2097152) :
 Calls Tryz.prog 72 #[.string s,.string ⟨#[97,98,99,100,101,102,103,104,105,106,107,108,109,110,111,112,113,114,115,116,117,118,119,120,121,122,48,49,50,51,52,53,54,55,56,57]⟩] w fun e w'=>e=.returned (.bool ((bs s).all wordB))∧Ext w w' :=
 (Of_any s ⟨#[97,98,99,100,101,102,103,104,105,106,107,108,109,110,111,112,113,114,115,116,117,118,119,120,121,122,48,49,50,51,52,53,54,55,56,57]⟩ w hs (by decide) (by decide)).mono fun _ _ ⟨h,k⟩=>⟨by rw[h];exact ret_bool (of_set word_set (bs s)),k⟩
theorem of_part (s:ByteArray) (w:World) (hs:s.size<=2097152) :
 Calls Tryz.prog 72 #[.string s,.string ⟨#[97,98,99,100,101,102,103,104,105,106,107,108,109,110,111,112,113,114,115,116,117,118,119,120,121,122,65,66,67,68,69,70,71,72,73,74,75,76,77,78,79,80,81,82,83,84,85,86,87,88,89,90,48,49,50,51,52,53,54,55,56,57,45,46,95]⟩] w fun e w'=>e=.returned (.bool ((bs s).all partB))∧Ext w w' :=
 (Of_any s ⟨#[97,98,99,100,101,102,103,104,105,106,107,108,109,110,111,112,113,114,115,116,117,118,119,120,121,122,65,66,67,68,69,70,71,72,73,74,75,76,77,78,79,80,81,82,83,84,85,86,87,88,89,90,48,49,50,51,52,53,54,55,56,57,45,46,95]⟩ w hs (by decide) (by decide)).mono fun _ _ ⟨h,k⟩=>⟨by rw[h];exact ret_bool (of_set part_set (bs s)),k⟩
theorem head_take (s:ByteArray) (h:0 < s.size):bs (s.extract 0 1)=[s[0]]:=by
 have h1:s.data.toList[0]?=some s[0]:=Lib.data_getElem? s 0 h
 unfold bs
 rw[Lib.extract_data]
 cases hl:s.data.toList with
 | nil=>rw[hl] at h1;cases h1
 | cons x r=>rw[hl] at h1;simp at h1;simp[h1]
set_option maxHeartbeats 1000000 in
theorem NameOf_any (s:ByteArray) (w:World) (hs:s.size<=2097152) :
 Calls Tryz.prog 19 #[.string s] w fun e w'=>e=.returned (.bool (nameL (bs s)))∧Ext w w':=by
 go_enter Tryz.func19,Tryz.ntmps19
 rcases Nat.eq_zero_or_pos s.size with h0|h0
 ·have hi:=emp_bool h0
  go_wp2
  go_ret
  exact⟨ret_bool (by rw[bs_nil h0];rfl),Ext.refl _⟩
 ·have hi:=nemp_bool h0
  by_cases h40:s.size<=40
  ·have he:eachL nameB (bs s) 40=(bs s).all nameB:=by
    unfold eachL
    rw[bs_length,decide_eq_true h0,decide_eq_true h40,Bool.and_true,Bool.and_true]
   have hh:=head_bs s h0
   have ht:=head_take s h0
   have HE:=Hy he
   have HH:=Hy hh
   have HT:=Hy ht
   clear he hh ht
   go_wp2_with fail
   refine (of_name s _ hs).mono ?_
   rintro e w1 ⟨rfl,hx1⟩
   cases hn:(bs s).all nameB
   ·have HN:=Hy hn
    clear hn
    go_wp2
    go_ret
    exact⟨ret_bool (by rw[nameL,HE.out,HN.out];rfl),hx1⟩
   ·have HN:=Hy hn
    clear hn
    have hsz:(s.extract 0 1).size<=2097152:=by rw[<-bs_length,HT.out];simp
    go_wp2_with fail
    refine (of_small _ _ hsz).mono ?_
    rintro e w2 ⟨rfl,hx2⟩
    rw[HT.out]
    go_wp2
    go_ret
    exact⟨ret_bool (by rw[nameL,HE.out,HN.out,HH.out];simp),hx1.trans hx2⟩
  ·have hn:nameL (bs s)=false:=by
    have:eachL nameB (bs s) 40=false:=by
     unfold eachL
     rw[bs_length,decide_eq_false h40];simp
    rw[nameL,this];rfl
   have HN:=Hy hn
   clear hn
   go_wp2
   go_ret
   exact⟨ret_bool HN.out.symm,Ext.refl _⟩
theorem partL_eq (l:Str):partL l=((l != [])&&(l != [46])&&(l != [46,46])&&decide (l.length<=40)&&l.all partB):=by
 unfold partL eachL
 cases l with
 | nil=>simp
 | cons x r =>
   have:decide (0 < (x::r).length)=true:=by simp
   rw[this]
   have h2:((x::r) != ([]:Str))=true:=rfl
   rw[h2]
   generalize (x::r).all partB=a
   generalize decide ((x::r).length<=40)=b
   generalize ((x::r) != [46])=c
   generalize ((x::r) != [46,46])=d
   cases a<;>cases b<;>cases c<;>cases d<;>rfl
theorem tl_beq (s:ByteArray) (l:Str):(s.toList==l)=(bs s==l):=by rw[ByteArray.toList_eq]
set_option maxHeartbeats 2000000 in
theorem PathOf_any (s:ByteArray) (w:World) (hg:Good w) (hs:s.size<=2097152) :
 Calls Tryz.prog 21 #[.string s] w fun e w'=>e=.returned (.bool (pathL (bs s)))∧Ext w w':=by
 go_enter Tryz.func21,Tryz.ntmps21
 by_cases h200:200 < s.size
 ·have hn:pathL (bs s)=false:=by
   unfold pathL
   rw[bs_length,decide_eq_false (by omega)];simp
  have HN:=Hy hn
  clear hn
  go_wp2
  go_ret
  exact⟨ret_bool HN.out.symm,Ext.refl _⟩
 go_wp2_with fail
 refine (split_any 47 s _ hg hs).mono ?_
 rintro e w1 ⟨b,xs,rfl,hb0,hst,hxs,hx⟩
 have HXS:=Hy hxs
 have hcell:=hst.cell
 have HC:=Hy hcell
 clear hcell
 have hlen:=pieces_le hxs
 clear hxs
 go_wp2
 go_loopw [11] (fun i wr=>∃ k:Nat,k<=xs.length∧i=.int .i64 k∧(xs.take k).all (fun x=>partL (bs x))=true∧Ext w1 wr) (fun i _=>xs.length - (intOf i).toNat)
 case atStart=>exact⟨0,Nat.zero_le _,rfl,by simp,Ext.refl _⟩
 case round =>
  obtain⟨k,hk,rfl,hall,hxr⟩:=hrel
  have HALL:=Hy hall
  clear hall
  by_cases hlt:k < xs.length
  ·have hk1:=hxr.cell (HC.out k hlt)
   have hsz:=piece_le HXS.out hlt
   have hne:=allS_false partL xs k hlt
   have HNE:=Hy hne
   clear hne
   have hsu:=allS_succ partL xs k hlt HALL.out
   have HSU:=Hy hsu
   clear hsu
   generalize xs[k]=x at *
   have hpl:=partL_eq (bs x)
   have HPL:=Hy hpl
   clear hpl
   have hbad:partL (bs x)=false->pathL (bs s)=false:=fun h=>by
    unfold pathL
    rw[<-HXS.out,HNE.out h];rfl
   have HBAD:=Hy hbad
   clear hbad
   cases e1:(bs x==([]:Str))
   rotate_left
   ·have hz:x.size=0:=by rw[<-bs_length,eq_of_beq e1];rfl
    have hi:=emp_bool hz
    have HP:=Hy (HBAD.out (by rw[HPL.out,bne,e1];rfl))
    clear e1
    go_wp2
    go_ret
    exact⟨ret_bool HP.out.symm,hx.trans hxr⟩
   have hz:0 < x.size:=by
    rcases Nat.eq_zero_or_pos x.size with h|h
    ·rw[bs_nil h] at e1;cases e1
    ·exact h
   have hi:=nemp_bool hz
   cases e2:(bs x==[46])
   rotate_left
   ·have t2:(x.toList==[46])=true:=by rw[tl_beq];exact e2
    have HP:=Hy (HBAD.out (by rw[HPL.out,bne,bne,e2];simp))
    clear e1 e2
    go_wp2
    go_ret
    exact⟨ret_bool HP.out.symm,hx.trans hxr⟩
   have t2:(x.toList==[46])=false:=by rw[tl_beq];exact e2
   cases e3:(bs x==[46,46])
   rotate_left
   ·have t3:(x.toList==[46,46])=true:=by rw[tl_beq];exact e3
    have HP:=Hy (HBAD.out (by rw[HPL.out,bne,bne,bne,e3];simp))
    clear e1 e2 e3
    go_wp2
    go_ret
    exact⟨ret_bool HP.out.symm,hx.trans hxr⟩
   have t3:(x.toList==[46,46])=false:=by rw[tl_beq];exact e3
   by_cases h40:40 < x.size
   ·have HP:=Hy (HBAD.out (by rw[HPL.out,bs_length,decide_eq_false (by omega:¬ x.size<=40)];simp))
    clear e1 e2 e3
    go_wp2
    go_ret
    exact⟨ret_bool HP.out.symm,hx.trans hxr⟩
   have hgood:partL (bs x)=(bs x).all partB:=by
    rw[HPL.out,bne,bne,bne,e1,e2,e3,bs_length,decide_eq_true (by omega:x.size<=40)];simp
   have HG:=Hy hgood
   clear hgood e1 e2 e3
   go_wp2_with fail
   refine (of_part x _ (by omega)).mono ?_
   rintro e w2 ⟨rfl,hx2⟩
   cases hn:(bs x).all partB
   ·have HP:=Hy (HBAD.out (HG.out.trans hn))
    clear hn
    go_wp2
    go_ret
    exact⟨ret_bool HP.out.symm,(hx.trans hxr).trans hx2⟩
   ·have HP:=Hy (HG.out.trans hn)
    clear hn
    go_wp2
    go_roundw
    case rel=>exact⟨k+1,by omega,by go_num,HSU.out HP.out,hxr.trans hx2⟩
    case measure=>simp[intOf];omega
  ·obtain rfl:k=xs.length:=by omega
   go_wp2
   go_ret
   refine⟨ret_bool ?_,hx.trans hxr⟩
   unfold pathL
   rw[<-HXS.out,allS_true partL xs HALL.out,bs_length]
   simp
   omega
end
section
open Go.ChangeShapes Go.WideShapes Go.ChangeAt Go.RowKit Go.WideElems
theorem own:ownKnob Tryz.prog.godebug=none:=by kernel_rfl
theorem laidOut:laidOutB Tryz.prog=true:=by kernel_rfl
theorem stays {H:Type} {enc:TypeId × Value->H} {W W':World} {sp:Nat->Bool}:∀ (ts:List TypeId) (vs:List Value) (ds:List (DataW H)) (ps:List MemPlace),
 (∀ t∈ts,Tryz.prog.readableRec t=true∧t < Tryz.prog.types.size)->DataW.TrodAll enc Tryz.prog W 0 (fun _=>true) true ts vs ds ps->(∀ p∈ps,W.sameAt W' p)->(∀ p∈ps,sp p.block=true) ->
 DataW.TrodAll enc Tryz.prog W' 0 sp true ts vs ds ps
 | [],vs,ds,ps,_,h,_,_=>by
   obtain⟨rfl,rfl,rfl⟩:=trodAll_nil h
   exact trodAll_mk0
 | t::ts,vs,ds,ps,hr,h,hs,hp=>by
   obtain⟨v0,vs0,d0,ds0,p0,q0,rfl,rfl,rfl,h0,r0⟩:=trodAll_cons h
   exact trodAll_cons_mk (Trod_stays laidOut (hr t (by simp)).1 (hr t (by simp)).2 h0 (fun p hm=>hs p (List.mem_append_left _ hm)) (fun p hm=>hp p (List.mem_append_left _ hm)))
    (stays ts vs0 ds0 q0 (fun t ht=>hr t (by simp[ht])) r0 (fun p hm=>hs p (List.mem_append_right _ hm)) (fun p hm=>hp p (List.mem_append_right _ hm)))
set_option maxRecDepth 100000 in
theorem post_true {H:Type} {enc:TypeId × Value->H} {f:Func} {s:ChangeSpec} {apart fresh handsOn again:Bool} {W W':World} {args:Array Value} {ds gs:List (DataW H)} {before:List MemPlace}
 (hW:DataW.Whole enc Tryz.prog f.params.toList s.vars apart W args.toList ds gs before) (hvars:s.vars=[]) (hrt:f.resultTypes=#[4])
 (hr:∀ t∈f.params.toList,Tryz.prog.readableRec t=true∧t < Tryz.prog.types.size)
 (hres:(s.fn H (ds++gs)).results=[.lit (.bool true)]) (hargs:(s.fn H (ds++gs)).args=ds) (hv:(s.fn H (ds++gs)).vars=[]) (hb:Ext W W') :
 s.post enc Tryz.prog f apart fresh handsOn again W args (.bool true) W':=by
 have hlt:∀ p∈before,p.block < W.heap.size:=fun p hp=>hW.lt p hp
 have hW':=hW
 obtain⟨p,q,hA,hV,rfl,hz,hn⟩:=hW'
 rw[hvars] at hV
 obtain⟨rfl,rfl⟩:=trodVars_none hV
 have hsame:∀ x∈p,W.sameAt W' x:=fun x hx=>Below.same hb (hlt x (by simp[hx]))
 have hT:∀ sp:Nat->Bool,(∀ x∈p++[],sp x.block=true)->DataW.TrodAll enc Tryz.prog W' 0 sp true f.params.toList args.toList (s.fn H (ds++[])).args p:=fun sp hs=>by
  rw[hargs]
  exact stays _ _ _ _ hr hA hsame (fun x hx=>hs x (by simp[hx]))
 have hR:∀ (b:Nat) (sp:Nat->Bool) (hd:Bool),DataW.TrodAll enc Tryz.prog W' b sp hd f.resultTypes.toList ((Value.bool true).resultList f.resultTypes.size) (s.fn H (ds++[])).results []:=fun b sp hd=>by
  rw[hres,hrt]
  exact trodAll_mk1 (shut_bool Tryz.underlying4 true)
 have hVV:∀ sp:Nat->Bool,DataW.TrodVars enc Tryz.prog W' sp s.vars (s.fn H (ds++[])).vars []:=fun sp=>by
  rw[hvars,hv]
  exact rfl
 refine⟨ds,[],p++[],[],p,[],hW,hR _ _ _,hT _ (fun x hx=>by simpa using hlt x hx),hVV _,World.keptBut_mono (fun x hx=>⟨hx,.inr (by simpa using hx)⟩) (Below.frame hb (·∈p++[])),fun _=>?_⟩
 refine⟨?_,_,_,([]++p)++[],⟨[]++p,[],trodAll_append (hT _ (fun _ _=>rfl)) (hR _ _ _),hVV _,rfl,?_,?_⟩,?_⟩
 ·intro j t r h1 h2
  rw[hrt] at h1 h2
  match j with
  | 0 =>
    obtain rfl:4=t:=by simpa using h1
    obtain rfl:Value.bool true=r:=by simpa [Value.resultList] using h2
    exact okWide_bool_mk Tryz.underlying4 true
  | j+1=>simp at h1
 ·intro b off hp
  have hin:MemPlace.cell b off∈p++[]:=by simpa using hp
  rw[Below.frozen hb (hlt _ hin)]
  exact hz b off hin
 ·intro ha
  simpa using hn ha
 ·intro x hx _
  simpa using hx
end
section
open Go.RowKit
section
variable {w w' a:World} {B:Nat} {e:TypeId} {size n:Nat} {v:Value} {xs:List Value}
theorem own_ext (h:w.ownsRow B e size v n xs) (hx:Ext w w'):w'.ownsRow B e size v n xs :=
 h.kept (row:=none) ⟨hx.os,hx.tape,hx.output,hx.size,fun k hk _=>hx.block k hk⟩ (by cases hv:v.ownBlock<;>simp)
theorem Ext.grown (h:Ext a w) (hown:w.ownsRow B e size v n xs) (hB:a.heap.size<=B) (hg:w.grownBy w' v.ownBlock):Ext a w' :=
 Below.grown h hg h.size (fun k hk=>Nat.le_trans hB (hown.lt k hk).1)
theorem Blk.grown {g:Nat} {t:TypeId} {cs:Array Value} (h:Blk w g t cs) (hown:w.ownsRow B e size v n xs) (hB:g < B) (hg:w.grownBy w' v.ownBlock):Blk w' g t cs :=
 (hg.block g h.lt (fun he=>by have:=(hown.lt g he.symm).1;omega)).trans h
theorem own_form (h:w.ownsRow B e size v n xs) (h0:0 < n):∃ g c,v=.slice (some ⟨g,0,none⟩) n c∧g < w.heap.size∧B<=g∧n<=c∧∀ j u,xs[j]?=some u->w.cell? ⟨g,j,none⟩=some u:=by
 have hh:=h
 rcases h.2 with ⟨rfl,h1⟩|⟨g,cap,cur,rfl,hb,hgg,hnc,_⟩
 ·omega
 ·refine⟨g,cap,rfl,(hh.lt g rfl).2,hb,hnc,fun j u hu=>?_⟩
  have:=hh.cells (g:=g) rfl j u hu
  have hadd:(⟨g,0,none⟩:Addr).add j=⟨g,j,none⟩:=by unfold Addr.add;split<;>simp_all
  rwa [hadd] at this
end
section
variable {P:Program}
theorem wpList_app1 {ops:Array Oper} {rest:List Oper} {o:Oper} {a:Act} {Q:Exit->Act->World->Prop} (wr:World) (cs:Array Value) (e:TypeId) (hgd:o.guard=none) (s x:Operand) (t:TypeId)
 (ho:o.op=.call { callee:=.builtin .append,args:=#[s,x],argTypes:=#[t,t] })
 (z:Value) (size bytes:Nat) (ht:P.underlying t=some (.slice e)) (hinfo:(P.info? e).map (fun i=>(i.zero,i.size,i.bytes))=some (some z,size,bytes)) (hzs:z.cells.size=size) (hsz:0 < size) (hby:bytes<=1000)
 (B:Nat) (v:Value) (n:Nat) (xs:List Value) (hs:a.eval s=v) (hown:wr.ownsRow B e size v n xs)
 (c:Nat) (hx:a.eval x=.slice (some ⟨wr.heap.size,0,none⟩) 1 c) (hcs:cs.size=size) (h1:∀ u∈cs.toList,u.oneCell'=true) (hn:n<=100000000) (hbase:B<=wr.heap.size)
 (h:∀ v' w',w'.ownsRow B e size v' (n+1) (xs++cs.toList)->(∀ a',Ext a' wr->a'.heap.size<=B->Ext a' w')->(∀ g t' ds,Blk wr g t' ds->g < B->Blk w' g t' ds)->wpList P ops Q rest (a.put o.dst v') w') :
 wpList P ops Q (o::rest) a (wr.alloc (.cells cs e)):=by
 obtain⟨i,hi,hz0,hz1,hz2⟩:=info_parts hinfo
 have hnew:=Blk.new wr e cs
 refine wpList_append_own (wr.alloc (.cells cs e)) hgd s x t ho B e i z size bytes ht hi hz0 hz1 hz2 hzs hsz v n xs hs (hown.alloc _) ⟨wr.heap.size,0,none⟩ 1 c cs.toList hx (by simp[hcs]) ?_ h1 ?_ ?_ (by simp;omega) ?_
 ·intro j u hu
  have hadd:(⟨wr.heap.size,0,none⟩:Addr).add j=⟨wr.heap.size,j,none⟩:=by unfold Addr.add;split<;>simp_all
  rw[hadd,hnew.cell]
  simpa using hu
 ·simp only[maxLen];omega
 ·have:(n+1) * bytes<=100000001 * 1000:=Nat.mul_le_mul (by omega) hby
  omega
 ·intro v' w' hown' hg _
  refine h v' w' hown' (fun a' ha hB=>?_) (fun g t' ds hb hlt=>?_)
  ·exact (ha.alloc _).grown (hown.alloc _) hB hg
  ·exact (hb.alloc _).grown (hown.alloc _) hlt hg
theorem wpList_app1g {ops:Array Oper} {rest:List Oper} {o:Oper} {a:Act} {Q:Exit->Act->World->Prop} (wr:World) (cs:Array Value) (e:TypeId) (hgd:o.guard=none) (s x:Operand) (t:TypeId)
 (ho:o.op=.call { callee:=.builtin .append,args:=#[s,x],argTypes:=#[t,t] })
 (z:Value) (size bytes:Nat) (ht:P.underlying t=some (.slice e)) (hinfo:(P.info? e).map (fun i=>(i.zero,i.size,i.bytes))=some (some z,size,bytes)) (hzs:z.cells.size=size) (hsz:0 < size) (hby:bytes<=1000)
 (B:Nat) (v:Value) (n:Nat) (xs:List Value) (hs:a.eval s=v) (hown:wr.ownsRow B e size v n xs)
 (c gA:Nat) (hx:a.eval x=.slice (some ⟨gA,0,none⟩) 1 c) (hgA:wr.heap.size=gA) (hcs:cs.size=size) (h1:∀ u∈cs.toList,u.oneCell'=true) (hn:n<=100000000) (hbase:B<=wr.heap.size)
 (h:∀ v' w',w'.ownsRow B e size v' (n+1) (xs++cs.toList)->(∀ a',Ext a' wr->a'.heap.size<=B->Ext a' w')->(∀ g t' ds,Blk wr g t' ds->g < B->Blk w' g t' ds)->wpList P ops Q rest (a.put o.dst v') w') :
 wpList P ops Q (o::rest) a (wr.alloc (.cells cs e)) :=
 wpList_app1 wr cs e hgd s x t ho z size bytes ht hinfo hzs hsz hby B v n xs hs hown c (by rw[hgA];exact hx) hcs h1 hn hbase h
end
theorem info_string:(Tryz.prog.info? 9).map (fun i=>(i.zero,i.size,i.bytes))=some (some (.string ⟨#[]⟩),1,16):=by kernel_rfl
end
section
open Go.RowKit
theorem map_take_succ {α β:Type} (f:α->β) (l:List α) (k:Nat) (h:k < l.length):(l.take k).map f++[f l[k]]=(l.take (k+1)).map f:=by
 rw[List.take_succ_eq_append_getElem h,List.map_append];rfl
end
end Go.Proofs.YtmpccllnpcbgcaaGreatDoor
namespace Go.Proofs.YtmpccllnpcbgcaaGreatDoor.listed
open Go.ChangeShapes Go.WideShapes Go.ChangeAt Go.RowKit Go.WideElems Go.Joins
theorem star:"*"++"errors.errorString"="*errors.errorString":=by decide
theorem rowErr (u:TypeId) (h:Tryz.prog.typeName? 3 u=some "*errors.errorString"):u=365 :=
 typeName_ptr_named (nm:="errors.errorString") (by rw[star];kernel_rfl) (by kernel_rfl) (by decide) u (by rw[star];exact h)
theorem good {W:World} (hL:laidMetH Tryz.prog Rows.versionsMatchUptoRow.laid W) (hS:W.ShapedOpen Tryz.prog):GoodN W:=by
 have hL':laidMet Tryz.prog Rows.versionsMatchUptoRow.laid W:=hL
 have h1:laidMet Tryz.prog [("internal/strconv.uint64pow10",Rows.laid_internal_strconv_uint64pow10)] W:=hL'.filter (fun x=>x.1=="internal/strconv.uint64pow10")
 have h2:laidMet Tryz.prog [("strconv.ErrSyntax",Rows.laid_strconv_ErrSyntax)] W:=hL'.filter (fun x=>x.1=="strconv.ErrSyntax")
 have h3:laidMet Tryz.prog [("strconv.ErrRange",Rows.laid_strconv_ErrRange)] W:=hL'.filter (fun x=>x.1=="strconv.ErrRange")
 refine⟨⟨Tryz.laysM146.s1_3 W hS⟩,?_,?_,?_⟩
 ·exact Lib.tabIs_of_head (rest:=[]) (g:=3) (by kernel_rfl) (by kernel_rfl) Tryz.underlying362 Tryz.underlying330 (by kernel_rfl) (by kernel_rfl) h1
 ·obtain⟨a,s,hv,_⟩:=laid_sentinel (g:=1) h2 (by kernel_rfl) (by kernel_rfl) Tryz.underlying137 rowErr Tryz.underlying365 Tryz.underlying367 rfl rfl Tryz.underlying9 (by kernel_rfl) (by kernel_rfl)
  exact⟨_,_,hv⟩
 ·obtain⟨a,s,hv,_⟩:=laid_sentinel (g:=2) h3 (by kernel_rfl) (by kernel_rfl) Tryz.underlying137 rowErr Tryz.underlying365 Tryz.underlying367 rfl rfl Tryz.underlying9 (by kernel_rfl) (by kernel_rfl)
  exact⟨_,_,hv⟩
noncomputable def laidWorld (os:Os):World :=
 let N:=(World.settled Tryz.prog os).heap.size
 let w0:=World.holding Tryz.prog os ⟨#[.cells #[.string ⟨#[118,97,108,117,101,32,111,117,116,32,111,102,32,114,97,110,103,101]⟩] 367,.cells #[.string ⟨#[105,110,118,97,108,105,100,32,115,121,110,116,97,120]⟩] 367],#[],[]⟩
 let put (h:Array Obj) (g:Nat) (cs:Array Value):Array Obj:=h.modify g fun
  | .cells _ t frozen=>.cells cs t frozen
  | o=>o
 let h0:=put (put w0.heap 2 #[.iface 365 (.pointer (some ⟨N,0,none⟩))]) 1 #[.iface 365 (.pointer (some ⟨N+1,0,none⟩))]
 let h1:=put h0 4 (Go.Pinned.utf8FirstZ.map fun z:Nat=>Value.int .u8 (z:Int)).toArray
 let h2:=put h1 5 #[.int .u8 128,.int .u8 191,.int .u8 160,.int .u8 191,.int .u8 128,.int .u8 159,.int .u8 144,.int .u8 191,.int .u8 128,.int .u8 143,.int .u8 0,.int .u8 0,.int .u8 0,.int .u8 0,.int .u8 0,.int .u8 0,.int .u8 0,.int .u8 0,.int .u8 0,.int .u8 0,.int .u8 0,.int .u8 0,.int .u8 0,.int .u8 0,.int .u8 0,.int .u8 0,.int .u8 0,.int .u8 0,.int .u8 0,.int .u8 0,.int .u8 0,.int .u8 0]
 let h3:=put h2 6 #[.int .u8 0,.int .u8 1,.int .u8 28,.int .u8 2,.int .u8 29,.int .u8 14,.int .u8 24,.int .u8 3,.int .u8 30,.int .u8 22,.int .u8 20,.int .u8 15,.int .u8 25,.int .u8 17,.int .u8 4,.int .u8 8,.int .u8 31,.int .u8 27,.int .u8 13,.int .u8 23,.int .u8 21,.int .u8 19,.int .u8 16,.int .u8 7,.int .u8 26,.int .u8 12,.int .u8 18,.int .u8 6,.int .u8 11,.int .u8 5,.int .u8 10,.int .u8 9]
 let h4:=put h3 7 #[.int .u8 0,.int .u8 1,.int .u8 56,.int .u8 2,.int .u8 57,.int .u8 49,.int .u8 28,.int .u8 3,.int .u8 61,.int .u8 58,.int .u8 42,.int .u8 50,.int .u8 38,.int .u8 29,.int .u8 17,.int .u8 4,.int .u8 62,.int .u8 47,.int .u8 59,.int .u8 36,.int .u8 45,.int .u8 43,.int .u8 51,.int .u8 22,.int .u8 53,.int .u8 39,.int .u8 33,.int .u8 30,.int .u8 24,.int .u8 18,.int .u8 12,.int .u8 5,.int .u8 63,.int .u8 55,.int .u8 48,.int .u8 27,.int .u8 60,.int .u8 41,.int .u8 37,.int .u8 16,.int .u8 46,.int .u8 35,.int .u8 44,.int .u8 21,.int .u8 52,.int .u8 32,.int .u8 23,.int .u8 11,.int .u8 54,.int .u8 26,.int .u8 40,.int .u8 15,.int .u8 34,.int .u8 20,.int .u8 31,.int .u8 10,.int .u8 25,.int .u8 14,.int .u8 19,.int .u8 9,.int .u8 13,.int .u8 8,.int .u8 7,.int .u8 6]
 let h5:=put h4 3 #[.int .u64 1,.int .u64 10,.int .u64 100,.int .u64 1000,.int .u64 10000,.int .u64 100000,.int .u64 1000000,.int .u64 10000000,.int .u64 100000000,.int .u64 1000000000,.int .u64 10000000000,.int .u64 100000000000,.int .u64 1000000000000,.int .u64 10000000000000,.int .u64 100000000000000,.int .u64 1000000000000000,.int .u64 10000000000000000,.int .u64 100000000000000000,.int .u64 1000000000000000000,.int .u64 10000000000000000000]
 { w0 with heap:=h5 }
end Go.Proofs.YtmpccllnpcbgcaaGreatDoor.listed
namespace Go.Proofs.YtmpccllnpcbgcaaGreatDoor
section
open Go.ChangeShapes Go.WideShapes Go.ChangeAt Go.RowKit Go.WideElems Go.Joins
def Opens (T:TypeId) {α:Type} (R:World->α->List Value->Prop) (bk:α->Nat):Prop :=
 ∀ (H:Type) (enc:TypeId × Value->H) (W:World) (fuel:Nat) (cs:List Value) (x:DataW H × List MemPlace),DataW.trod enc Tryz.prog W 0 (fun _=>true) true fuel T cs=some x->∃ v,R W v cs∧bk v<=Rows.uptoBulk x.1
theorem opens_string {T:TypeId} (hT:Tryz.prog.underlying T=some .string):Opens T (fun _ (s:ByteArray) cs=>cs=[.string s]) (fun s=>s.size+1):=fun H enc W fuel cs x h=>by
 obtain⟨s,rfl,rfl,_⟩:=DataW.trod_string hT h
 exact⟨s,rfl,by simp only[Rows.uptoBulk,Array.length_toList];exact Nat.le_refl _⟩
theorem opens_int {T:TypeId} (hT:Tryz.prog.underlying T=some (.int .i64)):Opens T (fun _ (n:Int) cs=>cs=[.int .i64 n]) (fun _=>1):=fun H enc W fuel cs x h=>by
 obtain⟨n,rfl,rfl,_⟩:=DataW.trod_int hT h
 exact⟨n,rfl,by simp[Rows.uptoBulk]⟩
theorem opens_bool {T:TypeId} (hT:Tryz.prog.underlying T=some .bool):Opens T (fun _ (b:Bool) cs=>cs=[.bool b]) (fun _=>1):=fun H enc W fuel cs x h=>by
 obtain⟨n,rfl,rfl⟩:=DataW.trod_bool hT h
 exact⟨n,rfl,by simp[Rows.uptoBulk]⟩
theorem bulkAll_le {H:Type} {n:Nat} {D:Nat->DataW H} {bk:Nat->Nat} (h:∀ i,i < n->bk i<=Rows.uptoBulk (D i)):((List.range n).map bk).sum<=Rows.uptoBulkAll ((List.range n).map D):=by
 suffices ∀ l:List Nat,(∀ i∈l,i < n)->(l.map bk).sum<=Rows.uptoBulkAll (l.map D) from this _ fun i hi=>List.mem_range.1 hi
 intro l
 induction l with
 | nil=>intro _;exact Nat.zero_le _
 | cons a l ih =>
   intro hl
   have h1:=h a (hl a (by simp))
   have h2:=ih fun i hi=>hl i (by simp[hi])
   simp only[List.map_cons,List.sum_cons,Rows.uptoBulkAll]
   omega
def RowOf {α:Type} (R:World->α->List Value->Prop) (sz:Nat) (W:World) (A:Option Addr) (l:List α):Prop :=
 l≠[]->∃ b o,A=some ⟨b,o,none⟩∧∀ k (h:k < l.length),∃ ecs,R W l[k] ecs∧ecs.length=sz∧∀ j,j < sz->W.cell? ⟨b,o+k * sz+j,none⟩=ecs[j]?
theorem opens_slice {T E:TypeId} {α:Type} [Inhabited α] {R:World->α->List Value->Prop} {bk:α->Nat} {sz:Nat} (hT:Tryz.prog.underlying T=some (.slice E)) (hsz:Tryz.prog.cellsOf E=sz) (h0:0 < sz) (hE:Opens E R bk) :
 Opens T (fun W (l:List α) cs=>∃ A c,cs=[.slice A l.length c]∧RowOf R sz W A l) (fun l=>(l.map bk).sum+1):=fun H enc W fuel cs x h=>by
 rcases Deep.open_slice hT h with ⟨rfl,rfl⟩|⟨a,len,cap,m,n,D,Pl,rfl,_,hl,_,hm,rfl,hx⟩
 ·exact⟨[],⟨none,0,rfl,fun h=>absurd rfl h⟩,by simp[Rows.uptoBulk]⟩
 ·have hlm:len<=m:=by rw[hm];split<;>omega
  have each:∀ i,i < len->∃ v:α,bk v<=Rows.uptoBulk (D i)∧∃ ecs,R W v ecs∧W.cells? 0 (a.add (i * sz)) sz=some ecs:=fun i hi=>by
   obtain⟨cs',h1,h2⟩:=hx i (by omega)
   obtain⟨v,h3,h4⟩:=hE H enc W n cs' _ h2
   rw[hsz] at h1
   exact⟨v,h4,cs',h3,h1⟩
  obtain⟨F,hF⟩:=Deep.choose_lt each
  refine⟨(List.range len).map F,⟨some a,cap,by simp,?_⟩,?_⟩
  ·intro hne
   have hpos:0 < len:=by
    rcases Nat.eq_zero_or_pos len with h|h
    ·subst h;exact absurd rfl hne
    ·exact h
   obtain⟨_,ecs0,_,hc0⟩:=hF 0 hpos
   obtain⟨_,hl0,hcell0⟩:=World.cells?_some hc0
   obtain⟨b,off,spot⟩:=a
   have g0:=hcell0 0 h0
   have hsome:∃ v,ecs0[0]?=some v:=⟨ecs0[0],List.getElem?_eq_getElem (by omega)⟩
   obtain⟨v0,hv0⟩:=hsome
   rw[hv0] at g0
   have hspot:spot=none:=by
    have:=World.cell?_spot g0
    simpa [Addr.add] using this
   subst hspot
   refine⟨b,off,rfl,fun k hk=>?_⟩
   have hk':k < len:=by simpa using hk
   obtain⟨_,ecs,hR,hc⟩:=hF k hk'
   obtain⟨_,hl1,hcell⟩:=World.cells?_some hc
   refine⟨ecs,by simpa using hR,hl1,fun j hj=>?_⟩
   have:=hcell j hj
   rwa [Deep.add_add,add_plain,<-Nat.add_assoc] at this
  ·have:=bulkAll_le (H:=H) (n:=len) (D:=D) (bk:=fun i=>bk (F i)) fun i hi=>(hF i hi).1
   simp only[List.map_map,Rows.uptoBulk]
   have e:(bk ∘ F)=fun i=>bk (F i):=rfl
   rw[e]
   omega
theorem opens_struct1 {T:TypeId} {f0:Field} {α:Type} {R:World->α->List Value->Prop} {bk:α->Nat} (hT:Tryz.prog.underlying T=some (.struct #[f0])) (ho:f0.offset=0) (hs:Tryz.prog.cellsOf T=Tryz.prog.cellsOf f0.type) (hE:Opens f0.type R bk) :
 Opens T R bk:=fun H enc W fuel cs x h=>by
 obtain⟨y0,n,rfl,hl,h0⟩:=trod_struct1 hT h
 obtain⟨v,h1,h2⟩:=hE H enc W n _ _ h0
 rw[ho,List.drop_zero,List.take_of_length_le (by omega)] at h1
 exact⟨v,h1,by simp only[Rows.uptoBulk,Rows.uptoBulkAll];omega⟩
theorem sum_mem {α:Type} {bk:α->Nat}:∀ {l:List α} {a:α},a∈l->bk a<=(l.map bk).sum
 | b::l,a,h=>by
   rcases List.mem_cons.1 h with rfl|h
   ·simp only[List.map_cons,List.sum_cons];omega
   ·have:=sum_mem (bk:=bk) h
    simp only[List.map_cons,List.sum_cons];omega
theorem sum_len {α:Type} {bk:α->Nat} {c:Nat} (h:∀ a,c<=bk a):∀ l:List α,l.length * c<=(l.map bk).sum
 | []=>by simp
 | a::l=>by
   have:=sum_len h l
   have:=h a
   simp only[List.map_cons,List.sum_cons,List.length_cons,Nat.succ_mul];omega
end
section
def esc:Str->Str
 | []=>[]
 | c::r=>if c=34∨c=92 then 92::c::esc r else c::esc r
def unq (s:Str):Option (Str × Str) :=
 match s with
 | []=>none
 | c::r=>if c=34 then some ([],r) else if c=92 then
    (match r with
    | []=>none
    | d::q=>if d=34∨d=92 then (unq q).map fun x=>(d::x.1,x.2) else none)
   else (unq r).map fun x=>(c::x.1,x.2)
termination_by s.length
theorem unq_nil:unq []=none:=by unfold unq;rfl
theorem unq_end (r:Str):unq (34::r)=some ([],r):=by unfold unq;simp
theorem unq_back0:unq [92]=none:=by unfold unq;simp
theorem unq_two {d:UInt8} (h:d=34∨d=92) (q:Str):unq (92::d::q)=(unq q).map fun x=>(d::x.1,x.2):=by
 rw[unq]
 simp only[show ¬ (92:UInt8)=34 by decide,if_false,if_true,if_pos h]
theorem unq_bad {d:UInt8} (h:¬ (d=34∨d=92)) (q:Str):unq (92::d::q)=none:=by
 rw[unq]
 simp only[show ¬ (92:UInt8)=34 by decide,if_false,if_true,if_neg h]
theorem unq_one {c:UInt8} (h1:¬ c=34) (h2:¬ c=92) (r:Str):unq (c::r)=(unq r).map fun x=>(c::x.1,x.2):=by
 rw[unq.eq_def]
 simp only[if_neg h1,if_neg h2]
theorem unq_back:∀ (n:Nat) (s t z:Str),s.length<=n->unq s=some (t,z)->s=esc t++34::z:=by
 intro n
 induction n with
 | zero =>
   intro s t z hl h
   have:s=[]:=List.eq_nil_of_length_eq_zero (by omega)
   subst this
   rw[unq_nil] at h;cases h
 | succ n ih =>
   intro s t z hl h
   match s with
   | []=>rw[unq_nil] at h;cases h
   | c::r =>
     by_cases h1:c=34
     ·subst h1
      rw[unq_end] at h
      cases h;rfl
     by_cases h2:c=92
     ·subst h2
      match r with
      | []=>rw[unq_back0] at h;cases h
      | d::q =>
        by_cases h3:d=34∨d=92
        ·rw[unq_two h3] at h
         cases hu:unq q with
         | none=>rw[hu] at h;cases h
         | some x =>
           rw[hu] at h
           cases h
           have:=ih q x.1 x.2 (by simp at hl;omega) hu
           rw[esc,if_pos h3]
           simp only[List.cons_append]
           rw[<-this]
        ·rw[unq_bad h3] at h;cases h
     ·rw[unq_one h1 h2] at h
      cases hu:unq r with
      | none=>rw[hu] at h;cases h
      | some x =>
        rw[hu] at h
        cases h
        have:=ih r x.1 x.2 (by simp at hl;omega) hu
        rw[esc,if_neg (fun e=>e.elim h1 h2)]
        simp only[List.cons_append]
        rw[<-this]
structure Ru where
 kind:Int
 key:Str
 tt:Str
 old:Str
 new:Str
deriving instance DecidableEq for Ru
def belowL (key head:Str):Bool:=(head++[47]).isPrefixOf key
end
section
theorem esc_len (l:Str):(esc l).length=l.length+(l.count 34+l.count 92):=by
 induction l with
 | nil=>rfl
 | cons c r ih =>
   rw[esc]
   by_cases h1:c=34
   ·subst h1;simp[ih];omega
   ·by_cases h2:c=92
    ·subst h2;simp[ih];omega
    ·rw[if_neg (fun e=>e.elim h1 h2),List.length_cons,ih,List.length_cons,List.count_cons_of_ne h1,List.count_cons_of_ne h2];omega
end
section
open Go.RowKit
theorem drop_cons (s:ByteArray) (k:Nat) (h:k < s.size):(bs s).drop k=s[k]::(bs s).drop (k+1):=by
 rw[List.drop_eq_getElem_cons (by rw[bs_length];exact h)];rfl
def qatR (n:Nat):Option (Str × Str)->Str × Nat × Bool
 | none=>([],0,false)
 | some (t,z)=>(t,n - z.length,true)
def qat (l:Str) (i:Nat):Str × Nat × Bool:=qatR l.length (unq (l.drop (i+1)))
end
section
open Go.RowKit
def blankB (c:UInt8):Bool:=c==32||c==9
end
section
open Go.RowKit
structure ExtX (g:Nat) (w w':World):Prop where
 os:w'.os=w.os
 tape:w'.tape=w.tape
 output:w'.output=w.output
 size:w.heap.size<=w'.heap.size
 block:∀ k,k < w.heap.size->k≠g->w'.heap[k]?=w.heap[k]?
namespace ExtX
variable {g:Nat} {a b c w w':World}
theorem refl (g:Nat) (w:World):ExtX g w w:=⟨rfl,rfl,rfl,Nat.le_refl _,fun _ _ _=>rfl⟩
theorem ofExt (h:Ext a b):ExtX g a b:=⟨h.os,h.tape,h.output,h.size,fun k hk _=>h.block k hk⟩
theorem trans (h:ExtX g a b) (k:ExtX g b c):ExtX g a c :=
 ⟨k.os.trans h.os,k.tape.trans h.tape,k.output.trans h.output,Nat.le_trans h.size k.size,fun i hi hg=>(k.block i (Nat.lt_of_lt_of_le hi h.size) hg).trans (h.block i hi hg)⟩
theorem alloc (h:ExtX g a w) (o:Obj):ExtX g a (w.alloc o):=h.trans (ofExt ((Ext.refl w).alloc o))
theorem drew (h:ExtX g a w):ExtX g a w.drew:=h.trans (ofExt ((Ext.refl w).drew))
theorem ext (h:Ext a w) (k:ExtX g w w') (hg:a.heap.size<=g):Ext a w' :=
 ⟨k.os.trans h.os,k.tape.trans h.tape,k.output.trans h.output,Nat.le_trans h.size k.size,fun i hi=>(k.block i (Nat.lt_of_lt_of_le hi h.size) (by omega)).trans (h.block i hi)⟩
theorem cell (h:ExtX g a b) {k o:Nat} {v:Value} (hk:k≠g) (hc:a.cell? ⟨k,o,none⟩=some v):b.cell? ⟨k,o,none⟩=some v:=by
 have hl:=lt_of_cell hc
 unfold World.cell? at hc ⊢
 rw[h.block k hl hk]
 exact hc
end ExtX
structure St where
 p:Nat
 k:Int
 a:Nat
 t:ByteArray
 wr:Int
end
section
open Go.RowKit
def runN (f:UInt8->Bool):Str->Nat
 | []=>0
 | c::l=>if f c=true then runN f l+1 else 0
theorem runN_le (f:UInt8->Bool):∀ l,runN f l<=l.length
 | []=>Nat.le_refl _
 | c::l=>by
   rw[runN]
   split
   ·have:=runN_le f l;simpa using this
   ·exact Nat.zero_le _
theorem runN_yes (f:UInt8->Bool) (s:ByteArray) {k:Nat} (h:k < s.size) (hf:f s[k]=true):k+runN f ((bs s).drop k)=k+1+runN f ((bs s).drop (k+1)):=by
 rw[drop_cons s k h,runN,if_pos hf];omega
theorem runN_no (f:UInt8->Bool) (s:ByteArray) {k:Nat} (h:k < s.size) (hf:f s[k]=false):k+runN f ((bs s).drop k)=k:=by
 rw[drop_cons s k h,runN,if_neg (by rw[hf];decide)];omega
theorem runN_out (f:UInt8->Bool) (s:ByteArray) {k:Nat} (h:s.size<=k):k+runN f ((bs s).drop k)=k:=by
 rw[List.drop_of_length_le (by rw[bs_length];exact h)];rfl
theorem run_le (f:UInt8->Bool) (s:ByteArray) {k:Nat} (h:k<=s.size):k+runN f ((bs s).drop k)<=s.size:=by
 have:=runN_le f ((bs s).drop k)
 rw[List.length_drop,bs_length] at this
 omega
def signB (c:UInt8):Bool:=c==40||c==41||c==61
def tokB (c:UInt8):Bool:=!blankB c&&!signB c&&!(c==34)
def tokF (s:ByteArray) (σ:St) (i:Nat):St :=
 if h:i < s.size then
  if signB s[i]=true then { σ with p:=i+1,k:=3,a:=i,t:=⟨#[s[i]]⟩ }
  else if s[i]=34 then
   if (qat (bs s) i).2.2=true then { σ with p:=(qat (bs s) i).2.1,k:=2,a:=i,t:=⟨(qat (bs s) i).1.toArray⟩ } else { σ with p:=i,k:=4,a:=i,t:=⟨#[]⟩ }
  else { σ with p:=i+runN tokB ((bs s).drop i),k:=1,a:=i,t:=s.extract i (i+runN tokB ((bs s).drop i)) }
 else { σ with p:=i,k:=0,a:=i,t:=⟨#[]⟩ }
def advF (s:ByteArray) (σ:St):St:=tokF s σ (σ.p+runN blankB ((bs s).drop σ.p))
end
section
open Go.RowKit
structure OkS (s:ByteArray) (σ:St):Prop where
 p:σ.p<=s.size
 a:σ.a<=s.size
 t:σ.t.size<=s.size
theorem unq_len {l t z:Str} (h:unq l=some (t,z)):t.length<=l.length∧z.length<=l.length:=by
 have e:=unq_back l.length l t z (Nat.le_refl _) h
 have:=esc_len t
 rw[e]
 simp only[List.length_append,List.length_cons]
 omega
theorem qat_le (s:ByteArray) (i:Nat):(qat (bs s) i).2.1<=s.size∧(qat (bs s) i).1.length<=s.size:=by
 unfold qat
 cases h:unq ((bs s).drop (i+1)) with
 | none=>exact⟨Nat.zero_le _,Nat.zero_le _⟩
 | some x =>
   obtain⟨t,z⟩:=x
   have:=unq_len h
   rw[List.length_drop,bs_length] at this
   rw[bs_length]
   exact⟨Nat.sub_le _ _,by have:=this.1;show t.length<=_;omega⟩
theorem tokF_ok {s:ByteArray} {σ:St} {i:Nat} (hi:i<=s.size):OkS s (tokF s σ i):=by
 unfold tokF
 split
 ·rename_i h
  split
  ·exact⟨by dsimp only;omega,hi,by show 1<=s.size;omega⟩
  ·split
   ·have:=qat_le s i
    split
    ·exact⟨this.1,hi,by show (qat (bs s) i).1.toArray.size<=_;simpa using this.2⟩
    ·exact⟨hi,hi,Nat.zero_le _⟩
   ·have:=run_le tokB s hi
    refine⟨this,hi,?_⟩
    dsimp only
    rw[ByteArray.size_extract]
    omega
 ·exact⟨hi,hi,Nat.zero_le _⟩
theorem advF_ok {s:ByteArray} {σ:St} (h:OkS s σ):OkS s (advF s σ):=tokF_ok (run_le blankB s h.p)
end
section
open Go.RowKit
structure ExtC (C:Nat->Prop) (w w':World):Prop where
 os:w'.os=w.os
 tape:w'.tape=w.tape
 output:w'.output=w.output
 size:w.heap.size<=w'.heap.size
 block:∀ k,k < w.heap.size->¬ C k->w'.heap[k]?=w.heap[k]?
namespace ExtC
variable {C:Nat->Prop} {a b c w w':World}
theorem refl (C:Nat->Prop) (w:World):ExtC C w w:=⟨rfl,rfl,rfl,Nat.le_refl _,fun _ _ _=>rfl⟩
theorem ofExt (h:Ext a b):ExtC C a b:=⟨h.os,h.tape,h.output,h.size,fun k hk _=>h.block k hk⟩
theorem trans (h:ExtC C a b) (k:ExtC C b c):ExtC C a c :=
 ⟨k.os.trans h.os,k.tape.trans h.tape,k.output.trans h.output,Nat.le_trans h.size k.size,fun i hi hg=>(k.block i (Nat.lt_of_lt_of_le hi h.size) hg).trans (h.block i hi hg)⟩
theorem alloc (h:ExtC C a w) (o:Obj):ExtC C a (w.alloc o):=h.trans (ofExt ((Ext.refl w).alloc o))
theorem set (h:ExtC C a w) {p:Addr} (hp:C p.block∨a.heap.size<=p.block) (u:Value):ExtC C a (w.setCell p u) :=
 ⟨h.os,h.tape,h.output,by have:=h.size;simpa [World.setCell] using this,fun k hk hg=>by
   refine Eq.trans ?_ (h.block k hk hg)
   simp only[World.setCell,Array.getElem?_modify]
   rw[if_neg]
   rintro rfl
   rcases hp with h1|h1
   ·exact hg h1
   ·omega⟩
theorem ext (h:Ext a w) (k:ExtC C w w') (hC:∀ i,C i->a.heap.size<=i):Ext a w' :=
 ⟨k.os.trans h.os,k.tape.trans h.tape,k.output.trans h.output,Nat.le_trans h.size k.size,fun i hi=>(k.block i (Nat.lt_of_lt_of_le hi h.size) (fun hc=>by have:=hC i hc;omega)).trans (h.block i hi)⟩
theorem imp {C':Nat->Prop} (h:ExtC C a b) (hC:∀ i,C i->C' i):ExtC C' a b:=⟨h.os,h.tape,h.output,h.size,fun k hk hn=>h.block k hk (fun hc=>hn (hC k hc))⟩
theorem cell (h:ExtC C a b) {k o:Nat} {v:Value} (hk:¬ C k) (hc:a.cell? ⟨k,o,none⟩=some v):b.cell? ⟨k,o,none⟩=some v:=by
 have hl:=lt_of_cell hc
 unfold World.cell? at hc ⊢
 rw[h.block k hl hk]
 exact hc
end ExtC
theorem Blk.extC {C:Nat->Prop} {w w':World} {k:Nat} {t:TypeId} {cs:Array Value} (h:Blk w k t cs) (hx:ExtC C w w') (hk:¬ C k):Blk w' k t cs:=(hx.block k h.lt hk).trans h
end
section
structure Iv where
 lo:Nat
 hi:Nat
deriving DecidableEq
def Iv.has (I:Iv) (k:Nat):Bool:=decide (I.lo<=k)&&decide (k < I.hi)
structure Can (N:Nat) (L:List Iv):Prop where
 apart:L.Pairwise fun I J=>I.hi < J.lo
 full:∀ I∈L,I.lo < I.hi∧I.hi<=N
theorem Can.tail {N:Nat} {I:Iv} {L:List Iv} (h:Can N (I::L)):Can N L:=⟨(List.pairwise_cons.1 h.apart).2,fun J hJ=>h.full J (List.mem_cons_of_mem _ hJ)⟩
theorem Can.one {N:Nat} {L:List Iv} (h:Can N L) {I J:Iv} (hI:I∈L) (hJ:J∈L):I=J∨I.hi < J.lo∨J.hi < I.lo:=by
 have ha:=h.apart
 clear h
 induction ha with
 | nil=>cases hI
 | @cons K M h1 _ ih =>
   rcases List.mem_cons.1 hI with e1|m1<;>rcases List.mem_cons.1 hJ with e2|m2
   ·exact .inl (e1.trans e2.symm)
   ·exact .inr (.inl (e1 ▸ h1 _ m2))
   ·exact .inr (.inr (e2 ▸ h1 _ m1))
   ·exact ih m1 m2
def stepG {σ:Type} (op:Nat->σ) (cl:σ->Nat->σ) (f:Nat->Bool) (st:List σ × Bool) (k:Nat):List σ × Bool :=
 (if (f k&&!st.2)=true then st.1++[op k] else if (!f k&&st.2)=true then st.1.dropLast++[cl (st.1.getLast?.getD (op 0)) k] else st.1,f k)
end
section
open Go.RowKit
section
variable {P:Program}
theorem wpList_load_at {ops:Array Oper} {rest:List Oper} {o:Oper} {a:Act} {w:World} {Q:Exit->Act->World->Prop} (hgd:o.guard=none) (ty:TypeId) (x:Operand) (ho:o.op=.load ty x)
 (p:Addr) (hx:a.eval x=.pointer (some p)) (v:Value) (hl:(loadVar ty p).run P w=.ok v w) (h:wpList P ops Q rest (a.put o.dst v) w):wpList P ops Q (o::rest) a w :=
 wpList_plain hgd fun K hK=>by
  unfold Oper.wp execOp
  simp only[ho,hx,Instr.loadAt,Instr.sureAddr,Sem.run_bind,Sem.run_pure,Result.andThen_ok,hl]
  exact hK _ _ h
theorem wpQuiet_load {ops:Array Oper} {rest:List Oper} {o:Oper} {a:Act} {C:World->Prop} {Q:Act->Prop} (hw:Region.wanted o (yielded ops a.tmps)=true) (ty:TypeId) (x:Operand) (ho:o.op=.load ty x)
 (p:Addr) (hx:a.eval x=.pointer (some p)) (v:Value) (hl:∀ w,C w->(loadVar ty p).run P w=.ok v w) (h:wpQuiet P ops C Q rest (a.put o.dst v)):wpQuiet P ops C Q (o::rest) a :=
 wpQuiet_step fun K hK=>by
  rw[if_pos hw]
  refine⟨v,fun w hC=>?_,hK _ h⟩
  unfold Oper.quietAt execOp
  simp only[ho,hx,Instr.loadAt,Instr.sureAddr,Sem.run_bind,Sem.run_pure,Result.andThen_ok,hl w hC]
  exact⟨rfl,rfl⟩
end
end
section
open Go.RowKit
section
variable {P:Program} (w:World)
theorem run_append_none (t ty e:TypeId) (i:TypeInfo) (ht:P.underlying t=some (.slice e)) (hi:P.info? e=some i) (p:Option Addr) (n cap c:Nat) (h:n<=cap) :
 (Builtin.append_ #[t,t] ty #[.slice p n cap,.slice none 0 c]).run P w=.ok (.slice p n cap) w:=by
 cases p with
 | none=>simp[Builtin.append_,run_underlying ht,sizeOf,typeInfo,hi,Builtin.lenOf,Builtin.firstCells,h]
 | some a =>
   simp[Builtin.append_,run_underlying ht,sizeOf,typeInfo,hi,Builtin.lenOf,Builtin.firstCells,loadCells,h]
   simp[storeCells]
theorem wpList_appAny {ops:Array Oper} {rest:List Oper} {o:Oper} {a:Act} {Q:Exit->Act->World->Prop} (hgd:o.guard=none) (s x:Operand) (t:TypeId)
 (ho:o.op=.call { callee:=.builtin .append,args:=#[s,x],argTypes:=#[t,t] })
 (base:Nat) (e:TypeId) (i:TypeInfo) (z:Value) (size bytes:Nat) (ht:P.underlying t=some (.slice e)) (hi:P.info? e=some i) (hz:i.zero=some z)
 (hsize:i.size=size) (hby:i.bytes=bytes) (hzs:z.cells.size=size) (hsz:0 < size)
 (v:Value) (n:Nat) (xs:List Value) (hs:a.eval s=v) (hown:w.ownsRow base e size v n xs)
 (A:Option Addr) (m c:Nat) (news:List Value) (hx:a.eval x=.slice A m c) (hl:news.length=m * size) (hA:A=none->m=0) (hnews:∀ ad,A=some ad->∀ j u,news[j]?=some u->w.cell? (ad.add j)=some u) (h1:∀ u∈news,u.oneCell'=true)
 (h63:n+m<=maxLen) (hbytes:(n+m) * bytes<=140737488355328) (hbase:base<=w.heap.size)
 (h:∀ v' w',w'.ownsRow base e size v' (n+m) (xs++news)->w.grownBy w' v.ownBlock->wpList P ops Q rest (a.put o.dst v') w'):wpList P ops Q (o::rest) a w:=by
 cases A with
 | some ad=>exact wpList_append_own w hgd s x t ho base e i z size bytes ht hi hz hsize hby hzs hsz v n xs hs hown ad m c news hx hl (hnews ad rfl) h1 h63 hbytes hbase fun v' w' h2 h3 _=>h v' w' h2 h3
 | none =>
   obtain rfl:=hA rfl
   obtain rfl:news=[]:=List.eq_nil_of_length_eq_zero (by simpa using hl)
   have hh:=h v w (by simpa using hown) ⟨rfl,rfl,rfl,Nat.le_refl _,fun _ _ _=>rfl⟩
   obtain⟨p,cap,rfl,hc⟩:∃ p cap,v=.slice p n cap∧n<=cap:=by
    rcases hown.2 with ⟨rfl,rfl⟩|⟨g,cap,cur,rfl,_,_,hnc,_⟩
    ·exact⟨none,0,rfl,Nat.le_refl _⟩
    ·exact⟨_,cap,rfl,hnc⟩
   have hr:=run_append_none (P:=P) w t o.type e i ht hi p n cap c hc
   refine wpList_plain hgd fun _ hK=>?_
   unfold Oper.wp execOp
   simp only[ho,resolve,invoke,builtin,Sem.run_bind,Sem.run_pure,Result.andThen_ok,List.map_toArray,List.map_cons,List.map_nil,hs,hx,hr]
   exact hK _ _ hh
end
end
section
open Go
def lackOf (listed:Array Bool):Nat:=listed.toList.countP fun b=>!b
theorem count_set:∀ (l:List Bool) (i:Nat),l[i]?=some false->(l.set i true).countP (fun b=>!b)+1=l.countP fun b=>!b
 | [],_,h=>by cases h
 | b::l,0,h=>by
   have h:b=false:=Option.some.inj h
   subst h
   simp
 | b::l,i+1,h=>by
   have ih:=count_set l i h
   simp only[List.set_cons_succ,List.countP_cons]
   omega
theorem lackOf_set {listed:Array Bool} {i:Nat} (hi:i < listed.size) (h:listed.getD i true=false):lackOf (listed.setIfInBounds i true)+1=lackOf listed:=by
 unfold lackOf
 rw[Array.toList_setIfInBounds]
 refine count_set _ _ ?_
 rw[Array.getElem?_toList,Array.getElem?_eq_getElem hi]
 have:listed.getD i true=listed[i]:=by simp[Array.getD,hi]
 rw[<-this,h]
theorem lackOf_rep (n:Nat):lackOf (Array.replicate n false)=n:=by
 unfold lackOf
 rw[Array.toList_replicate,List.countP_replicate]
 rfl
theorem getD_pos {listed:Array Bool} {i:Nat} (h:listed.getD i true=false):i < listed.size:=by
 rcases Nat.lt_or_ge i listed.size with h1|h1
 ·exact h1
 ·simp[Array.getD,Nat.not_lt.2 h1] at h
section
variable {P:Program} {md:Region.Mode} {ops:Array Oper} {Q:Exit->Act->World->Prop}
theorem wpAny_inv (J:Array Bool->Act->World->Prop)
 (hstep:∀ (i:Nat) (o:Oper) (listed:Array Bool) (a:Act) (w:World),listed.size=ops.size->ops[i]?=some o->listed.getD i true=false->(∀ e∈o.after,Region.binds md e=true->listed.getD e.on false=true)->J listed a w ->
   ∀ K:Act->World->Prop,(∀ a w,J (listed.setIfInBounds i true) a w->K a w)->if Region.wanted o (yielded ops a.tmps)=true then Oper.wp P o a w K Q else K (a.put o.dst undef) w)
 (hend:∀ (listed:Array Bool) (a:Act) (w:World),listed.size=ops.size->Region.ready md ops listed=[]->J listed a w->Q .normal a w) :
 ∀ (fuel:Nat) (listed:Array Bool) (a:Act) (w:World),listed.size=ops.size->lackOf listed<=fuel->J listed a w->wpAny P md ops Q fuel listed a w:=by
 intro fuel
 induction fuel with
 | zero =>
   intro listed a w hsz hf hj
   have hr:Region.ready md ops listed=[]:=by
    apply List.eq_nil_iff_forall_not_mem.2
    intro i hi
    obtain⟨h1,_⟩:=mem_ready.1 hi
    have:=lackOf_set (getD_pos h1) h1
    omega
   exact⟨hr,hend listed a w hsz hr hj⟩
 | succ fuel ih =>
   intro listed a w hsz hf hj
   refine⟨fun hr=>hend listed a w hsz hr hj,fun i hi=>?_⟩
   obtain⟨h1,o,ho,hall⟩:=mem_ready.1 hi
   have hl:=lackOf_set (getD_pos h1) h1
   exact wpOp_step ho fun K hK=>hstep i o listed a w hsz ho h1 hall hj K fun a' w' hj'=>hK a' w' (ih _ a' w' (by rw[Array.size_setIfInBounds];exact hsz) (by omega) hj')
theorem wp_region_inv {id:Nat} {a:Act} {w:World} (hm:P.follows .mixedOrders=true) (J:Array Bool->Act->World->Prop)
 (hstart:J (Array.replicate ops.size false) a w.drew)
 (hstep:∀ (i:Nat) (o:Oper) (listed:Array Bool) (a:Act) (w:World),listed.size=ops.size->ops[i]?=some o->listed.getD i true=false->(∀ e∈o.after,Region.binds .any e=true->listed.getD e.on false=true)->J listed a w ->
   ∀ K:Act->World->Prop,(∀ a w,J (listed.setIfInBounds i true) a w->K a w)->if Region.wanted o (yielded ops a.tmps)=true then Oper.wp P o a w K Q else K (a.put o.dst undef) w)
 (hend:∀ (listed:Array Bool) (a:Act) (w:World),listed.size=ops.size->Region.ready .any ops listed=[]->J listed a w->Q .normal a w) :
 (Code.region id ops true).wp P Q a w :=
 wp_region_any hm (wpAny_inv J hstep hend _ _ _ _ (by simp) (by rw[lackOf_rep];exact Nat.le_refl _) hstart)
end
end
end Go.Proofs.YtmpccllnpcbgcaaGreatDoor
