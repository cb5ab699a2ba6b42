/- Plain laws on strings as lists of bytes: cutting at one byte. What all walks of this seat share: a world that has only grown ('Ext'), the package variables as the row lists them ('Good', 'GoodN'), endings. Contracts of the byte predicates of package ver. Contracts of ver.IsName, isPart, IsValue, isNumeral, outside; outref2.In, When, First. Contracts of outref2.First, cmp.Or[int]: the first of several numbers that is not 0. The library's contracts in this claim's words: a world that has only grown, texts as lists of bytes. A region that draws its order, walked by an invariant over what has come up: each operation once, no branching over orders. A region that draws its order: ONE walk of the lexical order, where operations and callees may make memory whose place hangs on the order. Contracts of ver.IsPath, isEarly, Check. Contracts of ver.text. Contracts of ver.Check, Print. A region that draws its order: a quiet beginning in a class of worlds, then a tail in one forced order. Plain laws: decimal numbers and their texts; the order of words. Plain laws: the order of words of early versions, and of versions. Contracts of ver.compareWords, compareEarly, Order, Compare. Contracts of cmp.Or[int], ver.Order, Compare. Contracts of ver.number, Parse. Contracts of outref2: inner, Of, NameOf, PathOf, ValueOf. What the proofs of all rows of this seat share: the package variables out of the row's list, arguments that stay as they were, the row's last step behind a world that has only grown. append of one element onto a slice of the call's own, in a world that grows; strings.Join over such a slice. What the rows of this seat share that list the library's tables and errors: their variables at the start, and a world for the witness. Plain law: rules, their errors, their texts, and what reads them; the reference's reading is the program's. Plain law: a text in quotes, by two replacements of one byte each; its length; what a loop over it has written. Bytes as cells; texts compared. Reading a text in quotes, byte by byte; contract of outref2.quotedAt. A world of which some blocks alone were written. A struct that is loaded at one step: in a walk, and in a region that draws. The pins of the row of outlaw2.FeedsRead. -/
import Derived.Lib.Split
import Derived.Lib.IndexBytes
import Derived.Lib.ItoaLen
import Derived.Test.YtmnafaaijglnfaaGreatDoorProg
import Derived.WalkKit
import Derived.WalkSpells
import Derived.WalkLawsBesides
import Derived.LoopTactic
import Derived.Outline
import Derived.Lib.Hide
import Derived.Lib.LaidTab
import Derived.Lib.ConvBytes
import Derived.Lib.ItoaNum
import Derived.WalkSmall
import Derived.Sort.Grow
import Derived.Deep.QuietTactic
import Derived.BigQuiet
import Derived.Test.YtmnafaaijglnfaaGreatDoorShelf
import Derived.OrdersHeld
import Derived.RegionTactic
import Derived.Deep.Quiet
import Derived.StillTail
import Derived.Lib.AtoiAll
import Derived.Lib.Small
import Derived.Lib.Bytealg
import Derived.Test.YtmnafaaijglnfaaGreatDoorCards
import Derived.Test.YtmnafaaijglnfaaGreatDoorTie
import Derived.ProofKit
import Derived.OpenShut
import Derived.Deep.DeepHandedRow
import Derived.Deep.DeepWitnessRowRef
import Derived.Lib.LaidIn
import Derived.Lib.SmallJoins
import Derived.Stop.LaidErr
import Derived.LaidSub
import Derived.SizedLaws
import Derived.Laws.AppendOwn
import Derived.Laws.OwnMore
import Derived.Maps.AppendAt
import Derived.OwnWalk
import Derived.Lib.Join
import Derived.Lib.Replace
import Derived.Lib.SplitLaws
import Derived.Laws.Cells
namespace Go.Proofs.YtmnafaaijglnfaaGreatDoor
section
abbrev Str:=List UInt8
abbrev bs (s:ByteArray):Str:=s.data.toList
abbrev S (l:Str):Value:=.string ⟨l.toArray⟩
def splitC (c:UInt8):Str->List Str
 | []=>[[]]
 | x::r=>if x=c then []::splitC c r else (match splitC c r with|[]=>[[x]]|p::q=>(x::p)::q)
theorem splitC_ne (c:UInt8) (l:Str):splitC c l≠[]:=by
 cases l with
 | nil=>simp[splitC]
 | cons x r =>
   simp only[splitC]
   split
   ·simp
   ·split<;>simp
theorem indexByte_none (c:UInt8):∀ l:Str,c ∉ l->Lib.indexByte l c=-1
 | [],_=>rfl
 | b::l,h=>by
   have h1:¬ b=c:=fun e=>h (by simp[e])
   have h2:=indexByte_none c l (fun e=>h (by simp[e]))
   simp[Lib.indexByte,h1,h2]
theorem indexByte_app (c:UInt8) (r:Str):∀ a:Str,c ∉ a->Lib.indexByte (a++c::r) c=a.length
 | [],_=>by simp[Lib.indexByte]
 | b::l,h=>by
   have h1:¬ b=c:=fun e=>h (by simp[e])
   have h2:=indexByte_app c r l (fun e=>h (by simp[e]))
   have h3:¬ ((l.length:Int)=-1):=by omega
   simp[Lib.indexByte,h1,h2,h3]
theorem index_none (c:UInt8) (l:Str) (h:c ∉ l):Lib.index l [c]=-1:=by rw[Lib.index_one,indexByte_none c l h]
theorem index_app (c:UInt8) (a r:Str) (h:c ∉ a):Lib.index (a++c::r) [c]=a.length:=by rw[Lib.index_one,indexByte_app c r a h]
theorem first_cut (c:UInt8):∀ l:Str,c ∉ l∨∃ a r,c ∉ a∧l=a++c::r
 | []=>.inl (by simp)
 | x::l=>by
   by_cases hx:x=c
   ·exact .inr ⟨[],l,by simp,by simp[hx]⟩
   ·rcases first_cut c l with h|⟨a,r,ha,rfl⟩
    ·exact .inl (by simp[h,Ne.symm hx])
    ·exact .inr ⟨x::a,r,by simp[ha,Ne.symm hx],by simp⟩
theorem splitC_none (c:UInt8):∀ l:Str,c ∉ l->splitC c l=[l]
 | [],_=>rfl
 | x::l,h=>by
   have h1:¬ x=c:=fun e=>h (by simp[e])
   simp[splitC,h1,splitC_none c l (fun e=>h (by simp[e]))]
theorem splitC_app (c:UInt8) (r:Str):∀ a:Str,c ∉ a->splitC c (a++c::r)=a::splitC c r
 | [],_=>by simp[splitC]
 | x::a,h=>by
   have h1:¬ x=c:=fun e=>h (by simp[e])
   simp[splitC,h1,splitC_app c r a (fun e=>h (by simp[e]))]
theorem count_one_none (c:UInt8) (l:Str) (h:c ∉ l):Lib.count l [c]=0:=Lib.count_miss (index_none c l h)
theorem count_one_app (c:UInt8) (a r:Str) (h:c ∉ a):Lib.count (a++c::r) [c]=1+Lib.count r [c]:=by
 rw[Lib.count_hit (by simp) (index_app c a r h)]
 congr 2
 rw[<-List.drop_drop]
 simp
theorem splitK_one (c:UInt8):∀ (n:Nat) (l:Str),l.length<=n->Lib.splitK [c] 0 (Lib.count l [c]) l=splitC c l:=by
 intro n
 induction n with
 | zero =>
   intro l hl
   have:l=[]:=List.eq_nil_of_length_eq_zero (by omega)
   subst this
   rw[count_one_none c [] (by simp),splitC_none c [] (by simp)]
   rfl
 | succ n ih =>
   intro l hl
   rcases first_cut c l with h|⟨a,r,ha,rfl⟩
   ·rw[count_one_none c l h,splitC_none c l h]
    rfl
   ·rw[count_one_app c a r ha,splitC_app c r a ha,Nat.add_comm,Lib.splitK]
    rw[index_app c a r ha]
    have h3:¬ (((a.length:Int))==-1)=true:=by rw[beq_iff_eq];omega
    rw[if_neg h3]
    congr 1
    ·simp
    ·rw[Int.toNat_natCast,<-List.drop_drop]
     simp only[List.drop_left',List.length_cons,List.length_nil,Nat.zero_add,List.drop_succ_cons,List.drop_zero]
     exact ih r (by simp at hl;omega)
theorem splitC_count (c:UInt8):∀ (n:Nat) (l:Str),l.length<=n->(splitC c l).length=Lib.count l [c]+1:=by
 intro n
 induction n with
 | zero =>
   intro l hl
   have:l=[]:=List.eq_nil_of_length_eq_zero (by omega)
   subst this
   rw[count_one_none c [] (by simp)]
   rfl
 | succ n ih =>
   intro l hl
   rcases first_cut c l with h|⟨a,r,ha,rfl⟩
   ·rw[count_one_none c l h,splitC_none c l h]
    rfl
   ·rw[count_one_app c a r ha,splitC_app c r a ha,List.length_cons,ih r (by simp at hl;omega)]
    omega
theorem splitB_one (c:UInt8) (s:ByteArray):(Lib.splitB ⟨#[c]⟩ 0 (Lib.countB s ⟨#[c]⟩) s).map (·.data.toList)=splitC c (bs s):=by
 rw[Lib.splitB_data]
 exact splitK_one c _ _ (Nat.le_refl _)
def cutC (c:UInt8) (l:Str):Str × Str × Bool:=(l.takeWhile (· != c),(l.dropWhile (· != c)).drop 1,l.contains c)
theorem while_all (p:UInt8->Bool):∀ l:Str,(∀ x∈l,p x=true)->l.takeWhile p=l∧l.dropWhile p=[]
 | [],_=>⟨rfl,rfl⟩
 | x::l,h=>by
   have hx:=h x (by simp)
   obtain⟨h1,h2⟩:=while_all p l (fun y hy=>h y (by simp[hy]))
   simp[hx,h1,h2]
theorem cutC_none (c:UInt8) (l:Str) (h:c ∉ l):cutC c l=(l,[],false):=by
 unfold cutC
 have h1:∀ x∈l,(x != c)=true:=fun x hx=>by
  rw[bne_iff_ne];rintro rfl;exact h hx
 rw[(while_all _ l h1).1,(while_all _ l h1).2]
 simp[h]
theorem cutC_app (c:UInt8) (a r:Str) (h:c ∉ a):cutC c (a++c::r)=(a,r,true):=by
 unfold cutC
 have h1:∀ x∈a,(x != c)=true:=fun x hx=>by
  rw[bne_iff_ne];rintro rfl;exact h hx
 rw[List.takeWhile_append_of_pos h1,List.dropWhile_append_of_pos h1]
 simp
theorem cut_one (c:UInt8) (l:Str):Lib.cut l [c]=cutC c l:=by
 unfold Lib.cut
 rcases first_cut c l with h|⟨a,r,ha,rfl⟩
 ·rw[index_none c l h,cutC_none c l h]
  rfl
 ·rw[index_app c a r ha,cutC_app c a r ha]
  rw[if_pos (by omega)]
  simp only[Int.toNat_natCast,List.length_cons,List.length_nil]
  rw[<-List.drop_drop]
  simp
theorem splitC_length (c:UInt8) (s:ByteArray):(Lib.splitB ⟨#[c]⟩ 0 (Lib.countB s ⟨#[c]⟩) s).length=(splitC c (bs s)).length:=by
 rw[<-splitB_one];simp
theorem bs_append (x y:ByteArray):bs (x++y)=bs x++bs y:=by simp[bs]
theorem str_S {x:ByteArray} {l:Str} (h:bs x=l):Value.string x=S l:=by
 subst h
 have:(⟨(bs x).toArray⟩:ByteArray)=x:=by simp[bs]
 rw[S,this]
end
section
open Go.RowKit
def Ext (w w':World):Prop:=Below w.heap.size w w'
namespace Ext
variable {a b c w w':World}
theorem refl (w:World):Ext w w:=Below.refl _ _
theorem size (h:Ext a b):a.heap.size<=b.heap.size:=Below.size h
theorem trans (h:Ext a b) (k:Ext b c):Ext a c:=Below.trans h (Below.mono k h.size)
theorem alloc (h:Ext a w) (o:Obj):Ext a (w.alloc o):=Below.alloc h h.size o
theorem drew (h:Ext a w):Ext a w.drew:=Below.drew h
theorem drewN (h:Ext a w) (n:Nat):Ext a (w.drewN n):=⟨h.os,h.tape,h.output,h.size,h.block⟩
theorem setCell (h:Ext a w) {p:Addr} (hp:a.heap.size<=p.block) (u:Value):Ext a (w.setCell p u):=Below.setCell h hp u
theorem grow (h:Ext a w) (os:Array Obj):Ext a (Sort.grow w os) :=
 h.trans ⟨rfl,rfl,rfl,by simp[Sort.grow],fun k hk=>by simp[Sort.grow,Array.getElem?_append,hk]⟩
theorem freeze (h:Ext a w) {p:Addr} (hp:a.heap.size<=p.block) (n:Nat):Ext a (w.freeze p n):=by
 refine Below.trans h ?_
 unfold World.freeze
 split
 ·exact Below.refl _ _
 ·exact⟨rfl,rfl,rfl,by simp,fun k hk=>by simp only[Array.getElem?_modify];rw[if_neg (by omega)]⟩
theorem bytesWorld (h:Ext a w) (t:TypeId) (s:ByteArray):Ext a (Lib.bytesWorld w t s):=freeze (alloc (drew h) _) h.size _
theorem cells (h:Ext a b):(∀ k o,k < a.heap.size->b.cell? ⟨k,o,none⟩=a.cell? ⟨k,o,none⟩)∧(∀ k o,k < a.heap.size->b.frozen? ⟨k,o,none⟩=a.frozen? ⟨k,o,none⟩) :=
 ⟨fun k o hk=>Below.cell (p:=⟨k,o,none⟩) h hk,fun k o hk=>Below.frozen (p:=⟨k,o,none⟩) h hk⟩
theorem below (h:Ext a b):Below a.heap.size a b:=h
end Ext
theorem lt_of_cell {w:World} {k o:Nat} {v:Value} (h:w.cell? ⟨k,o,none⟩=some v):k < w.heap.size:=by
 unfold World.cell? at h
 rcases Nat.lt_or_ge k w.heap.size with hlt|hge
 ·exact hlt
 ·rw[Array.getElem?_eq_none hge] at h;cases h
theorem Ext.cell {a b:World} (h:Ext a b) {k o:Nat} {v:Value} (hc:a.cell? ⟨k,o,none⟩=some v):b.cell? ⟨k,o,none⟩=some v:=(h.cells.1 k o (lt_of_cell hc)).trans hc
theorem Ext.var {a b:World} (h:Ext a b) {n:String} {cs:Array Value} (hv:a.var? Tryz.prog n=some cs):b.var? Tryz.prog n=some cs:=by
 unfold World.var? at hv ⊢
 cases hg:Tryz.prog.globalNamed n with
 | none=>rw[hg] at hv;cases hv
 | some g =>
   rw[hg] at hv
   simp only[Option.bind_some] at hv ⊢
   rcases Nat.lt_or_ge g a.heap.size with hlt|hge
   ·rw[Below.block h g hlt];exact hv
   ·rw[Array.getElem?_eq_none hge] at hv;cases hv
def Blk (w:World) (g:Nat) (t:TypeId) (cs:Array Value):Prop:=w.heap[g]?=some (.cells cs t (0,0))
namespace Blk
variable {w w':World} {g:Nat} {t:TypeId} {cs:Array Value}
theorem lt (h:Blk w g t cs):g < w.heap.size:=by
 rcases Nat.lt_or_ge g w.heap.size with hlt|hge
 ·exact hlt
 ·unfold Blk at h;rw[Array.getElem?_eq_none hge] at h;cases h
theorem cell (h:Blk w g t cs) (i:Nat):w.cell? ⟨g,i,none⟩=cs[i]?:=cell_of_row w g i cs t (0,0) h
theorem free (h:Blk w g t cs) (i:Nat):w.frozen? ⟨g,i,none⟩=false:=by
 unfold Blk at h
 simp[World.frozen?,h]
theorem new (w:World) (t:TypeId) (cs:Array Value):Blk (w.alloc (.cells cs t)) w.heap.size t cs:=heap_alloc_new w _
theorem ext (h:Blk w g t cs) (hx:Ext w w'):Blk w' g t cs:=(Below.block hx g h.lt).trans h
theorem alloc (h:Blk w g t cs) (o:Obj):Blk (w.alloc o) g t cs:=h.ext ((Ext.refl w).alloc o)
theorem set (h:Blk w g t cs) (i:Nat) (u:Value):Blk (w.setCell ⟨g,i,none⟩ u) g t (cs.setIfInBounds i u):=by
 unfold Blk at h ⊢
 simp[World.setCell,Array.getElem?_modify,h]
theorem far (h:Blk w g t cs) {p:Addr} (hp:g≠p.block) (u:Value):Blk (w.setCell p u) g t cs:=(Below.heap_setCell w p u g hp).trans h
end Blk
theorem wp_region_ext {P:Program} {id:Nat} {Q:Exit->Act->World->Prop} {a:Act} {w:World} {l:List Oper} (hm:P.follows .mixedOrders=true) (hB:Region.lexB .any l.toArray=true)
 (h:wpQuiet P l.toArray (Ext w) (fun a'=>∀ w',Ext w w'->Q .normal a' w') l a):(Code.region id l.toArray true).wp P Q a w :=
 wp_region_quiet (C:=Ext w) hm hB ((Ext.refl w).drewN 1) (by simpa using h)
structure Good (w:World):Prop where
 maxLen:∃ m,w.cell? ⟨0,0,none⟩=some (.int .i64 m)
theorem Good.ext {w w':World} (g:Good w) (h:Ext w w'):Good w':=⟨let ⟨m,hm⟩:=g.maxLen;⟨m,h.cell hm⟩⟩
structure GoodN (w:World):Prop extends Good w where
 pow10:Lib.TabIs Tryz.prog w "internal/strconv.uint64pow10" .u64 Lib.pow10Tab
 errS:∃ tp p,w.var? Tryz.prog "strconv.ErrSyntax"=some #[.iface tp p]
 errR:∃ tp p,w.var? Tryz.prog "strconv.ErrRange"=some #[.iface tp p]
theorem GoodN.ext {w w':World} (g:GoodN w) (h:Ext w w'):GoodN w' :=
 ⟨g.toGood.ext h,h.var g.pow10,let ⟨t,p,e⟩:=g.errS;⟨t,p,h.var e⟩,let ⟨t,p,e⟩:=g.errR;⟨t,p,h.var e⟩⟩
theorem ret_bool {a b:Bool} (h:a=b):Ending.returned (.bool a)=.returned (.bool b):=by rw[h]
theorem ret_int {k:IntKind} {a b:Int} (h:a=b):Ending.returned (.int k a)=.returned (.int k b):=by rw[h]
theorem ret_str {a b:Str} (h:a=b):Ending.returned (S a)=.returned (S b):=by rw[h]
theorem ret_strS {x:ByteArray} {l:Str} (h:bs x=l):Ending.returned (.string x)=.returned (S l):=by rw[str_S h]
theorem toList_length (s:ByteArray):s.toList.length=s.size:=by rw[ByteArray.toList_eq,Array.length_toList];rfl
theorem bs_length (s:ByteArray):(bs s).length=s.size:=by rw[<-toList_length,ByteArray.toList_eq]
theorem size_zero {s:ByteArray} (h:s.toList=[]):s.size=0:=by rw[<-toList_length,h];rfl
theorem size_pos {s:ByteArray} (h:¬ s.toList=[]):0 < s.size:=by
 rw[<-toList_length]
 exact List.length_pos_iff.2 h
theorem take_size (s:ByteArray):s.data.toList.take s.size=s.data.toList:=List.take_of_length_le (by simp)
theorem emp_of_size {s:ByteArray} (h:s.size=0):s.toList=[]:=List.eq_nil_of_length_eq_zero (by rw[toList_length,h])
theorem nemp_of_size {s:ByteArray} (h:0 < s.size):¬ s.toList=[]:=fun e=>by have:=size_zero e;omega
theorem emp_bool {s:ByteArray} (h:s.size=0):s.toList.isEmpty=true:=by rw[emp_of_size h];rfl
theorem nemp_bool {s:ByteArray} (h:0 < s.size):s.toList.isEmpty=false:=by
 have:=nemp_of_size h
 simpa using this
theorem mk_bs (s:ByteArray):(⟨(bs s).toArray⟩:ByteArray)=s:=Lib.mk_data s
theorem S_bs (s:ByteArray):S (bs s)=.string s:=by rw[S,mk_bs]
theorem bs_mk (l:Str):bs ⟨l.toArray⟩=l:=by simp[bs]
theorem Ext.au {a w:World} (h:Ext a w:=by repeat (first|with_reducible exact Ext.refl _|with_reducible assumption|with_reducible apply Ext.drewN|with_reducible apply Ext.drew|with_reducible apply Ext.alloc|exact Ext.refl _|assumption|apply Ext.drewN|apply Ext.drew|apply Ext.alloc)):Ext a w:=h
theorem Ext.ad {a w:World} (h:Ext a w:=by repeat (first|with_reducible exact Ext.refl _|with_reducible assumption|with_reducible apply Ext.drewN|with_reducible apply Ext.drew|with_reducible apply Ext.alloc|((with_reducible refine Ext.setCell ?_ ?_ _);rotate_left;(first|(dsimp only;omega)|(simp;omega)|skip))|exact Ext.refl _|assumption|apply Ext.drewN|apply Ext.drew|apply Ext.alloc|refine Ext.setCell ?_ (by first|(dsimp only;omega)|(simp;omega)) _)):Ext a w:=h
theorem Hy {p:Prop} (h:p):Go.RowKit.Hid p:=Lib.hid h
end
section
open Go.RowKit
def smallB (c:UInt8):Bool:=decide (97<=c.toNat)&&decide (c.toNat<=122)
def digitB (c:UInt8):Bool:=decide (48<=c.toNat)&&decide (c.toNat<=57)
def greatB (c:UInt8):Bool:=decide (65<=c.toNat)&&decide (c.toNat<=90)
def nameB (c:UInt8):Bool:=smallB c||digitB c||decide (c.toNat=45)||decide (c.toNat=46)
def partB (c:UInt8):Bool:=smallB c||greatB c||digitB c||decide (c.toNat=45)||decide (c.toNat=46)||decide (c.toNat=95)
def valueB (c:UInt8):Bool:=decide (32<=c.toNat)&&decide (c.toNat<=126)
def wordB (c:UInt8):Bool:=smallB c||digitB c
set_option maxHeartbeats 400000 in
theorem isSmall_any (c:UInt8) (w:World) :
 Calls Tryz.prog 78 #[.int .u8 c.toNat] w fun e w'=>e=.returned (.bool (smallB c))∧w=w':=by
 go_enter Tryz.func78,Tryz.ntmps78
 go_wp2
 all_goals go_ret
 all_goals refine⟨ret_bool ?_,rfl⟩
 all_goals rw[Bool.eq_iff_iff]
 all_goals simp only[smallB,Bool.and_eq_true,decide_eq_true_eq,Bool.false_eq_true,false_iff,not_and]
 all_goals omega
set_option maxHeartbeats 400000 in
theorem isDigit_any (c:UInt8) (w:World) :
 Calls Tryz.prog 79 #[.int .u8 c.toNat] w fun e w'=>e=.returned (.bool (digitB c))∧w=w':=by
 go_enter Tryz.func79,Tryz.ntmps79
 go_wp2
 all_goals go_ret
 all_goals refine⟨ret_bool ?_,rfl⟩
 all_goals rw[Bool.eq_iff_iff]
 all_goals simp only[digitB,Bool.and_eq_true,decide_eq_true_eq,Bool.false_eq_true,false_iff,not_and]
 all_goals omega
set_option maxHeartbeats 400000 in
theorem isName1_any (c:UInt8) (w:World) :
 Calls Tryz.prog 77 #[.int .u8 c.toNat] w fun e w'=>e=.returned (.bool (nameB c))∧w=w':=by
 go_enter Tryz.func77,Tryz.ntmps77
 go_wp2_with (first|(go_at_call 78;refine (isSmall_any _ _).mono ?_;rintro e w' ⟨rfl,rfl⟩)|(go_at_call 79;refine (isDigit_any _ _).mono ?_;rintro e w' ⟨rfl,rfl⟩))
 all_goals go_ret
 all_goals refine⟨ret_bool ?_,rfl⟩
 all_goals rw[Bool.eq_iff_iff]
 all_goals simp[nameB, *]
 all_goals omega
set_option maxHeartbeats 400000 in
theorem isValue1_any (c:UInt8) (w:World) :
 Calls Tryz.prog 81 #[.int .u8 c.toNat] w fun e w'=>e=.returned (.bool (valueB c))∧w=w':=by
 go_enter Tryz.func81,Tryz.ntmps81
 go_wp2
 all_goals go_ret
 all_goals refine⟨ret_bool ?_,rfl⟩
 all_goals rw[Bool.eq_iff_iff]
 all_goals simp only[valueB,Bool.and_eq_true,decide_eq_true_eq,Bool.false_eq_true,false_iff,not_and]
 all_goals omega
set_option maxHeartbeats 400000 in
theorem isEarly1_any (c:UInt8) (w:World) :
 Calls Tryz.prog 149 #[.int .u8 c.toNat] w fun e w'=>e=.returned (.bool (wordB c))∧w=w':=by
 go_enter Tryz.func149,Tryz.ntmps149
 go_wp2_with (first|(go_at_call 78;refine (isSmall_any _ _).mono ?_;rintro e w' ⟨rfl,rfl⟩)|(go_at_call 79;refine (isDigit_any _ _).mono ?_;rintro e w' ⟨rfl,rfl⟩))
 all_goals go_ret
 all_goals refine⟨ret_bool ?_,rfl⟩
 all_goals simp[wordB, *]
set_option maxHeartbeats 400000 in
theorem isPart1_any (c:UInt8) (w:World) :
 Calls Tryz.prog 151 #[.int .u8 c.toNat] w fun e w'=>e=.returned (.bool (partB c))∧w=w':=by
 go_enter Tryz.func151,Tryz.ntmps151
 go_wp2_with (first|(go_at_call 78;refine (isSmall_any _ _).mono ?_;rintro e w' ⟨rfl,rfl⟩)|(go_at_call 79;refine (isDigit_any _ _).mono ?_;rintro e w' ⟨rfl,rfl⟩))
 all_goals go_ret
 all_goals refine⟨ret_bool ?_,rfl⟩
 all_goals rw[Bool.eq_iff_iff]
 all_goals simp[partB,greatB, *]
 all_goals omega
structure IsPred (f:FuncId) (p:UInt8->Bool):Prop where
 enter:∀ xs w,Sem.run Tryz.prog (callFunc f xs) w=.ok (.enter f xs) w
 calls:∀ (c:UInt8) (w:World),Calls Tryz.prog f #[.int .u8 c.toNat] w fun e w'=>e=.returned (.bool (p c))∧w=w'
theorem isDigit_pred:IsPred 79 digitB:=⟨fun xs w=>by kernel_rfl,isDigit_any⟩
theorem isValue1_pred:IsPred 81 valueB:=⟨fun xs w=>by kernel_rfl,isValue1_any⟩
theorem isEarly1_pred:IsPred 149 wordB:=⟨fun xs w=>by kernel_rfl,isEarly1_any⟩
theorem isPart1_pred:IsPred 151 partB:=⟨fun xs w=>by kernel_rfl,isPart1_any⟩
theorem isName1_pred:IsPred 77 nameB:=⟨fun xs w=>by kernel_rfl,isName1_any⟩
theorem all_take_succ (p:UInt8->Bool) (s:ByteArray) (k:Nat) (h:k < s.size):(s.data.toList.take (k+1)).all p=((s.data.toList.take k).all p&&p s[k]):=by
 rw[List.take_succ_eq_append_getElem (by simpa using h)]
 simp[ByteArray.getElem_eq_getElem_data]
theorem all_false_of (p:UInt8->Bool) (s:ByteArray) (k:Nat) (h:k < s.size) (hp:p s[k]=false):s.data.toList.all p=false:=by
 rw[List.all_eq_false]
 exact⟨s[k],by simp[ByteArray.getElem_eq_getElem_data],by simp[hp]⟩
def eachB (p:UInt8->Bool) (s:ByteArray) (n:Int):Bool:=s.data.toList.all p&&decide (0 < s.size)&&decide ((s.size:Int)<=n)
set_option maxHeartbeats 400000 in
theorem each_any (f:FuncId) (p:UInt8->Bool) (s:ByteArray) (n:Int) (w:World) (hs:s.size<=2097152) (hf:IsPred f p) :
 Calls Tryz.prog 76 #[.string s,.int .i64 n,.func (.func f) #[] #[]] w fun e w'=>e=.returned (.bool (eachB p s n))∧w=w':=by
 have hen:=hf.enter
 go_enter Tryz.func76,Tryz.ntmps76
 go_wp2
 go_loop [7] (fun i=>∃ k:Nat,k<=s.size∧i=.int .i64 k∧(s.data.toList.take k).all p=true) (fun i=>s.size - (intOf i).toNat)
 case atStart=>exact⟨0,Nat.zero_le _,rfl,by simp⟩
 case round =>
  obtain⟨k,hk,rfl,hall⟩:=hrel
  have HALL:=Hy hall
  clear hall
  by_cases hlt:k < s.size
  ·go_wp2_with (fail)
   refine (hf.calls _ _).mono ?_
   rintro e w' ⟨rfl,rfl⟩
   cases hp:p s[k]
   ·go_wp2
    go_ret
    refine⟨ret_bool ?_,rfl⟩
    unfold eachB
    rw[all_false_of p s k hlt hp]
    rfl
   ·go_wp2
    go_round
    case rel=>exact⟨k+1,by omega,by go_num,by rw[all_take_succ _ _ _ hlt,HALL.out,hp];rfl⟩
    case measure=>simp[intOf];omega
  ·obtain rfl:k=s.size:=by omega
   go_wp2
   all_goals go_ret
   all_goals refine⟨ret_bool ?_,rfl⟩
   all_goals rw[take_size] at HALL
   all_goals unfold eachB
   all_goals rw[HALL.out]
   ·simp[size_zero ‹_›]
   ·simp[size_pos ‹_›,‹¬ s.toList=[]›]
end
section
open Go.RowKit
theorem size_list (s:ByteArray):s.size=(bs s).length:=(bs_length s).symm
def eachL (p:UInt8->Bool) (l:Str) (n:Nat):Bool:=l.all p&&decide (0 < l.length)&&decide (l.length<=n)
theorem eachB_L (p:UInt8->Bool) (s:ByteArray) (n:Nat):eachB p s (n:Int)=eachL p (bs s) n:=by
 unfold eachB eachL
 rw[size_list]
 congr 1
 rw[decide_eq_decide]
 omega
theorem eachL_pos {p:UInt8->Bool} {s:ByteArray} {n:Nat} (h:eachL p (bs s) n=true):0 < s.size:=by
 unfold eachL at h
 simp only[Bool.and_eq_true,decide_eq_true_eq] at h
 rw[size_list];exact h.1.2
theorem each_list (f:FuncId) (p:UInt8->Bool) (s:ByteArray) (n:Nat) (w:World) (hs:s.size<=2097152) (hf:IsPred f p) :
 Calls Tryz.prog 76 #[.string s,.int .i64 n,.func (.func f) #[] #[]] w fun e w'=>e=.returned (.bool (eachL p (bs s) n))∧w=w' :=
 (each_any f p s n w hs hf).mono fun _ _ ⟨h,k⟩=>⟨by rw[h,eachB_L],k⟩
def nameL (l:Str):Bool:=eachL nameB l 40&&smallB (l.headD 0)
theorem head_bs (s:ByteArray) (h:0 < s.size):(bs s).headD 0=s[0]:=by
 have h1:s.data.toList[0]?=some s[0]:=Lib.data_getElem? s 0 h
 unfold bs
 cases hl:s.data.toList with
 | nil=>rw[hl] at h1;cases h1
 | cons x r=>rw[hl] at h1;simpa using h1
set_option maxHeartbeats 400000 in
theorem IsName_any (s:ByteArray) (w:World) (hs:s.size<=2097152) :
 Calls Tryz.prog 18 #[.string s] w fun e w'=>e=.returned (.bool (nameL (bs s)))∧w=w':=by
 go_enter Tryz.func18,Tryz.ntmps18
 go_wp2_with fail
 refine (each_list _ _ s 40 _ hs isName1_pred).mono ?_
 rintro e w' ⟨rfl,rfl⟩
 cases h:eachL nameB (bs s) 40
 ·go_wp2
  go_ret
  exact⟨ret_bool (by rw[nameL,h];rfl),rfl⟩
 ·have hp:=eachL_pos h
  go_wp2_with (go_at_call 78;refine (isSmall_any _ _).mono ?_;rintro e w' ⟨rfl,rfl⟩)
  go_ret
  exact⟨ret_bool (by rw[nameL,h,head_bs s hp];rfl),rfl⟩
def partL (l:Str):Bool:=eachL partB l 40&&(l != [46])&&(l != [46,46])
theorem lit_beq (s:ByteArray) (l:Str):(s.toList==l)=(bs s==l):=by rw[ByteArray.toList_eq]
theorem lit_bne (s:ByteArray) (l:Str):(s.toList != l)=(bs s != l):=by rw[ByteArray.toList_eq]
set_option maxHeartbeats 400000 in
theorem isPart_any (s:ByteArray) (w:World) (hs:s.size<=2097152) :
 Calls Tryz.prog 80 #[.string s] w fun e w'=>e=.returned (.bool (partL (bs s)))∧w=w':=by
 go_enter Tryz.func80,Tryz.ntmps80
 go_wp2_with fail
 refine (each_list _ _ s 40 _ hs isPart1_pred).mono ?_
 rintro e w' ⟨rfl,rfl⟩
 cases h:eachL partB (bs s) 40
 ·go_wp2
  go_ret
  exact⟨ret_bool (by rw[partL,h];rfl),rfl⟩
 ·go_wp2
  all_goals go_ret
  all_goals refine⟨ret_bool ?_,rfl⟩
  all_goals simp_all [partL,ByteArray.toList_eq]
  all_goals rfl
def valueL (l:Str):Bool:=l.all valueB&&decide (l.length<=1000)
theorem bs_nil {s:ByteArray} (h:s.size=0):bs s=[]:=List.eq_nil_of_length_eq_zero (by rw[bs_length,h])
theorem eachL_value {s:ByteArray} (h:0 < s.size):eachL valueB (bs s) 1000=valueL (bs s):=by
 unfold eachL valueL
 rw[bs_length,decide_eq_true h,Bool.and_true]
set_option maxHeartbeats 400000 in
theorem IsValue_any (s:ByteArray) (w:World) (hs:s.size<=2097152) :
 Calls Tryz.prog 22 #[.string s] w fun e w'=>e=.returned (.bool (valueL (bs s)))∧w=w':=by
 go_enter Tryz.func22,Tryz.ntmps22
 rcases Nat.eq_zero_or_pos s.size with h0|h0
 ·have he:=emp_of_size h0
  go_wp2
  go_ret
  exact⟨ret_bool (by rw[bs_nil h0];rfl),rfl⟩
 ·have he:=nemp_of_size h0
  go_wp2_with (go_at_call 76;refine (each_list _ _ s 1000 _ hs isValue1_pred).mono ?_;rintro e w' ⟨rfl,rfl⟩)
  go_ret
  have hi:s.toList.isEmpty=false:=by simpa using he
  exact⟨ret_bool (by rw[eachL_value h0,hi];rfl),rfl⟩
def numeralL (l:Str):Bool:=eachL digitB l 10
set_option maxHeartbeats 400000 in
theorem isNumeral_any (s:ByteArray) (w:World) (hs:s.size<=2097152) :
 Calls Tryz.prog 150 #[.string s] w fun e w'=>e=.returned (.bool (numeralL (bs s)))∧w=w':=by
 go_enter Tryz.func150,Tryz.ntmps150
 go_wp2_with (go_at_call 76;refine (each_list _ _ s 10 _ hs isDigit_pred).mono ?_;rintro e w' ⟨rfl,rfl⟩)
 go_ret
 exact⟨rfl,rfl⟩
set_option maxHeartbeats 400000 in
theorem outside_any (n a b:Int) (w:World) :
 Calls Tryz.prog 74 #[.int .i64 n,.int .i64 a,.int .i64 b] w fun e w'=>e=.returned (.bool (decide (n < a∨b < n)))∧w=w':=by
 go_enter Tryz.func74,Tryz.ntmps74
 go_wp2
 all_goals go_ret
 all_goals refine⟨ret_bool ?_,rfl⟩
 all_goals simp
 all_goals omega
set_option maxHeartbeats 400000 in
theorem In_any (n a b:Int) (w:World) :
 Calls Tryz.prog 58 #[.int .i64 n,.int .i64 a,.int .i64 b] w fun e w'=>e=.returned (.bool (decide (a<=n∧n<=b)))∧w=w':=by
 go_enter Tryz.func58,Tryz.ntmps58
 go_wp2
 all_goals go_ret
 all_goals refine⟨ret_bool ?_,rfl⟩
 all_goals simp
 all_goals omega
set_option maxHeartbeats 400000 in
theorem When_any (b:Bool) (n:Int) (w:World) :
 Calls Tryz.prog 38 #[.bool b,.int .i64 n] w fun e w'=>e=.returned (.int .i64 (if b then n else 0))∧w=w':=by
 go_enter Tryz.func38,Tryz.ntmps38
 cases b
 all_goals go_wp2
 all_goals go_ret
 all_goals exact⟨rfl,rfl⟩
end
section
open Go.RowKit
def firstI:List Int->Int
 | []=>0
 | e::r=>if e=0 then firstI r else e
theorem firstI_zero:∀ {l:List Int},(∀ x∈l,x=0)->firstI l=0
 | [],_=>rfl
 | e::r,h=>by
   unfold firstI
   rw[if_pos (h e (by simp)),firstI_zero fun x hx=>h x (by simp[hx])]
theorem firstI_at:∀ {l:List Int} {k:Nat} (hk:k < l.length),(∀ x∈l.take k,x=0)->l[k]≠0->firstI l=l[k]
 | e::r,0,_,_,h=>by unfold firstI;rw[if_neg (by simpa using h)];rfl
 | e::r,k+1,hk,h0,h=>by
   unfold firstI
   rw[if_pos (h0 e (by simp))]
   exact firstI_at (l:=r) (k:=k) (by simpa using hk) (fun x hx=>h0 x (by simp[hx])) (by simpa using h)
theorem take_zero_succ {l:List Int} {k:Nat} (hk:k < l.length) (h:∀ x∈l.take k,x=0) (h0:l[k]=0):∀ x∈l.take (k+1),x=0:=by
 intro x hx
 rw[List.take_succ_eq_append_getElem hk,List.mem_append] at hx
 rcases hx with hx|hx
 ·exact h x hx
 ·simp at hx;rw[hx,h0]
set_option maxHeartbeats 400000 in
theorem First_any (b c:Nat) (es:List Int) (w:World) (hc:∀ k (h:k < es.length),w.cell? ⟨b,k,none⟩=some (.int .i64 es[k])) (hl:es.length<=1000) :
 Calls Tryz.prog 11 #[.slice (some ⟨b,0,none⟩) es.length c] w fun e w'=>e=.returned (.int .i64 (firstI es))∧w=w':=by
 go_enter Tryz.func11,Tryz.ntmps11
 go_wp2
 go_loop [7] (fun i=>∃ k:Nat,k<=es.length∧i=.int .i64 k∧∀ x∈es.take k,x=0) (fun i=>es.length - (intOf i).toNat)
 case atStart=>exact⟨0,Nat.zero_le _,rfl,by simp⟩
 case round =>
  obtain⟨k,hk,rfl,hall⟩:=hrel
  have HALL:=Hy hall
  clear hall
  by_cases hlt:k < es.length
  ·have hk1:=hc k hlt
   have HC:=Hy hc
   clear hc
   by_cases h0:es[k]=0
   ·have H0:=Hy h0
    rw[h0] at hk1
    clear h0
    go_wp2
    go_round
    case rel=>exact⟨k+1,by omega,by go_num,take_zero_succ hlt HALL.out H0.out⟩
    case measure=>simp[intOf];omega
   ·go_wp2
    go_ret
    exact⟨ret_int (firstI_at hlt HALL.out h0).symm,rfl⟩
  ·obtain rfl:k=es.length:=by omega
   have HC:=Hy hc
   clear hc
   go_wp2
   go_ret
   exact⟨ret_int (firstI_zero (by simpa using HALL.out)).symm,rfl⟩
end
section
open Go.RowKit
structure Strs (w:World) (b:Nat) (xs:List ByteArray):Prop where
 lt:b < w.heap.size
 cell:∀ k (h:k < xs.length),w.cell? ⟨b,k,none⟩=some (.string xs[k])
theorem Strs.ext {w w':World} {b:Nat} {xs:List ByteArray} (h:Strs w b xs) (hx:Ext w w'):Strs w' b xs:=⟨Nat.lt_of_lt_of_le h.lt hx.size,fun k hk=>hx.cell (h.cell k hk)⟩
theorem split_any (c:UInt8) (s:ByteArray) (w:World) (hg:Good w) (hs:s.size<=2097152) :
 Calls Tryz.prog 70 #[.string s,.string ⟨#[c]⟩] w fun e w'=>∃ (b:Nat) (xs:List ByteArray),
  e=.returned (.slice (some ⟨b,0,none⟩) xs.length xs.length)∧w.heap.size<=b∧Strs w' b xs∧xs.map bs=splitC c (bs s)∧Ext w w':=by
 obtain⟨m,hm⟩:=hg.maxLen
 refine (Tryz.strings_Split s ⟨#[c]⟩ m w (by omega) hm (Nat.le_refl _)).mono ?_
 rintro e w' ⟨rfl,rfl⟩
 have hlen:(Lib.splitB ⟨#[c]⟩ 0 (Lib.countB s ⟨#[c]⟩) s).length=Lib.countB s ⟨#[c]⟩+1:=by
  rw[splitC_length,splitC_count c _ _ (Nat.le_refl _)]
 refine⟨w.heap.size,_,by rw[hlen],Nat.le_refl _,⟨by simp,?_⟩,splitB_one c s,(Ext.refl w).alloc _⟩
 intro k hk
 rw[World.cell?_alloc_at _ _ _ _ rfl]
 simp[hk]
theorem cut_any (c:UInt8) (s:ByteArray) (w:World) (hg:Good w) (hs:s.size<=2097152) :
 Calls Tryz.prog 86 #[.string s,.string ⟨#[c]⟩] w fun e w'=>e=.returned (.tuple #[S (cutC c (bs s)).1,S (cutC c (bs s)).2.1,.bool (cutC c (bs s)).2.2])∧Ext w w':=by
 obtain⟨m,hm⟩:=hg.maxLen
 refine (Tryz.strings_Cut s ⟨#[c]⟩ m w (by omega) hm).mono ?_
 rintro e w' ⟨rfl,n,rfl⟩
 exact⟨by rw[show (⟨#[c]⟩:ByteArray).data.toList=[c] from rfl,cut_one],(Ext.refl w).drewN n⟩
theorem cutC_size (c:UInt8) (l:Str):(cutC c l).1.length<=l.length∧(cutC c l).2.1.length<=l.length:=by
 rcases first_cut c l with h|⟨a,r,ha,rfl⟩
 ·rw[cutC_none c l h];simp
 ·rw[cutC_app c a r ha];simp;omega
theorem cut_ex (c:UInt8) (s:ByteArray) (w:World) (hg:Good w) (hs:s.size<=2097152) :
 Calls Tryz.prog 86 #[.string s,.string ⟨#[c]⟩] w fun e w'=>∃ (a b:ByteArray) (f:Bool),e=.returned (.tuple #[.string a,.string b,.bool f])∧cutC c (bs s)=(bs a,bs b,f)∧a.size<=s.size∧b.size<=s.size∧Ext w w' :=
 (cut_any c s w hg hs).mono fun _ _ ⟨h,k⟩=>by
   have h1:=cutC_size c (bs s)
   rw[bs_length] at h1
   exact⟨_,_,_,h,by rw[bs_mk,bs_mk],by rw[<-bs_length,bs_mk];exact h1.1,by rw[<-bs_length,bs_mk];exact h1.2,k⟩
theorem contains_any (c:UInt8) (s:ByteArray) (w:World) (hg:Good w) (hs:s.size<=2097152) :
 Calls Tryz.prog 232 #[.string s,.string ⟨#[c]⟩] w fun e w'=>e=.returned (.bool ((bs s).contains c))∧w=w':=by
 obtain⟨m,hm⟩:=hg.maxLen
 refine (Tryz.strings_Contains s ⟨#[c]⟩ m w (by omega) hm).mono ?_
 rintro e w' ⟨rfl,rfl⟩
 refine⟨ret_bool ?_,rfl⟩
 unfold Lib.contains
 rw[show (⟨#[c]⟩:ByteArray).data.toList=[c] from rfl]
 rcases first_cut c (bs s) with h|⟨a,r,ha,hr⟩
 ·rw[index_none c _ h];simp[h]
 ·rw[show s.data.toList=a++c::r from hr,index_app c a r ha];simp[bs,hr]
theorem hasPrefix_any (s p:ByteArray) (w:World) :
 Calls Tryz.prog 242 #[.string s,.string p] w fun e w'=>e=.returned (.bool ((bs p).isPrefixOf (bs s)))∧w=w' :=
 (Tryz.strings_HasPrefix s p w).mono fun _ _ ⟨h,k⟩=>⟨h,k.symm⟩
theorem cutPrefix_any (s p:ByteArray) (w:World) :
 Calls Tryz.prog 96 #[.string s,.string p] w fun e w'=>e=.returned (.tuple #[S (Lib.trimPrefix (bs s) (bs p)),.bool ((bs p).isPrefixOf (bs s))])∧w=w' :=
 (Tryz.strings_CutPrefix s p w).mono fun _ _ ⟨h,k⟩=>⟨h,k.symm⟩
theorem indexByte_any (s:ByteArray) (c:UInt8) (w:World) :
 Calls Tryz.prog 162 #[.string s,.int .u8 c.toNat] w fun e w'=>e=.returned (.int .i64 (Lib.indexByte (bs s) c))∧w=w' :=
 (Tryz.strings_IndexByte s c.toNat w).mono fun _ _ ⟨h,k⟩=>⟨by rw[h,Lib.byte_back],k.symm⟩
theorem compare_any (a b:ByteArray) (w:World) :
 Calls Tryz.prog 44 #[.string a,.string b] w fun e w'=>e=.returned (.int .i64 (Lib.compareBytes (bs a) (bs b)))∧w=w' :=
 (Tryz.strings_Compare a b w).mono fun _ _ ⟨h,k⟩=>⟨h,k.symm⟩
theorem compareInt_any (a b:Int) (w:World) :
 Calls Tryz.prog 84 #[.int .i64 a,.int .i64 b] w fun e w'=>e=.returned (.int .i64 (Lib.compareInt a b))∧w=w' :=
 (Tryz.cmp_Compare_int a b w).mono fun _ _ ⟨h,k⟩=>⟨h,k.symm⟩
theorem itoa_any (n:Int) (w:World) (hg:GoodN w) (h0:-9223372036854775808<=n) (h1:n<=9223372036854775807) :
 Calls Tryz.prog 82 #[.int .i64 n] w fun e w'=>e=.returned (S (Lib.itoa n))∧Ext w w' :=
 (Tryz.strconv_Itoa n h0 h1 w hg.pow10).mono fun _ _ ⟨h,k,os,hk⟩=>⟨h,by rw[hk];exact ((Ext.refl w).drewN k).grow os⟩
theorem atoi_any (s:ByteArray) (w:World) (hg:GoodN w) (hs:s.size<=2097152) :
 Calls Tryz.prog 85 #[.string s] w fun e w'=>∃ (v:Int) (ev:Value),e=.returned (.tuple #[.int .i64 v,ev])∧Ext w w' ∧
  (∀ u,Lib.atoiAll (bs s)=.ok u->v=u∧ev=.nilIface)∧(ev=.nilIface∨∃ t p,ev=.iface t p):=by
 cases h:Lib.atoiAll s.data.toList
 ·rename_i u
  refine (Tryz.strconv_Atoi_ok s (by omega) u h w).mono ?_
  rintro e w' ⟨rfl,hw⟩
  refine⟨u,.nilIface,rfl,?_,fun u' hu=>⟨by injection hu,rfl⟩,.inl rfl⟩
  rcases hw with rfl|⟨t,rfl⟩
  ·exact Ext.refl _
  ·exact (Ext.refl _).bytesWorld _ _
 ·obtain⟨tp,p,hv⟩:=hg.errS
  refine (Any.strconv_Atoi_syntax_var Tryz.laysC172 s (by omega) h tp p w hv).mono ?_
  rintro e w' ⟨N,rfl,_,_,hb⟩
  exact⟨_,_,rfl,hb,(fun u' hu=>by cases hu),.inr ⟨_,_,rfl⟩⟩
 ·obtain⟨tp,p,hv⟩:=hg.errR
  refine (Tryz.strconv_Atoi_range_var s (by omega) h tp p w hv).mono ?_
  rintro e w' ⟨N,rfl,_,_,hb⟩
  exact⟨_,_,rfl,hb,(fun u' hu=>by cases hu),.inr ⟨_,_,rfl⟩⟩
theorem trim_any (s cs:ByteArray) (w:World) (hs:s.size<=2097152) (hcs:cs.size<=1000) (hascii:∀ (j:Nat) b,cs.data.toList[j]?=some b->b.toNat < 128) :
 Calls Tryz.prog 146 #[.string s,.string cs] w fun e w'=>e=.returned (S (Lib.trimS (bs s) (bs cs)))∧Ext w w' :=
 Any.strings_Trim_laid Tryz.laysT160 (by kernel_rfl) s cs w (by omega) (by omega) hascii
end
section
open Go
def lackOf (listed:Array Bool):Nat:=listed.toList.countP fun b=>!b
theorem count_set:∀ (l:List Bool) (i:Nat),l[i]?=some false->(l.set i true).countP (fun b=>!b)+1=l.countP fun b=>!b
 | [],_,h=>by cases h
 | b::l,0,h=>by
   have h:b=false:=Option.some.inj h
   subst h
   simp
 | b::l,i+1,h=>by
   have ih:=count_set l i h
   simp only[List.set_cons_succ,List.countP_cons]
   omega
theorem lackOf_set {listed:Array Bool} {i:Nat} (hi:i < listed.size) (h:listed.getD i true=false):lackOf (listed.setIfInBounds i true)+1=lackOf listed:=by
 unfold lackOf
 rw[Array.toList_setIfInBounds]
 refine count_set _ _ ?_
 rw[Array.getElem?_toList,Array.getElem?_eq_getElem hi]
 have:listed.getD i true=listed[i]:=by simp[Array.getD,hi]
 rw[<-this,h]
theorem lackOf_rep (n:Nat):lackOf (Array.replicate n false)=n:=by
 unfold lackOf
 rw[Array.toList_replicate,List.countP_replicate]
 rfl
theorem getD_pos {listed:Array Bool} {i:Nat} (h:listed.getD i true=false):i < listed.size:=by
 rcases Nat.lt_or_ge i listed.size with h1|h1
 ·exact h1
 ·simp[Array.getD,Nat.not_lt.2 h1] at h
section
variable {P:Program} {md:Region.Mode} {ops:Array Oper} {Q:Exit->Act->World->Prop}
theorem wpAny_inv (J:Array Bool->Act->World->Prop)
 (hstep:∀ (i:Nat) (o:Oper) (listed:Array Bool) (a:Act) (w:World),listed.size=ops.size->ops[i]?=some o->listed.getD i true=false->(∀ e∈o.after,Region.binds md e=true->listed.getD e.on false=true)->J listed a w ->
   ∀ K:Act->World->Prop,(∀ a w,J (listed.setIfInBounds i true) a w->K a w)->if Region.wanted o (yielded ops a.tmps)=true then Oper.wp P o a w K Q else K (a.put o.dst undef) w)
 (hend:∀ (listed:Array Bool) (a:Act) (w:World),listed.size=ops.size->Region.ready md ops listed=[]->J listed a w->Q .normal a w) :
 ∀ (fuel:Nat) (listed:Array Bool) (a:Act) (w:World),listed.size=ops.size->lackOf listed<=fuel->J listed a w->wpAny P md ops Q fuel listed a w:=by
 intro fuel
 induction fuel with
 | zero =>
   intro listed a w hsz hf hj
   have hr:Region.ready md ops listed=[]:=by
    apply List.eq_nil_iff_forall_not_mem.2
    intro i hi
    obtain⟨h1,_⟩:=mem_ready.1 hi
    have:=lackOf_set (getD_pos h1) h1
    omega
   exact⟨hr,hend listed a w hsz hr hj⟩
 | succ fuel ih =>
   intro listed a w hsz hf hj
   refine⟨fun hr=>hend listed a w hsz hr hj,fun i hi=>?_⟩
   obtain⟨h1,o,ho,hall⟩:=mem_ready.1 hi
   have hl:=lackOf_set (getD_pos h1) h1
   exact wpOp_step ho fun K hK=>hstep i o listed a w hsz ho h1 hall hj K fun a' w' hj'=>hK a' w' (ih _ a' w' (by rw[Array.size_setIfInBounds];exact hsz) (by omega) hj')
theorem wp_region_inv {id:Nat} {a:Act} {w:World} (hm:P.follows .mixedOrders=true) (J:Array Bool->Act->World->Prop)
 (hstart:J (Array.replicate ops.size false) a w.drew)
 (hstep:∀ (i:Nat) (o:Oper) (listed:Array Bool) (a:Act) (w:World),listed.size=ops.size->ops[i]?=some o->listed.getD i true=false->(∀ e∈o.after,Region.binds .any e=true->listed.getD e.on false=true)->J listed a w ->
   ∀ K:Act->World->Prop,(∀ a w,J (listed.setIfInBounds i true) a w->K a w)->if Region.wanted o (yielded ops a.tmps)=true then Oper.wp P o a w K Q else K (a.put o.dst undef) w)
 (hend:∀ (listed:Array Bool) (a:Act) (w:World),listed.size=ops.size->Region.ready .any ops listed=[]->J listed a w->Q .normal a w) :
 (Code.region id ops true).wp P Q a w :=
 wp_region_any hm (wpAny_inv J hstep hend _ _ _ _ (by simp) (by rw[lackOf_rep];exact Nat.le_refl _) hstart)
end
end
section
open Go
structure Fact where
 holds:World->Prop
 stays:∀ w w',holds w->Ext w w'->holds w'
def Fact.no:Fact:=⟨fun _=>True,fun _ _ _ _=>trivial⟩
inductive Held
 | one (v:Value)
 | fam (β:Type) (d:β) (val:β->Value) (fact:β->Fact)
def waitsFor (o:Oper) (j:Nat):Bool:=o.after.toList.any fun e=>Region.binds .any e&&e.on==j
def dstIs (ops:Array Oper) (j:Nat) (x:Tmp):Bool:=match ops[j]? with|some o=>o.dst==some x|none=>false
structure Cls (w0:World) (o:Oper) (F:Nat->Fact) (w:World):Prop where
 ext:Ext w0 w
 facts:∀ j,waitsFor o j=true->(F j).holds w
theorem Cls.grow {w0 w w':World} {o:Oper} {F:Nat->Fact} (h:Cls w0 o F w) (hx:Ext w w'):Cls w0 o F w':=⟨h.ext.trans hx,fun j hj=>(F j).stays _ _ (h.facts j hj) hx⟩
def setF (F:Nat->Fact) (k:Nat) (f:Fact):Nat->Fact:=fun j=>if j=k then f else F j
def growUpon (P:Program) (_o:Oper) (w:World) {β:Type} (val:β->Value) (fact:β->Fact):Result Next->Prop
 | .ok (.value u) w'=>Ext w w'∧∃ b,u=val b∧(fact b).holds w'
 | .ok (.enter f args) w'=>w'=w∧Calls P f args w (fun e w''=>Ext w w''∧∃ b,e=.returned (val b)∧(fact b).holds w'')
 | _=>False
section
variable (P:Program) (ops:Array Oper) (w0:World)
def OneAt (F:Nat->Fact) (o:Oper) (a:Act) (v:Value):Prop:=if Region.wanted o (yielded ops a.tmps)=true then ∀ w,Cls w0 o F w->o.quietAt P a (Ext w) w v else v=undef
def FamAt (F:Nat->Fact) (o:Oper) (a:Act) {β:Type} (val:β->Value) (fact:β->Fact):Prop:=Region.wanted o (yielded ops a.tmps)=true∧∀ w,Cls w0 o F w->growUpon P o w val fact ((execOp a.eval o).run P w)
def SpecAt (F:Nat->Fact) (o:Oper) (a:Act):Held->Prop
 | .one v=>OneAt P ops w0 F o a v
 | .fam _ _ val fact=>FamAt P ops w0 F o a val fact
def wpGrow (Q:Act->World->Prop):List Oper->List Held->Nat->(Nat->Fact)->Act->Prop
 | [],_,_,F,a=>∀ w,Ext w0 w->(∀ j,(F j).holds w)->Q a w
 | _::_,[],_,_,_=>False
 | o::rest,.one v::T,k,F,a=>OneAt P ops w0 F o a v∧wpGrow Q rest T (k+1) F (a.put o.dst v)
 | o::rest,.fam _ _ val fact::T,k,F,a=>FamAt P ops w0 F o a val fact∧∀ b,wpGrow Q rest T (k+1) (setF F k (fact b)) (a.put o.dst (val b))
def growB (m:Nat):Bool:=Region.noSelect ops&&(List.range ops.size).all fun i=>match ops[i]? with
 | none=>true
 | some o=>(o.after.all fun e=>!Region.binds .any e||decide (e.on < i))&&(match o.dst with|some d=>decide (d < m)&&(List.range ops.size).all fun j=>decide (j=i)||!dstIs ops j d|none=>true) &&
   (o.looksAt ops).all fun x=>(List.range ops.size).all fun j=>!dstIs ops j x||waitsFor o j
end
def lexAct:List Oper->(Nat->Value)->Nat->Act->Act
 | [],_,_,a=>a
 | o::l,v,k,a=>lexAct l v (k+1) (a.put o.dst (v k))
theorem put_size (a:Act) (d:Option Tmp) (v:Value):(a.put d v).tmps.size=a.tmps.size:=by cases d<;>simp[Act.put]
theorem put_defers' (a:Act) (d:Option Tmp) (v:Value):(a.put d v).defers=a.defers:=by cases d<;>rfl
theorem put_at (a:Act) (d:Tmp) (v:Value) (h:d < a.tmps.size):(a.put (some d) v).tmps[d]?=some v:=by
 simp[Act.put,Array.getElem?_setIfInBounds_self_of_lt h]
theorem put_far (a:Act) (o:Option Tmp) (v:Value) (x:Tmp) (h:o≠some x):(a.put o v).tmps[x]?=a.tmps[x]?:=by
 cases o with
 | none=>rfl
 | some d =>
   have hne:d≠x:=fun e=>h (by rw[e])
   simp[Act.put,Array.getElem?_setIfInBounds_ne hne]
theorem lex_size:∀ (l:List Oper) (v:Nat->Value) (k:Nat) (a:Act),(lexAct l v k a).tmps.size=a.tmps.size∧(lexAct l v k a).defers=a.defers
 | [],_,_,_=>⟨rfl,rfl⟩
 | o::l,v,k,a=>by
   obtain⟨h1,h2⟩:=lex_size l v (k+1) (a.put o.dst (v k))
   exact⟨h1.trans (put_size _ _ _),h2.trans (put_defers' _ _ _)⟩
theorem lex_far:∀ (l:List Oper) (v:Nat->Value) (k:Nat) (a:Act) (x:Tmp),(∀ o∈l,o.dst≠some x)->(lexAct l v k a).tmps[x]?=a.tmps[x]?
 | [],_,_,_,_,_=>rfl
 | o::l,v,k,_a,x,h=>(lex_far l v (k+1) _ x fun o' ho=>h o' (List.mem_cons_of_mem _ ho)).trans (put_far _ _ _ _ (h o (List.mem_cons_self)))
theorem lex_at:∀ (l:List Oper) (v:Nat->Value) (k:Nat) (a:Act) (x:Tmp) (j:Nat) (o:Oper),l[j]?=some o->o.dst=some x->(∀ j' o',l[j']?=some o'->o'.dst=some x->j'=j)->x < a.tmps.size->(lexAct l v k a).tmps[x]?=some (v (k+j))
 | [],_,_,_,_,_,_,h,_,_,_=>by simp at h
 | o::l,v,k,a,x,0,o',h,hd,hu,hx=>by
   obtain rfl:o=o':=by simpa using h
   rw[lexAct,lex_far,hd,put_at _ _ _ hx]
   ·rfl
   ·intro o2 ho2 hd2
    obtain⟨j2,hj2,he⟩:=List.mem_iff_getElem.1 ho2
    have:=hu (j2+1) o2 (by simp[List.getElem?_eq_getElem hj2,he]) hd2
    omega
 | o::l,v,k,a,x,j+1,o',h,hd,hu,hx=>by
   rw[lexAct,lex_at l v (k+1) _ x j o' (by simpa using h) hd (fun j' o2 h2 hd2=>by
    have:=hu (j'+1) o2 (by simpa using h2) hd2
    omega) (by rw[put_size];exact hx)]
   rw[Nat.add_assoc,Nat.add_comm 1 j]
def SelAt:Held->Value->Fact->Prop
 | .one c,v,f=>v=c∧f=Fact.no
 | .fam _ _ val fact,v,f=>∃ b,v=val b∧f=fact b
section
variable {P:Program} {ops:Array Oper} {w0:World} {Q:Act->World->Prop}
theorem wpGrow_at:∀ (l:List Oper) (T:List Held) (k:Nat) (F:Nat->Fact) (a:Act) (v:Nat->Value) (G:Nat->Fact),(∀ j,F j=if j < k then G j else Fact.no)->(∀ j h,T[j]?=some h->SelAt h (v (k+j)) (G (k+j)))->wpGrow P ops w0 Q l T k F a ->
 (∀ j o,l[j]?=some o->∃ h,T[j]?=some h∧SpecAt P ops w0 (fun i=>if i < k+j then G i else Fact.no) o (lexAct (l.take j) v k a) h) ∧
 (∀ w,Ext w0 w->(∀ j,j < k+l.length->(G j).holds w)->Q (lexAct l v k a) w)
 | [],_,k,F,a,v,G,hF,_,h=>by
   unfold wpGrow at h
   refine⟨fun j o ho=>by simp at ho,fun w hw hG=>h w hw fun j=>?_⟩
   rw[hF]
   by_cases hj:j < k
   ·rw[if_pos hj];exact hG j (by simpa using hj)
   ·rw[if_neg hj];trivial
 | _::_,[],_,_,_,_,_,_,_,h=>by cases h
 | o::rest,hd::T,k,F,a,v,G,hF,hS,h=>by
   have hFe:F=fun i=>if i < k then G i else Fact.no:=funext hF
   have h0:=hS 0 hd rfl
   rw[Nat.add_zero] at h0
   have key:wpGrow P ops w0 Q rest T (k+1) (fun j=>if j < k+1 then G j else Fact.no) (a.put o.dst (v k))∧SpecAt P ops w0 F o a hd:=by
    cases hd with
    | one c =>
      obtain⟨e1,e2⟩:=h0
      obtain⟨h1,h2⟩:=h
      refine⟨?_,h1⟩
      have:(fun j=>if j < k+1 then G j else Fact.no)=F:=by
       funext j
       rw[hF]
       by_cases hj:j < k
       ·rw[if_pos hj,if_pos (by omega)]
       ·rw[if_neg hj]
        by_cases hj2:j < k+1
        ·rw[if_pos hj2,show j=k by omega,e2]
        ·rw[if_neg hj2]
      rw[this,e1];exact h2
    | fam β d val fact =>
      obtain⟨b,e1,e2⟩:=h0
      obtain⟨h1,h2⟩:=h
      refine⟨?_,h1⟩
      have:(fun j=>if j < k+1 then G j else Fact.no)=setF F k (fact b):=by
       funext j
       unfold setF
       rw[hF]
       by_cases hj:j < k
       ·rw[if_pos (show j < k+1 by omega),if_neg (show ¬ j=k by omega),if_pos hj]
       ·by_cases hj2:j=k
        ·rw[if_pos (show j < k+1 by omega),if_pos hj2,hj2,e2]
        ·rw[if_neg (show ¬ j < k+1 by omega),if_neg hj2,if_neg hj]
      rw[this,e1];exact h2 b
   obtain⟨hw,ho⟩:=key
   have ih:=wpGrow_at rest T (k+1) _ _ v G (fun _=>rfl) (fun j h hj=>by have:=hS (j+1) h (by simpa using hj);rwa [show k+1+j=k+(j+1) by omega]) hw
   refine⟨fun j o' hj=>?_,fun w hx hG=>ih.2 w hx fun j hj=>hG j (by rw[List.length_cons];omega)⟩
   cases j with
   | zero =>
     obtain rfl:o=o':=by simpa using hj
     refine⟨hd,rfl,?_⟩
     rw[Nat.add_zero,<-hFe]
     exact ho
   | succ j =>
     obtain⟨h',e1,e2⟩:=ih.1 j o' (by simpa using hj)
     refine⟨h',by simpa using e1,?_⟩
     rw[show k+(j+1)=k+1+j by omega]
     exact e2
theorem growB_spec {m:Nat} (h:growB ops m=true):Region.noSelect ops=true∧∀ (i:Nat) (o:Oper),ops[i]?=some o ->
 (∀ e∈o.after,Region.binds .any e=true->e.on < i)∧(∀ d,o.dst=some d->d < m∧∀ j o',ops[j]?=some o'->o'.dst=some d->j=i)∧(∀ x∈o.looksAt ops,∀ j o',ops[j]?=some o'->o'.dst=some x->waitsFor o j=true):=by
 unfold growB at h
 rw[Bool.and_eq_true,List.all_eq_true] at h
 refine⟨h.1,fun i o ho=>?_⟩
 have hi:i < ops.size:=(Array.getElem?_eq_some_iff.1 ho).1
 have h2:=h.2 i (List.mem_range.2 hi)
 rw[ho] at h2
 simp only[Bool.and_eq_true] at h2
 obtain⟨⟨h3,h4⟩,h5⟩:=h2
 have hdst:∀ j o',ops[j]?=some o'->∀ d,o'.dst=some d->dstIs ops j d=true:=fun j o' hj d hd=>by
  unfold dstIs;rw[hj];simp[hd]
 refine⟨fun e he hb=>?_,fun d hd=>?_,fun x hx j o' hj hd=>?_⟩
 ·have:=Array.all_eq_true_iff_forall_mem.1 h3 e he
  simpa [hb] using this
 ·rw[hd] at h4
  simp only[Bool.and_eq_true,decide_eq_true_eq,List.all_eq_true] at h4
  refine⟨h4.1,fun j o' hj hd'=>?_⟩
  have:=h4.2 j (List.mem_range.2 (Array.getElem?_eq_some_iff.1 hj).1)
  rw[hdst j o' hj d hd'] at this
  simpa using this
 ·rw[List.all_eq_true] at h5
  have:=h5 x hx
  rw[List.all_eq_true] at this
  have:=this j (List.mem_range.2 (Array.getElem?_eq_some_iff.1 hj).1)
  rw[hdst j o' hj x hd] at this
  simpa using this
structure Agree (ops:Array Oper) (v:Nat->Value) (listed:Array Bool) (a0 a:Act):Prop where
 size:a.tmps.size=a0.tmps.size
 defs:a.defers=a0.defers
 has:∀ j o x,ops[j]?=some o->o.dst=some x->listed.getD j false=true->a.tmps[x]?=some (v j)
 not:∀ x,(∀ j o,ops[j]?=some o->o.dst=some x->listed.getD j false=false)->a.tmps[x]?=a0.tmps[x]?
theorem eval_of {a a':Act} {t:Tmp} (h:a.tmps[t]?=a'.tmps[t]?):a.eval (.tmp t)=a'.eval (.tmp t):=by
 unfold Act.eval
 simp[Array.getD_eq_getD_getElem?,h]
theorem take_at {α:Type} {l:List α} {i j:Nat} {x:α}:(l.take i)[j]?=some x↔j < i∧l[j]?=some x:=by
 rw[List.getElem?_take]
 split
 ·simp[*]
 ·simp;intro h;omega
section
variable {m:Nat} {v:Nat->Value} {listed:Array Bool} {a0 a:Act}
theorem look_same (hB:growB ops a0.tmps.size=true) (hA:Agree ops v listed a0 a) {i:Nat} {o:Oper} (ho:ops[i]?=some o) (hall:∀ e∈o.after,Region.binds .any e=true->listed.getD e.on false=true) :
 ∀ x∈o.looksAt ops,a.tmps[x]?=(lexAct (ops.toList.take i) v 0 a0).tmps[x]?:=fun x hx=>by
 obtain⟨_,hs⟩:=growB_spec hB
 obtain⟨h1,_,h3⟩:=hs i o ho
 by_cases hw:∃ (j:Nat) (o':Oper),ops[j]?=some o'∧o'.dst=some x
 ·obtain⟨j,o',hj,hd⟩:=hw
  have hwt:=h3 x hx j o' hj hd
  unfold waitsFor at hwt
  obtain⟨e,he,hb⟩:=List.any_eq_true.1 hwt
  have he:=Array.mem_toList_iff.1 he
  simp only[Bool.and_eq_true,beq_iff_eq] at hb
  obtain⟨hb1,rfl⟩:=hb
  rw[hA.has _ o' x hj hd (hall e he hb1)]
  obtain⟨g1,g2⟩:=(hs _ o' hj).2.1 x hd
  rw[lex_at _ v 0 a0 x e.on o' (take_at.2 ⟨h1 e he hb1,by rw[Array.getElem?_toList];exact hj⟩) hd (fun j' o2 h2 hd2=>g2 j' o2 (by have:=(take_at.1 h2).2;rwa [Array.getElem?_toList] at this) hd2) g1]
  rw[Nat.zero_add]
 ·have hno:∀ (j:Nat) (o':Oper),ops[j]?=some o'->o'.dst≠some x:=fun j o' hj hd=>hw ⟨j,o',hj,hd⟩
  rw[hA.not x (fun j o' hj hd=>absurd hd (hno j o' hj)),lex_far]
  intro o2 ho2
  obtain⟨j2,hj2,he⟩:=List.mem_iff_getElem.1 (List.mem_of_mem_take ho2)
  exact hno j2 o2 (by rw[<-Array.getElem?_toList,List.getElem?_eq_getElem hj2,he])
theorem exec_same (hB:growB ops a0.tmps.size=true) (hA:Agree ops v listed a0 a) {i:Nat} {o:Oper} (ho:ops[i]?=some o) (hall:∀ e∈o.after,Region.binds .any e=true->listed.getD e.on false=true) :
 execOp a.eval o=execOp (lexAct (ops.toList.take i) v 0 a0).eval o∧Region.wanted o (yielded ops a.tmps)=Region.wanted o (yielded ops (lexAct (ops.toList.take i) v 0 a0).tmps):=by
 have hl:=look_same hB hA ho hall
 refine⟨execOp_congr o (fun cs b=>Region.noSelect_spec (growB_spec hB).1 i o cs b ho) fun x hx=>?_,?_⟩
 ·cases x with
  | tmp t=>exact eval_of (hl t (List.mem_append_left _ (List.mem_filterMap.2 ⟨.tmp t,by simpa using hx,rfl⟩)))
  | _=>rfl
 ·unfold Region.wanted
  cases hg:o.guard with
  | none=>rfl
  | some gw =>
    obtain⟨g,want⟩:=gw
    have hy:yielded ops a.tmps g=yielded ops (lexAct (ops.toList.take i) v 0 a0).tmps g:=by
     unfold yielded
     cases ht:(ops[g]?).bind (·.dst) with
     | none=>rfl
     | some t =>
       have:=hl t (by simp[Oper.looksAt,hg,ht])
       simp only[Option.bind_some,this]
    simp only[hy]
theorem Agree.next (hB:growB ops a0.tmps.size=true) (hsz:listed.size=ops.size) (hA:Agree ops v listed a0 a) {i:Nat} {o:Oper} (ho:ops[i]?=some o) {v':Nat->Value} (hv:∀ j,j≠i->v' j=v j):Agree ops v' (listed.setIfInBounds i true) a0 (a.put o.dst (v' i)):=by
 obtain⟨_,hs⟩:=growB_spec hB
 have hi:i < ops.size:=(Array.getElem?_eq_some_iff.1 ho).1
 refine⟨(put_size _ _ _).trans hA.size,(put_defers' _ _ _).trans hA.defs,fun j o' x hj hd hl=>?_,fun x hx=>?_⟩
 ·by_cases hji:j=i
  ·subst hji
   obtain rfl:o'=o:=Option.some.inj (hj.symm.trans ho)
   rw[hd,put_at _ _ _ (by rw[hA.size];exact ((hs _ _ hj).2.1 x hd).1)]
  ·rw[put_far _ _ _ _ (fun e=>hji (((hs _ _ ho).2.1 x e).2 j o' hj hd)),hv j hji]
   refine hA.has j o' x hj hd ?_
   have:i≠j:=fun e=>hji e.symm
   simpa [Array.getD_eq_getD_getElem?,Array.getElem?_setIfInBounds_ne this] using hl
 ·rw[put_far,hA.not x fun j o' hj hd=>?_]
  ·have:=hx j o' hj hd
   by_cases hji:j=i
   ·subst hji
    have hlt:j < listed.size:=by rw[hsz];exact hi
    simp[Array.getD_eq_getD_getElem?,Array.getElem?_setIfInBounds_self_of_lt hlt] at this
   ·have hne:i≠j:=fun e=>hji e.symm
    simpa [Array.getD_eq_getD_getElem?,Array.getElem?_setIfInBounds_ne hne] using this
  ·intro e
   have:=hx i o ho e
   have hlt:i < listed.size:=by rw[hsz];exact hi
   simp[Array.getD_eq_getD_getElem?,Array.getElem?_setIfInBounds_self_of_lt hlt] at this
theorem all_listed (hB:growB ops m=true) (hsz:listed.size=ops.size) (hr:Region.ready .any ops listed=[]):∀ i,i < ops.size->listed.getD i false=true:=by
 intro i
 induction i using Nat.strongRecOn with
 | ind i ih =>
   intro hi
   obtain⟨_,hs⟩:=growB_spec hB
   cases hl:listed.getD i false with
   | true=>rfl
   | false =>
     exfalso
     have hlt:i < listed.size:=by rw[hsz];exact hi
     have:i∈Region.ready .any ops listed:=mem_ready.2 ⟨by
      have e:listed.getD i true=listed.getD i false:=by simp[Array.getD,hlt]
      rw[e,hl],ops[i],Array.getElem?_eq_getElem hi,fun e he hb=>by
      have h1:=(hs i ops[i] (Array.getElem?_eq_getElem hi)).1 e he hb
      exact ih e.on h1 (Nat.lt_trans h1 hi)⟩
     rw[hr] at this
     cases this
end
theorem wp_region_grow {id:Nat} {Q:Exit->Act->World->Prop} {a:Act} {w:World} {l:List Oper} (hm:P.follows .mixedOrders=true) (hB:growB l.toArray a.tmps.size=true)
 (h:∃ T,wpGrow P l.toArray w (fun a' w'=>Q .normal a' w') l T 0 (fun _=>Fact.no) a):(Code.region id l.toArray true).wp P Q a w:=by
 obtain⟨T,h⟩:=h
 have hops:l.toArray.toList=l:=List.toList_toArray
 generalize hO:l.toArray=ops at *
 subst hops
 obtain⟨_,hs⟩:=growB_spec hB
 -- the table reaches as far as the operations
 have hlen:∀ (l:List Oper) (T:List Held) (k:Nat) (F:Nat->Fact) (a:Act),wpGrow P ops w (fun a' w'=>Q .normal a' w') l T k F a->l.length<=T.length:=by
  intro l
  induction l with
  | nil=>intro _ _ _ _ _;exact Nat.zero_le _
  | cons o l ih =>
    intro T k F a h
    cases T with
    | nil=>cases h
    | cons hd T =>
      cases hd with
      | one c=>exact Nat.succ_le_succ (ih _ _ _ _ h.2)
      | fam β d val fact=>exact Nat.succ_le_succ (ih _ _ _ _ (h.2 d))
 have hn:=hlen _ _ _ _ _ h
 rw[Array.length_toList] at hn
 let J:Array Bool->Act->World->Prop:=fun listed a' w'=>listed.size=ops.size∧Ext w w'∧∃ (v:Nat->Value) (G:Nat->Fact),(∀ j h,T[j]?=some h->SelAt h (v j) (G j))∧(∀ j,listed.getD j false=true->(G j).holds w')∧Agree ops v listed a a'
 refine wp_region_inv hm J ?_ ?_ ?_
 ·refine⟨by simp,(Ext.refl w).drew,fun j=>match T[j]? with|some (.one c)=>c|some (.fam _ d val _)=>val d|none=>undef,fun j=>match T[j]? with|some (.fam _ d _ fact)=>fact d|_=>Fact.no,fun j h hj=>?_,fun j hj=>?_,rfl,rfl,fun j o x hj hd hl=>?_,fun x _=>rfl⟩
  ·simp only[hj]
   cases h with
   | one c=>exact⟨rfl,rfl⟩
   | fam β d val fact=>exact⟨d,rfl,rfl⟩
  ·exfalso
   rcases Nat.lt_or_ge j ops.size with h1|h1<;>simp[Array.getD,h1,Nat.not_lt.2] at hj
  ·exfalso
   rcases Nat.lt_or_ge j ops.size with h1|h1<;>simp[Array.getD,h1,Nat.not_lt.2] at hl
 ·intro i o listed a' w' hsz ho hun hall hJ K hK
  obtain⟨_,hx,v,G,hS,hG,hA⟩:=hJ
  obtain⟨ha,hq⟩:=exec_same hB hA ho hall
  obtain⟨hd,hT,hob⟩:=(wpGrow_at ops.toList T 0 _ a v G (fun j=>by simp) (fun j h hj=>by rw[Nat.zero_add];exact hS j h hj) h).1 i o (by rw[Array.getElem?_toList];exact ho)
  have hcls:Cls w o (fun i'=>if i' < 0+i then G i' else Fact.no) w':=⟨hx,fun j hj=>by
   unfold waitsFor at hj
   obtain⟨e,he,hb⟩:=List.any_eq_true.1 hj
   have he:=Array.mem_toList_iff.1 he
   simp only[Bool.and_eq_true,beq_iff_eq] at hb
   obtain⟨hb1,rfl⟩:=hb
   have:=(hs i o ho).1 e he hb1
   simp only[Nat.zero_add,this,if_true]
   exact hG _ (hall e he hb1)⟩
  have hstay:∀ j,listed.getD j false=true->j≠i:=fun j hj e=>by
   subst e
   have hlt:=getD_pos hun
   have:listed.getD j true=listed.getD j false:=by simp[Array.getD,hlt]
   rw[this,hj] at hun
   cases hun
  have hset:∀ j,(listed.setIfInBounds i true).getD j false=true->j≠i->listed.getD j false=true:=fun j hj hne=>by
   have hne':i≠j:=fun e=>hne e.symm
   simpa [Array.getD_eq_getD_getElem?,Array.getElem?_setIfInBounds_ne hne'] using hj
  have hszs:(listed.setIfInBounds i true).size=ops.size:=by rw[Array.size_setIfInBounds];exact hsz
  cases hd with
  | one c =>
    have hsel:=hS i _ hT
    have hJ':∀ w'',Ext w' w''->J (listed.setIfInBounds i true) (a'.put o.dst c) w'':=fun w'' hw=>by
     refine⟨hszs,hx.trans hw,v,G,hS,fun j hj=>?_,?_⟩
     ·by_cases hji:j=i
      ·subst hji;rw[hsel.2];trivial
      ·exact (G j).stays _ _ (hG j (hset j hj hji)) hw
     ·have:=hA.next hB hsz ho (v':=v) (fun _ _=>rfl)
      rwa [hsel.1] at this
    have hone:OneAt P ops w (fun i'=>if i' < 0+i then G i' else Fact.no) o (lexAct (ops.toList.take i) v 0 a) c:=hob
    unfold OneAt at hone
    rw[<-hq] at hone
    split
    ·rename_i hw
     rw[if_pos hw] at hone
     have h3:=hone w' hcls
     unfold Oper.quietAt at h3
     rw[<-ha] at h3
     unfold Oper.wp
     generalize (execOp a'.eval o).run P w'=r at *
     cases r with
     | ok n w2 =>
       cases n<;>simp only[Oper.quietUpon] at h3<;>simp only[Oper.upon]
       case value u =>
        obtain⟨e1,e2⟩:=h3
        rw[e1,e2]
        exact hK _ _ (hJ' _ (Ext.refl _))
       case skip =>
        obtain⟨e1,e2⟩:=h3
        rw[e1,<-e2]
        exact hK _ _ (hJ' _ (Ext.refl _))
       case enter f args =>
        obtain⟨e1,hc⟩:=h3
        rw[e1]
        exact hc.mono fun e w'' ⟨he,hw''⟩=>by subst he;exact hK _ _ (hJ' _ hw'')
     | halt x w2=>simp only[Oper.quietUpon] at h3
    ·rename_i hw
     rw[if_neg hw] at hone
     rw[<-hone]
     exact hK _ _ (hJ' _ (Ext.refl _))
  | fam β d val fact =>
    have hfam:FamAt P ops w (fun i'=>if i' < 0+i then G i' else Fact.no) o (lexAct (ops.toList.take i) v 0 a) val fact:=hob
    have hJ':∀ b w'',Ext w' w''->(fact b).holds w''->J (listed.setIfInBounds i true) (a'.put o.dst (val b)) w'':=fun b w'' hw hf=>by
     refine⟨hszs,hx.trans hw,fun j=>if j=i then val b else v j,fun j=>if j=i then fact b else G j,fun j h hj=>?_,fun j hj=>?_,?_⟩
     ·by_cases hji:j=i
      ·subst hji
       obtain rfl:=Option.some.inj (hT.symm.trans hj)
       simp only[if_true]
       exact⟨b,rfl,rfl⟩
      ·simp only[hji,if_false];exact hS j h hj
     ·by_cases hji:j=i
      ·subst hji;simp only[if_true];exact hf
      ·simp only[hji,if_false];exact (G j).stays _ _ (hG j (hset j hj hji)) hw
     ·have:=hA.next hB hsz ho (v':=fun j=>if j=i then val b else v j) (fun j hne=>by simp only[hne,if_false])
      simpa using this
    obtain⟨hw1,hw2⟩:=hfam
    rw[if_pos (hq.trans hw1)]
    have h3:=hw2 w' hcls
    rw[<-ha] at h3
    unfold Oper.wp
    generalize (execOp a'.eval o).run P w'=r at *
    cases r with
    | ok n w2 =>
      cases n<;>simp only[growUpon] at h3<;>simp only[Oper.upon]
      case value u =>
       obtain⟨e1,b,e2,e3⟩:=h3
       rw[e2]
       exact hK _ _ (hJ' b _ e1 e3)
      case enter f args =>
       obtain⟨e1,hc⟩:=h3
       rw[e1]
       exact hc.mono fun e w'' ⟨hw'',b,he,hf⟩=>by subst he;exact hK _ _ (hJ' b _ hw'' hf)
    | halt x w2=>simp only[growUpon] at h3
 ·intro listed a' w' hsz hr hJ
  obtain⟨_,hx,v,G,hS,hG,hA⟩:=hJ
  have hall:=all_listed hB hsz hr
  have hfin:=(wpGrow_at ops.toList T 0 _ a v G (fun j=>by simp) (fun j h hj=>by rw[Nat.zero_add];exact hS j h hj) h).2 w' hx (fun j hj=>hG j (hall j (by rw[Nat.zero_add,Array.length_toList] at hj;exact hj)))
  have he:a'=lexAct ops.toList v 0 a:=by
   obtain⟨z1,z2⟩:=lex_size ops.toList v 0 a
   have ht:a'.tmps=(lexAct ops.toList v 0 a).tmps:=by
    apply Array.ext_getElem?
    intro x
    by_cases hw:∃ (j:Nat) (o':Oper),ops[j]?=some o'∧o'.dst=some x
    ·obtain⟨j,o',hj,hd⟩:=hw
     obtain⟨g1,g2⟩:=(hs _ o' hj).2.1 x hd
     rw[hA.has j o' x hj hd (hall j (Array.getElem?_eq_some_iff.1 hj).1),lex_at _ v 0 a x j o' (by rw[Array.getElem?_toList];exact hj) hd (fun j' o2 h2 hd2=>g2 j' o2 (by rwa [Array.getElem?_toList] at h2) hd2) g1,Nat.zero_add]
    ·have hno:∀ (j:Nat) (o':Oper),ops[j]?=some o'->o'.dst≠some x:=fun j o' hj hd=>hw ⟨j,o',hj,hd⟩
     rw[hA.not x (fun j o' hj hd=>absurd hd (hno j o' hj)),lex_far]
     intro o2 ho2
     obtain⟨j2,hj2,he⟩:=List.mem_iff_getElem.1 ho2
     exact hno j2 o2 (by rw[<-Array.getElem?_toList,List.getElem?_eq_getElem hj2,he])
   cases a';cases hL:lexAct ops.toList v 0 a
   rw[hL] at ht z2
   have hd:=hA.defs
   simp only at ht z2 hd
   simp[ht,hd,z2]
  rw[he]
  exact hfin
variable {F:Nat->Fact} {o:Oper} {rest:List Oper} {T:List Held} {k:Nat} {a:Act}
theorem grow_nil (h:∀ w,Ext w0 w->(∀ j,(F j).holds w)->Q a w):wpGrow P ops w0 Q [] [] k F a:=h
theorem grow_skip (hw:Region.wanted o (yielded ops a.tmps)=false) (h:wpGrow P ops w0 Q rest T (k+1) F (a.put o.dst undef)):wpGrow P ops w0 Q (o::rest) (.one undef::T) k F a :=
 ⟨by unfold OneAt;rw[if_neg (by rw[hw];exact Bool.false_ne_true)],h⟩
theorem grow_one {v:Value} (hw:Region.wanted o (yielded ops a.tmps)=true) (hv:∀ w,Cls w0 o F w->o.quietAt P a (Ext w) w v) (h:wpGrow P ops w0 Q rest T (k+1) F (a.put o.dst v)):wpGrow P ops w0 Q (o::rest) (.one v::T) k F a :=
 ⟨by unfold OneAt;rw[if_pos hw];exact hv,h⟩
theorem grow_fam {β:Type} {d:β} {val:β->Value} {fact:β->Fact} (hw:Region.wanted o (yielded ops a.tmps)=true) (hv:∀ w,Cls w0 o F w->growUpon P o w val fact ((execOp a.eval o).run P w)) (h:∀ b,wpGrow P ops w0 Q rest T (k+1) (setF F k (fact b)) (a.put o.dst (val b))) :
 wpGrow P ops w0 Q (o::rest) (.fam β d val fact::T) k F a:=⟨⟨hw,hv⟩,h⟩
def blkF (t:TypeId) (cs:Array Value) (b:Nat):Fact:=⟨fun w=>Blk w b t cs,fun _ _ h hx=>h.ext hx⟩
theorem grow_build {n c:Nat} {t:TypeId} {cs:Array Value} (hw:Region.wanted o (yielded ops a.tmps)=true) (hv:∀ w,(execOp a.eval o).run P w=.ok (.value (.slice (some ⟨w.heap.size,0,none⟩) n c)) (w.alloc (.cells cs t)))
 (h:∀ b,wpGrow P ops w0 Q rest T (k+1) (setF F k (blkF t cs b)) (a.put o.dst (.slice (some ⟨b,0,none⟩) n c))):wpGrow P ops w0 Q (o::rest) (.fam Nat 0 (fun b=>.slice (some ⟨b,0,none⟩) n c) (blkF t cs)::T) k F a :=
 grow_fam hw (fun w _=>by rw[hv w];exact⟨(Ext.refl w).alloc _,w.heap.size,rfl,Blk.new w t cs⟩) h
theorem grow_alloc {t:TypeId} {cs:Array Value} (hw:Region.wanted o (yielded ops a.tmps)=true) (hv:∀ w,(execOp a.eval o).run P w=.ok (.value (.pointer (some ⟨w.heap.size,0,none⟩))) (w.alloc (.cells cs t)))
 (h:∀ b,wpGrow P ops w0 Q rest T (k+1) (setF F k (blkF t cs b)) (a.put o.dst (.pointer (some ⟨b,0,none⟩)))):wpGrow P ops w0 Q (o::rest) (.fam Nat 0 (fun b=>.pointer (some ⟨b,0,none⟩)) (blkF t cs)::T) k F a :=
 grow_fam hw (fun w _=>by rw[hv w];exact⟨(Ext.refl w).alloc _,w.heap.size,rfl,Blk.new w t cs⟩) h
theorem Cls.blk {w:World} (h:Cls w0 o F w) (j:Nat) (hw:waitsFor o j=true) {b:Nat} {t:TypeId} {cs:Array Value} (hF:F j=blkF t cs b):Blk w b t cs:=by
 have:=h.facts j hw
 rw[hF] at this
 exact this
theorem callsExt {P:Program} {f:FuncId} {xs:Array Value} {w:World} {x:Ending} (h:Calls P f xs w fun e w'=>e=x∧w=w'):Calls P f xs w fun e w'=>e=x∧Ext w w' :=
 h.mono fun _e _w' hh=>⟨hh.1,hh.2 ▸ Ext.refl _⟩
end
end
section
open Go.RowKit
theorem allS_succ (p:Str->Bool) (xs:List ByteArray) (k:Nat) (h:k < xs.length) (h1:(xs.take k).all (fun x=>p (bs x))=true) (h2:p (bs xs[k])=true):(xs.take (k+1)).all (fun x=>p (bs x))=true:=by
 rw[List.take_succ_eq_append_getElem h,List.all_append,h1]
 simp[h2]
theorem allS_false (p:Str->Bool) (xs:List ByteArray) (k:Nat) (h:k < xs.length) (h2:p (bs xs[k])=false):(xs.map bs).all p=false:=by
 rw[List.all_eq_false]
 exact⟨bs xs[k],List.mem_map.2 ⟨xs[k],List.getElem_mem h,rfl⟩,by simp[h2]⟩
theorem allS_true (p:Str->Bool) (xs:List ByteArray) (h1:(xs.take xs.length).all (fun x=>p (bs x))=true):(xs.map bs).all p=true:=by
 rw[List.take_length] at h1
 rw[List.all_map];exact h1
theorem splitC_le (c:UInt8):∀ (l p:Str),p∈splitC c l->p.length<=l.length
 | [],p,h=>by simp[splitC] at h;simp[h]
 | x::r,p,h=>by
   unfold splitC at h
   by_cases hx:x=c
   ·rw[if_pos hx] at h
    rcases List.mem_cons.1 h with e|e
    ·simp[e]
    ·have:=splitC_le c r p e;simp;omega
   ·rw[if_neg hx] at h
    cases hs:splitC c r with
    | nil=>exact absurd hs (splitC_ne c r)
    | cons q t =>
      rw[hs] at h
      rcases List.mem_cons.1 h with e|e
      ·have:=splitC_le c r q (by rw[hs];simp)
       rw[e];simp;omega
      ·have:=splitC_le c r p (by rw[hs];simp[e]);simp;omega
theorem piece_le {c:UInt8} {s:ByteArray} {xs:List ByteArray} (h:xs.map bs=splitC c (bs s)) {k:Nat} (hk:k < xs.length):xs[k].size<=s.size:=by
 rw[<-bs_length,<-bs_length]
 exact splitC_le c _ _ (by rw[<-h];exact List.mem_map.2 ⟨_,List.getElem_mem hk,rfl⟩)
theorem splitC_length_le (c:UInt8):∀ l:Str,(splitC c l).length<=l.length+1
 | []=>by simp[splitC]
 | x::r=>by
   have:=splitC_length_le c r
   unfold splitC
   split
   ·simp;omega
   ·split<;>simp_all;omega
theorem pieces_le {c:UInt8} {s:ByteArray} {xs:List ByteArray} (h:xs.map bs=splitC c (bs s)):xs.length<=s.size+1:=by
 have h1:=splitC_length_le c (bs s)
 rw[<-h,List.length_map,bs_length] at h1
 exact h1
def pathL (l:Str):Bool:=(splitC 47 l).all partL&&decide (l.length<=200)
set_option maxHeartbeats 400000 in
theorem IsPath_any (s:ByteArray) (w:World) (hg:Good w) (hs:s.size<=2097152) :
 Calls Tryz.prog 20 #[.string s] w fun e w'=>e=.returned (.bool (pathL (bs s)))∧Ext w w':=by
 go_enter Tryz.func20,Tryz.ntmps20
 go_wp2_with fail
 refine (split_any 47 s _ hg hs).mono ?_
 rintro e w1 ⟨b,xs,rfl,hb0,hst,hxs,hx⟩
 have HXS:=Hy hxs
 have hcell:=hst.cell
 have HC:=Hy hcell
 clear hcell
 have hlen:=pieces_le hxs
 clear hxs
 go_wp2
 go_loop [8] (fun i=>∃ k:Nat,k<=xs.length∧i=.int .i64 k∧(xs.take k).all (fun x=>partL (bs x))=true) (fun i=>xs.length - (intOf i).toNat)
 case atStart=>exact⟨0,Nat.zero_le _,rfl,by simp⟩
 case round =>
  obtain⟨k,hk,rfl,hall⟩:=hrel
  have HALL:=Hy hall
  clear hall
  by_cases hlt:k < xs.length
  ·have hk1:=HC.out k hlt
   have hsz:=piece_le HXS.out hlt
   go_wp2_with fail
   refine (isPart_any xs[k] _ (by omega)).mono ?_
   rintro e w' ⟨rfl,rfl⟩
   cases hp:partL (bs xs[k])
   ·go_wp2
    go_ret
    refine⟨ret_bool ?_,hx⟩
    unfold pathL
    rw[<-HXS.out,allS_false partL xs k hlt hp]
    rfl
   ·go_wp2
    go_round
    case rel=>exact⟨k+1,by omega,by go_num,allS_succ _ _ _ hlt HALL.out hp⟩
    case measure=>simp[intOf];omega
  ·obtain rfl:k=xs.length:=by omega
   go_wp2
   go_ret
   refine⟨ret_bool ?_,hx⟩
   unfold pathL
   rw[<-HXS.out,allS_true partL xs HALL.out,bs_length]
   simp
   omega
def earlyWordL (l:Str):Bool:=eachL wordB l 10&&!(numeralL l&&(l.headD 0==48)&&(l != [48]))
def earlyL (l:Str):Bool:=(splitC 46 l).all earlyWordL&&decide (l.length<=40)
theorem cast_beq (a:UInt8) (n:Nat) (h:n < 256):(((a.toNat:Nat):Int)==(n:Int))=(a==UInt8.ofNat n):=by
 rw[Bool.eq_iff_iff,beq_iff_eq,beq_iff_eq]
 constructor
 ·intro e
  apply UInt8.toNat_inj.1
  rw[UInt8.toNat_ofNat']
  omega
 ·rintro rfl
  rw[UInt8.toNat_ofNat']
  omega
theorem ew_bad {x:ByteArray} {h0:0 < x.size} (hh:(bs x).headD 0=x[0]) (hn:numeralL (bs x)=true) (h1:(x[0].toNat:Int)=48) (h2:(!x.toList==[48])=true):earlyWordL (bs x)=false:=by
 have h3:x[0]=48:=UInt8.toNat_inj.1 (by show x[0].toNat=48;omega)
 rw[ByteArray.toList_eq] at h2
 have h4:(bs x != [48])=true:=h2
 rw[earlyWordL,hh,h3,hn,h4]
 simp
theorem ew_good1 {x:ByteArray} (hp:eachL wordB (bs x) 10=true) (h2:(!x.toList==[48])=false):earlyWordL (bs x)=true:=by
 rw[ByteArray.toList_eq] at h2
 have h4:(bs x != [48])=false:=h2
 rw[earlyWordL,hp,h4]
 simp
theorem ew_good2 {x:ByteArray} {h0:0 < x.size} (hp:eachL wordB (bs x) 10=true) (hh:(bs x).headD 0=x[0]) (h1:¬ (x[0].toNat:Int)=48):earlyWordL (bs x)=true:=by
 have h3:(x[0]==48)=false:=by
  rw[beq_eq_false_iff_ne]
  intro e
  rw[e] at h1
  exact h1 rfl
 rw[earlyWordL,hp,hh,h3]
 simp
set_option maxHeartbeats 1000000 in
theorem isEarly_any (s:ByteArray) (w:World) (hg:Good w) (hs:s.size<=2097152) :
 Calls Tryz.prog 75 #[.string s] w fun e w'=>e=.returned (.bool (earlyL (bs s)))∧Ext w w':=by
 go_enter Tryz.func75,Tryz.ntmps75
 go_wp2_with fail
 refine (split_any 46 s _ hg hs).mono ?_
 rintro e w1 ⟨b,xs,rfl,hb0,hst,hxs,hx⟩
 have HXS:=Hy hxs
 have hcell:=hst.cell
 have HC:=Hy hcell
 clear hcell
 have hlen:=pieces_le hxs
 clear hxs
 go_wp2
 go_loop [8] (fun i=>∃ k:Nat,k<=xs.length∧i=.int .i64 k∧(xs.take k).all (fun x=>earlyWordL (bs x))=true) (fun i=>xs.length - (intOf i).toNat)
 case atStart=>exact⟨0,Nat.zero_le _,rfl,by simp⟩
 case round =>
  obtain⟨k,hk,rfl,hall⟩:=hrel
  have HALL:=Hy hall
  clear hall
  by_cases hlt:k < xs.length
  ·have hk1:=HC.out k hlt
   have hsz:=piece_le HXS.out hlt
   have hne:earlyWordL (bs xs[k])=false->(xs.map bs).all earlyWordL=false:=allS_false earlyWordL xs k hlt
   have HNE:=Hy hne
   clear hne
   have hsu:=allS_succ earlyWordL xs k hlt HALL.out
   have HSU:=Hy hsu
   clear hsu
   generalize xs[k]=x at *
   go_wp2_with fail
   refine (each_list _ _ x 10 _ (by omega) isEarly1_pred).mono ?_
   rintro e w' ⟨rfl,rfl⟩
   cases hp:eachL wordB (bs x) 10
   ·go_wp2
    go_ret
    refine⟨ret_bool ?_,hx⟩
    unfold earlyL
    rw[<-HXS.out,HNE.out (by rw[earlyWordL,hp];rfl)]
    rfl
   ·have h0:=eachL_pos hp
    have hh:=head_bs x h0
    have HH:=Hy hh
    clear hh
    go_wp2_with fail
    refine (isNumeral_any x _ (by omega)).mono ?_
    rintro e w' ⟨rfl,rfl⟩
    cases hn:numeralL (bs x)
    ·go_wp2
     go_round
     case rel=>exact⟨k+1,by omega,by go_num,HSU.out (by rw[earlyWordL,hp,hn];rfl)⟩
     case measure=>simp[intOf];omega
    ·go_wp2
     ·go_ret
      refine⟨ret_bool ?_,hx⟩
      unfold earlyL
      rw[<-HXS.out,HNE.out (ew_bad HH.out hn (by assumption) (by assumption))]
      rfl
     ·go_round
      case rel=>exact⟨k+1,by omega,by go_num,HSU.out (ew_good1 hp (by assumption))⟩
      case measure=>simp[intOf];omega
     ·go_round
      case rel=>exact⟨k+1,by omega,by go_num,HSU.out (ew_good2 hp HH.out (by assumption))⟩
      case measure=>simp[intOf];omega
  ·obtain rfl:k=xs.length:=by omega
   go_wp2
   go_ret
   refine⟨ret_bool ?_,hx⟩
   unfold earlyL
   rw[<-HXS.out,allS_true earlyWordL xs HALL.out,bs_length]
   simp
   omega
end
section
open Go.RowKit
def inNum (n:Int):Bool:=decide (0<=n∧n<=999999)
def textL (ma mi pa:Int) (e:Str):Str:=Lib.itoa ma++[46]++Lib.itoa mi++[46]++Lib.itoa pa++(if e=[] then [] else 45::e)
set_option maxHeartbeats 1000000 in
theorem text_any (ma mi pa:Int) (ea:ByteArray) (w:World) (hg:GoodN w) (hs:ea.size<=2097152) (h1:0<=ma) (h2:ma<=999999) (h3:0<=mi) (h4:mi<=999999) (h5:0<=pa) (h6:pa<=999999) :
 Calls Tryz.prog 72 #[.agg #[.int .i64 ma,.int .i64 mi,.int .i64 pa,.string ea]] w fun e w'=>e=.returned (S (textL ma mi pa (bs ea)))∧Ext w w':=by
 have la:=Lib.itoa_length_le ma (by omega) (by omega)
 have li:=Lib.itoa_length_le mi (by omega) (by omega)
 have lp:=Lib.itoa_length_le pa (by omega) (by omega)
 go_enter Tryz.func72,Tryz.ntmps72
 go_wp2_with fail
 refine wp_region_ext (by kernel_rfl) (by kernel_rfl) ?_
 repeat (first|go_big_quiet_skip|(refine wpQuiet_step (fun K hK=>?_);go_simp;first|(refine hK _ ?_;clear hK K)|(apply Exists.intro;refine⟨fun wq hwq=>?_,hK _ ?_⟩;(obtain⟨hqc,hqf⟩:=hwq.cells;have hqs:=hwq.size;(try go_simp);first|rfl|((first|rw[if_neg (by omega)]|rw[if_pos (by omega)]);(try go_simp);rfl)|((go_at_call 82;refine (itoa_any _ _ (hg.ext (Ext.trans Ext.au hwq)) (by omega) (by omega)).mono (fun e w'' h=>⟨h.1,hwq.trans h.2⟩))));clear hK K)))
 refine wpQuiet_nil ?_
 intro wN hxN
 obtain⟨hcN,hfN⟩:=hxN.cells
 have hsN:=hxN.size
 rcases Nat.eq_zero_or_pos ea.size with h0|h0
 ·have he:=emp_of_size h0
  go_wp2
  go_ret
  refine⟨ret_strS ?_,Ext.trans Ext.au hxN⟩
  simp[textL,bs_nil h0]
 ·have he:=nemp_of_size h0
  have hi:=nemp_bool h0
  have he2:¬ bs ea=[]:=fun e=>by have:=bs_length ea;rw[e] at this;simp at this;omega
  go_wp2
  go_ret
  refine⟨ret_strS ?_,Ext.trans Ext.au hxN⟩
  simp[textL,he2]
end
section
open Go.RowKit
theorem outside_num (n:Int) (w:World) :
 Calls Tryz.prog 74 #[.int .i64 n,.int .i64 0,.int .i64 999999] w fun e w'=>e=.returned (.bool (!inNum n))∧w=w' :=
 (outside_any n 0 999999 w).mono fun _ _ ⟨h,k⟩=>⟨by
   rw[h]
   refine ret_bool ?_
   unfold inNum
   rw[<-decide_not,decide_eq_decide]
   omega,k⟩
def checkV (ma mi pa:Int) (e:Str):Int:=if (inNum ma&&inNum mi&&inNum pa)=false then 3 else if (!e.isEmpty&&!earlyL e)=true then 2 else 0
set_option maxHeartbeats 1000000 in
theorem Check_any (ma mi pa:Int) (ea:ByteArray) (w:World) (hg:Good w) (hs:ea.size<=2097152) :
 Calls Tryz.prog 17 #[.agg #[.int .i64 ma,.int .i64 mi,.int .i64 pa,.string ea]] w fun e w'=>e=.returned (.int .i64 (checkV ma mi pa (bs ea)))∧Ext w w':=by
 have i0:∀ w,(Instr.index 115 (.agg #[.int .i64 ma,.int .i64 mi,.int .i64 pa]) (.int .i64 0)).run Tryz.prog w=.ok (.int .i64 ma) w:=fun _=>by kernel_rfl
 have i1:∀ w,(Instr.index 115 (.agg #[.int .i64 ma,.int .i64 mi,.int .i64 pa]) (.int .i64 1)).run Tryz.prog w=.ok (.int .i64 mi) w:=fun _=>by kernel_rfl
 have i2:∀ w,(Instr.index 115 (.agg #[.int .i64 ma,.int .i64 mi,.int .i64 pa]) (.int .i64 2)).run Tryz.prog w=.ok (.int .i64 pa) w:=fun _=>by kernel_rfl
 go_enter Tryz.func17,Tryz.ntmps17
 go_wp2
 go_loop [12] (fun i=>(i=.int .i64 0∨(i=.int .i64 1∧inNum ma=true)∨(i=.int .i64 2∧inNum ma=true∧inNum mi=true)∨(i=.int .i64 3∧inNum ma=true∧inNum mi=true∧inNum pa=true))) (fun i=>3 - (intOf i).toNat)
 case atStart=>exact .inl rfl
 case round =>
  rcases hrel with rfl|⟨rfl,h1⟩|⟨rfl,h1,h2⟩|⟨rfl,h1,h2,h3⟩
  ·go_wp2_with fail
   refine (outside_num _ _).mono ?_
   rintro e w' ⟨rfl,rfl⟩
   cases h1:inNum ma
   ·go_wp2
    go_ret
    exact⟨ret_int (by rw[checkV,h1];rfl),Ext.au⟩
   ·go_wp2
    go_round
    case rel=>exact .inr (.inl ⟨rfl,h1⟩)
    case measure=>decide
  ·go_wp2_with fail
   refine (outside_num _ _).mono ?_
   rintro e w' ⟨rfl,rfl⟩
   cases h2:inNum mi
   ·go_wp2
    go_ret
    exact⟨ret_int (by rw[checkV,h1,h2];rfl),Ext.au⟩
   ·go_wp2
    go_round
    case rel=>exact .inr (.inr (.inl ⟨rfl,h1,h2⟩))
    case measure=>decide
  ·go_wp2_with fail
   refine (outside_num _ _).mono ?_
   rintro e w' ⟨rfl,rfl⟩
   cases h3:inNum pa
   ·go_wp2
    go_ret
    exact⟨ret_int (by rw[checkV,h1,h2,h3];rfl),Ext.au⟩
   ·go_wp2
    go_round
    case rel=>exact .inr (.inr (.inr ⟨rfl,h1,h2,h3⟩))
    case measure=>decide
  ·have H1:=Hy h1
   have H2:=Hy h2
   have H3:=Hy h3
   clear h1 h2 h3
   rcases Nat.eq_zero_or_pos ea.size with h0|h0
   ·have he:=emp_of_size h0
    have hi:ea.toList.isEmpty=true:=by rw[he];rfl
    go_wp2
    go_ret
    exact⟨ret_int (by rw[checkV,H1.out,H2.out,H3.out,bs_nil h0];rfl),Ext.au⟩
   ·have he:=nemp_of_size h0
    have hi:=nemp_bool h0
    have hb:(bs ea).isEmpty=false:=by rw[ByteArray.toList_eq] at hi;exact hi
    have HB:=Hy hb
    clear hb
    go_wp2_with fail
    refine (isEarly_any _ _ (hg.ext Ext.au) hs).mono ?_
    rintro e w1 ⟨rfl,hx1⟩
    cases h4:earlyL (bs ea)
    ·go_wp2
     go_ret
     exact⟨ret_int (by rw[checkV,H1.out,H2.out,H3.out,HB.out,h4];rfl),Ext.trans Ext.au hx1⟩
    ·go_wp2
     go_ret
     exact⟨ret_int (by rw[checkV,H1.out,H2.out,H3.out,HB.out,h4];rfl),Ext.trans Ext.au hx1⟩
theorem checkV_ok {ma mi pa:Int} {e:Str} (h:checkV ma mi pa e=0):(0<=ma∧ma<=999999)∧(0<=mi∧mi<=999999)∧(0<=pa∧pa<=999999)∧(e=[]∨earlyL e=true):=by
 unfold checkV at h
 split at h
 ·cases h
 ·rename_i h1
  split at h
  ·cases h
  ·rename_i h2
   have h1':(inNum ma&&inNum mi&&inNum pa)=true:=by cases hX:(inNum ma&&inNum mi&&inNum pa) with|false=>exact absurd hX h1|true=>rfl
   simp only[Bool.and_eq_true,inNum,decide_eq_true_eq] at h1'
   refine⟨h1'.1.1,h1'.1.2,h1'.2,?_⟩
   by_cases h3:e=[]
   ·exact .inl h3
   ·refine .inr ?_
    cases h4:earlyL e
    ·exact absurd (by rw[h4];simpa using h3) h2
    ·rfl
def printV (ma mi pa:Int) (e:Str):Str:=if checkV ma mi pa e=0 then textL ma mi pa e else []
set_option maxHeartbeats 1000000 in
theorem Print_any (ma mi pa:Int) (ea:ByteArray) (w:World) (hg:GoodN w) (hs:ea.size<=2097152) :
 Calls Tryz.prog 12 #[.agg #[.int .i64 ma,.int .i64 mi,.int .i64 pa,.string ea]] w fun e w'=>e=.returned (.tuple #[S (printV ma mi pa (bs ea)),.int .i64 (checkV ma mi pa (bs ea))])∧Ext w w':=by
 go_enter Tryz.func12,Tryz.ntmps12
 go_wp2_with fail
 refine (Check_any ma mi pa ea _ (hg.toGood.ext Ext.au) hs).mono ?_
 rintro e w1 ⟨rfl,hx1⟩
 obtain⟨hc1,hf1⟩:=hx1.cells
 have hz1:=hx1.size
 by_cases h0:checkV ma mi pa (bs ea)=0
 ·obtain⟨a1,a2,a3,a4⟩:=checkV_ok h0
  have H0:=Hy h0
  rw[h0]
  clear h0
  go_wp2_with fail
  refine (text_any ma mi pa ea _ (hg.ext (Ext.trans Ext.au hx1)) hs a1.1 a1.2 a2.1 a2.2 a3.1 a3.2).mono ?_
  rintro e w2 ⟨rfl,hx2⟩
  go_wp2
  go_ret2
  exact⟨by rw[printV,if_pos H0.out,H0.out];rfl,Ext.trans (Ext.trans Ext.au hx1) hx2⟩
 ·go_wp2
  go_ret2
  exact⟨by rw[printV,if_neg h0];rfl,Ext.trans Ext.au hx1⟩
end
section
open Go.RowKit
section
variable {P:Program} {ops:Array Oper} {md:Region.Mode} {C:World->Prop}
def anyT (P:Program) (md:Region.Mode) (ops:Array Oper) (C:World->Prop) (n:Nat) (L:Array Bool->Act->Prop):Nat->Array Bool->Act->Prop
 | 0,listed,a=>L listed a
 | f+1,listed,a=>Region.ready md ops listed≠[]∧∀ i∈Region.ready md ops listed,i < n∧qOp P ops C i (anyT P md ops C n L f (listed.setIfInBounds i true)) a
theorem wpAny_of_anyT {n g:Nat} {L:Array Bool->Act->Prop} {Q:Exit->Act->World->Prop} (hL:∀ listed a w,C w->L listed a->wpAny P md ops Q g listed a w) :
 ∀ (f:Nat) (listed:Array Bool) (a:Act) (w:World),C w->anyT P md ops C n L f listed a->wpAny P md ops Q (f+g) listed a w:=by
 intro f
 induction f with
 | zero=>intro listed a w hw h;rw[Nat.zero_add];exact hL _ _ _ hw h
 | succ f ih =>
   intro listed a w hw h
   rw[show f+1+g=(f+g)+1 by omega]
   exact⟨fun h0=>absurd h0 h.1,fun i hi=>wpOp_of_qOp hw (fun a' w' hw' h'=>ih _ a' w' hw' h') (h.2 i hi).2⟩
theorem anyT_first {n i:Nat} {oi:Oper} {v:Value} {L:Array Bool->Act->Prop} (hi:ops[i]?=some oi) (hsel:∀ (j:Nat) (o:Oper) cs b,ops[j]?=some o->o.op≠.select cs b)
 (hs:Region.sinkB md ops n=true) (hc:Region.chainB md ops n=true) (hn:n < ops.size) (hin:i < n) (hdone:∀ listed a,L listed a->∀ j∈Region.ready md ops listed,n<=j) :
 ∀ (f:Nat) (listed:Array Bool) (a:Act),HeadInv md ops n listed ->
  (∀ j oj,ops[j]?=some oj->j≠i->listed.getD j true=false->(∀ e∈oj.after,Region.binds md e=true->e.on≠i)->oi.apart ops oj=true) ->
  i∈Region.ready md ops listed->YieldsIn P ops C oi v a ->
  anyT P md ops C n L f (listed.setIfInBounds i true) (a.put oi.dst v)->anyT P md ops C n L (f+1) listed a:=by
 intro f
 induction f with
 | zero =>
   intro listed a inv _ hr hy H
   refine⟨(fun h=>by rw[h] at hr;cases hr),fun j hj=>?_⟩
   have hjn:j < n:=Nat.lt_of_not_le fun h=>tail_waits hs hc hn inv _ i rfl hin (mem_ready.1 hr).1 j h hj
   refine⟨hjn,?_⟩
   rcases Nat.decEq j i with hji|hji
   ·have:=hdone _ _ H j (ready_mono hj hji);omega
   ·subst hji;exact hy.qOp hi H
 | succ f ih =>
   intro listed a inv hfree hr hy H
   have hun:=(mem_ready.1 hr).1
   refine⟨(fun h=>by rw[h] at hr;cases hr),fun j hj=>?_⟩
   have hjn:j < n:=Nat.lt_of_not_le fun h=>tail_waits hs hc hn inv _ i rfl hin hun j h hj
   refine⟨hjn,?_⟩
   rcases Nat.decEq j i with hji|hji
   ·have h1:=(H.2 j (ready_mono hj hji)).2
    obtain⟨hjun,oj,hoj,hall⟩:=mem_ready.1 hj
    have hnot:∀ e∈oj.after,Region.binds md e=true->e.on≠i:=fun e he hb heq=>by
     have h3:=hall e he hb
     rw[heq,getD_both hun] at h3
     cases h3
    have h2:=qOp_put hoj (hfree j oj hoj hji hjun hnot) (fun cs b=>hsel i oi cs b hi) (fun cs b=>hsel j oj cs b hoj) hy h1
    refine qOp_mono (fun a' h3=>ih (listed.setIfInBounds j true) a' (inv.set hj hjn) (fun k ok hk hki hku hno=>hfree k ok hk hki ?_ hno) (ready_mono hr (Ne.symm hji)) h3.1 ?_) h2
    ·rcases Nat.decEq j k with hjk|hjk
     ·rw[getD_set_ne true hjk] at hku;exact hku
     ·subst hjk;exact hjun
    ·rw[Array.setIfInBounds_comm _ _ hji];exact h3.2
   ·subst hji;exact hy.qOp hi H
theorem anyT_lex {n g:Nat} {Lq:Act->Prop} (hsel:Region.noSelect ops=true) (hs:Region.sinkB md ops n=true) (hc:Region.chainB md ops n=true) (hn:n < ops.size) :
 ∀ (l:List Oper) (k:Nat) (listed:Array Bool) (a:Act),(∀ j,j < l.length->l[j]?=ops[k+j]?)->k+l.length=n->HeadInv md ops n listed ->
  Region.lexHead md ops g l.length k listed=true->wpQuiet P ops C Lq l a ->
  anyT P md ops C n (fun listed' a'=>Region.seqB md ops g n listed'=true∧Lq a') l.length listed a:=by
 intro l
 induction l with
 | nil =>
   intro k listed a _ hk _ hB h
   obtain rfl:k=n:=by simpa using hk
   exact⟨by simpa [Region.lexHead] using hB,h⟩
 | cons o l ih =>
   intro k listed a hl hk inv hB h
   have h0:ops[k]?=some o:=by simpa using (hl 0 (by simp)).symm
   simp only[List.length_cons,Region.lexHead,Bool.and_eq_true] at hB hk
   obtain⟨⟨hr,hf⟩,hB'⟩:=hB
   have hr':k∈Region.ready md ops listed:=by simpa using hr
   have hst:qOp P ops C k (wpQuiet P ops C Lq l) a:=by unfold qOp;simp only[h0];exact h
   obtain⟨v,hy,hK⟩:=yieldsIn_of_qOp h0 hst
   exact anyT_first h0 (Region.noSelect_spec hsel) hs hc hn (by omega) (fun listed' a' hL=>seqB_ready hL.1) l.length listed a inv (Region.free_spec h0 hf) hr' hy
    (ih (k+1) _ _ (fun j hj=>by have:=hl (j+1) (by simp;omega);simpa [Nat.add_assoc,Nat.add_comm 1 j] using this) (by omega) (inv.set hr' (by omega)) hB' hK)
theorem wp_region_tail {id:Nat} {Q:Exit->Act->World->Prop} {a:Act} {w:World} {l:List Oper} (n:Nat) (hm:P.follows .mixedOrders=true) (hB:Region.lexTailB .any l.toArray n=true) (hC:C { w with drawn:=w.drawn+1 })
 (h:wpQuiet P l.toArray C (fun a'=>∀ w',C w'->wpList P l.toArray Q (l.drop n) a' w') (l.take n) a):(Code.region id l.toArray true).wp P Q a w:=by
 simp only[Region.lexTailB,Bool.and_eq_true,decide_eq_true_eq] at hB
 obtain⟨⟨⟨⟨hsel,hn⟩,hs⟩,hc⟩,hlex⟩:=hB
 have hn':n < l.length:=by simpa using hn
 have htl:(l.take n).length=n:=by simp;omega
 have inv0:HeadInv .any l.toArray n (Array.replicate l.toArray.size false) :=
  ⟨by simp,(fun j oj _ hl=>by rw[getD_replicate_false] at hl;cases hl),fun t _ ht=>getD_in (by simpa using ht) (getD_replicate_false _ _)⟩
 have H:=anyT_lex (md:=.any) (C:=C) (g:=l.toArray.size - n) hsel hs hc hn (l.take n) 0 _ a (fun j hj=>by
  rw[htl] at hj
  simp[hj]) (by simpa using htl) inv0 (by rw[htl];exact hlex) h
 refine wp_region_any hm ?_
 have H2:=wpAny_of_anyT (Q:=Q) (g:=l.toArray.size - n) (fun listed a' w' hw' hL=>by
  have H3:=wpAny_of_seq (md:=.any) (Q':=Q) (l.drop n) n listed a' w' (fun j=>by simp[List.getElem?_drop]) (by simpa using hL.1) (hL.2 w' hw')
  simpa using H3) _ _ _ _ hC H
 rw[htl,show n+(l.toArray.size - n)=l.toArray.size by omega] at H2
 exact H2
theorem wp_region_ext_tail {id:Nat} {Q:Exit->Act->World->Prop} {a:Act} {w:World} {l:List Oper} (n:Nat) (hm:P.follows .mixedOrders=true) (hB:Region.lexTailB .any l.toArray n=true)
 (h:wpQuiet P l.toArray (Ext w) (fun a'=>∀ w',Ext w w'->wpList P l.toArray Q (l.drop n) a' w') (l.take n) a):(Code.region id l.toArray true).wp P Q a w :=
 wp_region_tail (C:=Ext w) n hm hB ((Ext.refl w).drewN 1) h
end
end
section
def decVal (l:Str):Nat:=l.foldl (fun a c=>a * 10+(c.toNat - 48)) 0
theorem foldl_dec (l:Str):∀ a:Nat,l.foldl (fun a c=>a * 10+(c.toNat - 48)) a=a * 10 ^ l.length+decVal l:=by
 induction l with
 | nil=>intro a;simp[decVal]
 | cons c l ih =>
   intro a
   have h1:=ih (a * 10+(c.toNat - 48))
   have h2:=ih (0 * 10+(c.toNat - 48))
   simp only[List.foldl_cons,List.length_cons,decVal] at h1 h2 ⊢
   rw[h1,h2,Nat.pow_succ,Nat.zero_mul,Nat.zero_add,Nat.add_mul,Nat.mul_assoc,Nat.mul_comm 10,Nat.add_assoc]
theorem decVal_cons (c:UInt8) (l:Str):decVal (c::l)=(c.toNat - 48) * 10 ^ l.length+decVal l:=by
 have:=foldl_dec l (0 * 10+(c.toNat - 48))
 simp only[Nat.zero_mul,Nat.zero_add] at this
 rw[<-this]
 simp[decVal]
theorem decVal_snoc (l:Str) (c:UInt8):decVal (l++[c])=decVal l * 10+(c.toNat - 48):=by simp[decVal]
theorem digit_bounds {c:UInt8} (h:digitB c=true):48<=c.toNat∧c.toNat<=57:=by simpa [digitB] using h
theorem decVal_lt:∀ l:Str,l.all digitB=true->decVal l < 10 ^ l.length
 | [],_=>by simp[decVal]
 | c::l,h=>by
   simp only[List.all_cons,Bool.and_eq_true] at h
   have h1:=decVal_lt l h.2
   have h2:=digit_bounds h.1
   rw[decVal_cons,List.length_cons,Nat.pow_succ]
   have:(c.toNat - 48) * 10 ^ l.length<=9 * 10 ^ l.length:=Nat.mul_le_mul_right _ (by omega)
   omega
theorem parse_digits:∀ (l:Str) (k acc:Nat),l.all digitB=true->acc < 10 ^ k->k+l.length<=18->Lib.parseUint10 acc l=.ok (acc * 10 ^ l.length+decVal l)
 | [],_,acc,_,_,_=>by simp[Lib.parseUint10,decVal]
 | c::l,k,acc,h,hk,hl=>by
   simp only[List.all_cons,Bool.and_eq_true] at h
   have h2:=digit_bounds h.1
   simp only[List.length_cons] at hl
   have hp:(10:Nat) ^ k<=10 ^ 17:=Nat.pow_le_pow_right (by decide) (by omega)
   have hp2:(10:Nat) ^ 17=100000000000000000:=by decide
   have hs:acc * 10+(c.toNat - 48) < 10 ^ (k+1):=by rw[Nat.pow_succ];omega
   unfold Lib.parseUint10
   rw[if_pos h2,if_neg (by omega),if_neg (by omega),parse_digits l (k+1) _ h.2 hs (by omega),decVal_cons,List.length_cons,Nat.pow_succ]
   rw[Nat.add_mul,Nat.mul_assoc,Nat.mul_comm 10,Nat.add_assoc]
theorem atoi_digits (l:Str) (h:l.all digitB=true) (h0:0 < l.length) (hl:l.length<=18):Lib.atoiAll l=.ok (decVal l):=by
 cases l with
 | nil=>simp at h0
 | cons c r =>
   have hc:digitB c=true:=by simp only[List.all_cons,Bool.and_eq_true] at h;exact h.1
   have h2:=digit_bounds hc
   have h3:=parse_digits (c::r) 0 0 h (by decide) (by omega)
   have h4:=decVal_lt (c::r) h
   have h5:(10:Nat) ^ (c::r).length<=10 ^ 18:=Nat.pow_le_pow_right (by decide) hl
   have h6:(10:Nat) ^ 18=1000000000000000000:=by decide
   rw[Nat.zero_mul,Nat.zero_add] at h3
   unfold Lib.atoiAll
   simp only[Lib.parseMag]
   have e1:¬ (c.toNat=43∨c.toNat=45):=by omega
   have e2:¬ c.toNat=45:=by omega
   rw[if_neg e1,if_neg (by simp),h3]
   simp only[e2,not_false_eq_true,true_and,false_and,if_false]
   rw[if_neg (by omega)]
theorem decDigits_all (u:Nat):(Lib.decDigits u).all digitB=true∧decVal (Lib.decDigits u)=u:=by
 induction u using Nat.strongRecOn with
 | _ u ih =>
   have one:∀ d:Nat,d < 10->digitB (UInt8.ofNat (48+d))=true∧(UInt8.ofNat (48+d)).toNat - 48=d:=fun d hd=>by
    have:(UInt8.ofNat (48+d)).toNat=48+d:=by rw[UInt8.toNat_ofNat'];omega
    exact⟨by simp[digitB];omega,by omega⟩
   by_cases h:u < 10
   ·rw[Lib.decDigits,dif_pos h]
    obtain⟨a,b⟩:=one u h
    exact⟨by rw[List.all_cons,a];rfl,by rw[decVal_cons,b];simp[decVal]⟩
   ·obtain⟨a,b⟩:=ih (u / 10) (by omega)
    obtain⟨c,d⟩:=one (u % 10) (by omega)
    rw[Lib.decDigits,dif_neg h]
    refine⟨by rw[List.all_append,a,List.all_cons,c];rfl,?_⟩
    rw[decVal_snoc,b,d]
    omega
theorem nDigits_le:∀ (k u:Nat),u < 10 ^ (k+1)->Lib.nDigits u<=k+1
 | 0,u,h=>by rw[Lib.nDigits_small (by simpa using h)];exact Nat.le_refl _
 | k+1,u,h=>by
   by_cases hu:u < 10
   ·rw[Lib.nDigits_small hu];omega
   ·rw[Nat.pow_succ] at h
    have:=nDigits_le k (u / 10) (by omega)
    rw[Lib.nDigits_big hu];omega
theorem decDigits_len (u k:Nat) (h:u < 10 ^ (k+1)):0 < (Lib.decDigits u).length∧(Lib.decDigits u).length<=k+1:=by
 rw[Lib.decDigits_length]
 exact⟨Lib.nDigits_pos u,nDigits_le k u h⟩
theorem decDigits_head (u:Nat):(Lib.decDigits u).headD 0=48->u=0:=by
 induction u using Nat.strongRecOn with
 | _ u ih =>
   by_cases h:u < 10
   ·rw[Lib.decDigits,dif_pos h]
    intro e
    have e1:UInt8.ofNat (48+u)=48:=e
    have:=congrArg UInt8.toNat e1
    rw[UInt8.toNat_ofNat'] at this
    have h2:(48:UInt8).toNat=48:=rfl
    omega
   ·rw[Lib.decDigits,dif_neg h]
    intro e
    have hn:Lib.decDigits (u / 10)≠[]:=by
     have:=Lib.nDigits_pos (u / 10)
     rw[<-Lib.decDigits_length] at this
     exact List.length_pos_iff.1 this
    have e2:(Lib.decDigits (u / 10)).headD 0=48:=by
     cases hd:Lib.decDigits (u / 10) with
     | nil=>exact absurd hd hn
     | cons x r=>rw[hd] at e;simpa using e
    have:=ih (u / 10) (by omega) e2
    omega
end
section
def cmpWordL (a b:Str):Int :=
 if (numeralL a&&numeralL b)=true then (if a.length=b.length then Lib.compareBytes a b else Lib.compareInt a.length b.length)
 else if numeralL a=true then -1 else if numeralL b=true then 1 else Lib.compareBytes a b
def cmpWordsL (f:Str->Str->Int):List Str->List Str->Int
 | x::xs,y::ys=>if f x y=0 then cmpWordsL f xs ys else f x y
 | xs,ys=>Lib.compareInt xs.length ys.length
theorem compareInt_succ (a b:Nat):Lib.compareInt ((a+1:Nat):Int) ((b+1:Nat):Int)=Lib.compareInt a b:=by
 unfold Lib.compareInt
 by_cases h1:(a:Int) < b
 ·rw[if_pos h1,if_pos (by omega)]
 ·rw[if_neg h1,if_neg (by omega)]
  by_cases h2:(a:Int) > b
  ·rw[if_pos h2,if_pos (by omega)]
  ·rw[if_neg h2,if_neg (by omega)]
theorem cmpWords_end (f:Str->Str->Int):∀ (xs ys:List Str),(∀ j (h1:j < xs.length) (h2:j < ys.length),f xs[j] ys[j]=0)->cmpWordsL f xs ys=Lib.compareInt xs.length ys.length
 | [],ys,_=>by cases ys<;>rfl
 | x::xs,[],_=>rfl
 | x::xs,y::ys,h=>by
   have h0:f x y=0:=h 0 (by simp) (by simp)
   unfold cmpWordsL
   rw[if_pos h0,cmpWords_end f xs ys (fun j h1 h2=>h (j+1) (by simpa using h1) (by simpa using h2))]
   simp only[List.length_cons]
   rw[compareInt_succ]
theorem cmpWords_at (f:Str->Str->Int):∀ (xs ys:List Str) (k:Nat) (h1:k < xs.length) (h2:k < ys.length),(∀ j (hj:j < k),f xs[j] ys[j]=0)->f xs[k] ys[k]≠0->cmpWordsL f xs ys=f xs[k] ys[k]
 | x::xs,y::ys,0,_,_,_,h=>by unfold cmpWordsL;rw[if_neg (by simpa using h)];rfl
 | x::xs,y::ys,k+1,h1,h2,h0,h=>by
   have hz:f x y=0:=h0 0 (by omega)
   unfold cmpWordsL
   rw[if_pos hz]
   exact cmpWords_at f xs ys k (by simpa using h1) (by simpa using h2) (fun j hj=>h0 (j+1) (by omega)) (by simpa using h)
def cmpEarlyL (a b:Str):Int :=
 if a=b then 0 else if a=[] then 1 else if b=[] then -1 else cmpWordsL cmpWordL (splitC 46 a) (splitC 46 b)
def orderL (a1 a2 a3:Int) (a:Str) (b1 b2 b3:Int) (b:Str):Int:=firstI [Lib.compareInt a1 b1,Lib.compareInt a2 b2,Lib.compareInt a3 b3,cmpEarlyL a b]
end
section
open Go.RowKit
set_option maxHeartbeats 400000 in
theorem compareWords_any (a b:ByteArray) (w:World) (ha:a.size<=2097152) (hb:b.size<=2097152) :
 Calls Tryz.prog 223 #[.string a,.string b] w fun e w'=>e=.returned (.int .i64 (cmpWordL (bs a) (bs b)))∧w=w':=by
 go_enter Tryz.func223,Tryz.ntmps223
 go_wp2_with fail
 refine (isNumeral_any a _ ha).mono ?_
 rintro e w' ⟨rfl,rfl⟩
 go_wp2_with fail
 refine (isNumeral_any b _ hb).mono ?_
 rintro e w' ⟨rfl,rfl⟩
 cases h1:numeralL (bs a)<;>cases h2:numeralL (bs b)
 ·go_wp2_with fail
  refine (compare_any a b _).mono ?_
  rintro e w' ⟨rfl,rfl⟩
  go_wp2
  go_ret
  exact⟨ret_int (by rw[cmpWordL,h1,h2];rfl),rfl⟩
 ·go_wp2
  go_ret
  exact⟨ret_int (by rw[cmpWordL,h1,h2];rfl),rfl⟩
 ·go_wp2
  go_ret
  exact⟨ret_int (by rw[cmpWordL,h1,h2];rfl),rfl⟩
 ·by_cases h3:a.size=b.size
  ·have h4:(((a.size:Nat):Int) != ((b.size:Nat):Int))=false:=by rw[h3];simp
   have h5:(bs a).length=(bs b).length:=by rw[bs_length,bs_length,h3]
   have H5:=Hy h5
   clear h3 h5
   go_wp2_with fail
   refine (compare_any a b _).mono ?_
   rintro e w' ⟨rfl,rfl⟩
   go_wp2
   go_ret
   exact⟨ret_int (by rw[cmpWordL,h1,h2,if_pos (by rfl),if_pos H5.out]),rfl⟩
  ·have h4:(((a.size:Nat):Int) != ((b.size:Nat):Int))=true:=by rw[bne_iff_ne];omega
   have h5:¬ (bs a).length=(bs b).length:=by rw[bs_length,bs_length];exact h3
   have H5:=Hy h5
   clear h3 h5
   go_wp2_with fail
   refine (compareInt_any _ _ _).mono ?_
   rintro e w' ⟨rfl,rfl⟩
   go_wp2
   go_ret
   exact⟨ret_int (by rw[cmpWordL,h1,h2,if_pos (by rfl),if_neg H5.out,bs_length,bs_length]),rfl⟩
theorem map_bs_get {xs:List ByteArray} {k:Nat} (h:k < (xs.map bs).length):(xs.map bs)[k]=bs (xs[k]'(by simpa using h)):=by simp
theorem cmpWords_all {xs ys:List ByteArray} {X Y:List Str} (hX:xs.map bs=X) (hY:ys.map bs=Y) (h:∀ j (h1:j < xs.length) (h2:j < ys.length),cmpWordL (bs xs[j]) (bs ys[j])=0):cmpWordsL cmpWordL X Y=Lib.compareInt xs.length ys.length:=by
 subst hX hY
 rw[cmpWords_end _ _ _ (fun j h1 h2=>by rw[map_bs_get,map_bs_get];exact h j (by simpa using h1) (by simpa using h2))]
 simp
theorem cmpWords_hit {xs ys:List ByteArray} {X Y:List Str} (hX:xs.map bs=X) (hY:ys.map bs=Y) {k:Nat} (h1:k < xs.length) (h2:k < ys.length) (h:∀ j (hj:j < k),cmpWordL (bs xs[j]) (bs ys[j])=0) (hk:cmpWordL (bs xs[k]) (bs ys[k])≠0):cmpWordsL cmpWordL X Y=cmpWordL (bs xs[k]) (bs ys[k]):=by
 subst hX hY
 rw[cmpWords_at _ _ _ k (by simpa using h1) (by simpa using h2) (fun j hj=>by rw[map_bs_get,map_bs_get];exact h j hj) (by rw[map_bs_get,map_bs_get];exact hk),map_bs_get,map_bs_get]
theorem bs_inj {a b:ByteArray} (h:bs a=bs b):a=b:=by rw[<-mk_bs a,<-mk_bs b,h]
set_option maxHeartbeats 1000000 in
theorem compareEarly_any (a b:ByteArray) (w:World) (hg:Good w) (ha:a.size<=2097152) (hb:b.size<=2097152) :
 Calls Tryz.prog 148 #[.string a,.string b] w fun e w'=>e=.returned (.int .i64 (cmpEarlyL (bs a) (bs b)))∧Ext w w':=by
 go_enter Tryz.func148,Tryz.ntmps148
 by_cases hab:a=b
 ·subst hab
  have h1:(a.toList==a.toList)=true:=by simp
  go_wp2
  go_ret
  exact⟨ret_int (by rw[cmpEarlyL,if_pos rfl]),Ext.refl _⟩
 have hne:(a.toList==b.toList)=false:=by
  rw[beq_eq_false_iff_ne,ByteArray.toList_eq,ByteArray.toList_eq]
  exact fun e=>hab (bs_inj e)
 have hne2:¬ bs a=bs b:=fun e=>hab (bs_inj e)
 have HNE:=Hy hne2
 clear hab hne2
 rcases Nat.eq_zero_or_pos a.size with ha0|ha0
 ·have hi:=emp_bool ha0
  go_wp2
  go_ret
  exact⟨ret_int (by rw[cmpEarlyL,if_neg HNE.out,if_pos (bs_nil ha0)]),Ext.refl _⟩
 have hia:=nemp_bool ha0
 have hna:¬ bs a=[]:=fun e=>by have:=bs_length a;rw[e] at this;simp at this;omega
 have HNA:=Hy hna
 clear hna
 rcases Nat.eq_zero_or_pos b.size with hb0|hb0
 ·have hi:=emp_bool hb0
  go_wp2
  go_ret
  exact⟨ret_int (by rw[cmpEarlyL,if_neg HNE.out,if_neg HNA.out,if_pos (bs_nil hb0)]),Ext.refl _⟩
 have hib:=nemp_bool hb0
 have hnb:¬ bs b=[]:=fun e=>by have:=bs_length b;rw[e] at this;simp at this;omega
 have HNB:=Hy hnb
 clear hnb
 go_wp2_with fail
 refine (split_any 46 a _ hg ha).mono ?_
 rintro e w1 ⟨b1,xs,rfl,hb1,hst1,hxs,hx1⟩
 go_wp2_with fail
 refine (split_any 46 b _ (hg.ext hx1) hb).mono ?_
 rintro e w2 ⟨b2,ys,rfl,hb2,hst2,hys,hx2⟩
 have hl1:=pieces_le hxs
 have hl2:=pieces_le hys
 have HXS:=Hy hxs
 have HYS:=Hy hys
 clear hxs hys
 have hc1:=(hst1.ext hx2).cell
 have hc2:=hst2.cell
 have HC1:=Hy hc1
 have HC2:=Hy hc2
 have hx:=hx1.trans hx2
 clear hc1 hc2 hst1 hst2 hx1 hx2 hb2
 go_wp2
 go_loopw [28] (fun i wr=>∃ k:Nat,i=.int .i64 k∧k<=xs.length∧k<=ys.length∧(∀ j (h1:j < xs.length) (h2:j < ys.length),j < k->cmpWordL (bs xs[j]) (bs ys[j])=0)∧Ext w2 wr) (fun i _=>xs.length - (intOf i).toNat)
 case atStart=>exact⟨0,rfl,Nat.zero_le _,Nat.zero_le _,fun j _ _ h=>absurd h (by omega),Ext.refl _⟩
 case round =>
  obtain⟨k,rfl,hk1,hk2,hall,hxr⟩:=hrel
  have HALL:=Hy hall
  clear hall
  by_cases hlt:k < xs.length∧k < ys.length
  ·obtain⟨hlt1,hlt2⟩:=hlt
   have hm:(k:Int) < min (xs.length:Int) (ys.length:Int):=by omega
   have d1:=hxr.cell (HC1.out k hlt1)
   have d2:=hxr.cell (HC2.out k hlt2)
   have q1:=lt_of_cell d1
   have q2:=lt_of_cell d2
   have s1:=piece_le HXS.out hlt1
   have s2:=piece_le HYS.out hlt2
   go_wp2_with fail
   refine wp_region_ext (by kernel_rfl) (by kernel_rfl) ?_
   repeat (first|go_big_quiet_skip|(refine wpQuiet_step (fun K hK=>?_);go_simp;first|(refine hK _ ?_;clear hK K)|(apply Exists.intro;refine⟨fun wq hwq=>?_,hK _ ?_⟩;(obtain⟨hqc,hqf⟩:=hwq.cells;have hqs:=hwq.size;(try go_simp);first|rfl|((first|rw[if_neg (by omega)]|rw[if_pos (by omega)]);(try go_simp);rfl)|((go_at_call 223;refine (compareWords_any xs[k] ys[k] _ (by omega) (by omega)).mono (fun e w'' h=>⟨h.1,h.2 ▸ hwq⟩))));clear hK K)))
   refine wpQuiet_nil ?_
   intro wN hxN
   obtain⟨hcN,hfN⟩:=hxN.cells
   have hsN:=hxN.size
   by_cases hz:cmpWordL (bs xs[k]) (bs ys[k])=0
   ·have hz2:(cmpWordL (bs xs[k]) (bs ys[k]) != 0)=false:=by rw[hz];rfl
    have HZ:=Hy hz
    clear hz
    go_wp2
    go_roundw
    case rel =>
     refine⟨k+1,by go_num,by omega,by omega,fun j h1 h2 h3=>?_,hxr.trans hxN⟩
     by_cases hj:j=k
     ·subst hj;exact HZ.out
     ·exact HALL.out j h1 h2 (by omega)
    case measure=>simp[intOf];omega
   ·have hz2:(cmpWordL (bs xs[k]) (bs ys[k]) != 0)=true:=by rw[bne_iff_ne];exact hz
    have HZ:=Hy hz
    clear hz
    go_wp2
    go_ret
    refine⟨ret_int ?_,(hx.trans hxr).trans hxN⟩
    rw[cmpEarlyL,if_neg HNE.out,if_neg HNA.out,if_neg HNB.out,cmpWords_hit HXS.out HYS.out hlt1 hlt2 (fun j hj=>HALL.out j (by omega) (by omega) hj) HZ.out]
  ·have hm:¬ (k:Int) < min (xs.length:Int) (ys.length:Int):=by omega
   have hfin:cmpEarlyL (bs a) (bs b)=Lib.compareInt xs.length ys.length:=by
    rw[cmpEarlyL,if_neg HNE.out,if_neg HNA.out,if_neg HNB.out,cmpWords_all HXS.out HYS.out (fun j h1 h2=>HALL.out j h1 h2 (by omega))]
   have HFIN:=Hy hfin
   clear hfin
   go_wp2_with fail
   refine (compareInt_any _ _ _).mono ?_
   rintro e w' ⟨rfl,rfl⟩
   go_wp2
   go_ret
   exact⟨ret_int HFIN.out.symm,hx.trans hxr⟩
end
section
open Go.RowKit
set_option maxHeartbeats 400000 in
theorem Or_any (b c:Nat) (es:List Int) (w:World) (hc:∀ k (h:k < es.length),w.cell? ⟨b,k,none⟩=some (.int .i64 es[k])) (hl:es.length<=1000) :
 Calls Tryz.prog 83 #[.slice (some ⟨b,0,none⟩) es.length c] w fun e w'=>e=.returned (.int .i64 (firstI es))∧w=w':=by
 go_enter Tryz.func83,Tryz.ntmps83
 go_wp2
 go_loop [8] (fun i=>∃ k:Nat,k<=es.length∧i=.int .i64 k∧∀ x∈es.take k,x=0) (fun i=>es.length - (intOf i).toNat)
 case atStart=>exact⟨0,Nat.zero_le _,rfl,by simp⟩
 case round =>
  obtain⟨k,hk,rfl,hall⟩:=hrel
  have HALL:=Hy hall
  clear hall
  by_cases hlt:k < es.length
  ·have hk1:=hc k hlt
   have HC:=Hy hc
   clear hc
   by_cases h0:es[k]=0
   ·have H0:=Hy h0
    rw[h0] at hk1
    clear h0
    go_wp2
    go_round
    case rel=>exact⟨k+1,by omega,by go_num,take_zero_succ hlt HALL.out H0.out⟩
    case measure=>simp[intOf];omega
   ·have h1:(es[k] != 0)=true:=by rw[bne_iff_ne];exact h0
    go_wp2
    go_ret
    exact⟨ret_int (firstI_at hlt HALL.out h0).symm,rfl⟩
  ·obtain rfl:k=es.length:=by omega
   have HC:=Hy hc
   clear hc
   go_wp2
   go_ret
   exact⟨ret_int (firstI_zero (by simpa using HALL.out)).symm,rfl⟩
set_option maxHeartbeats 2000000 in
theorem Order_any (a1 a2 a3 b1 b2 b3:Int) (a b:ByteArray) (w:World) (hg:Good w) (ha:a.size<=2097152) (hb:b.size<=2097152) :
 Calls Tryz.prog 73 #[.agg #[.int .i64 a1,.int .i64 a2,.int .i64 a3,.string a],.agg #[.int .i64 b1,.int .i64 b2,.int .i64 b3,.string b]] w
  fun e w'=>e=.returned (.int .i64 (orderL a1 a2 a3 (bs a) b1 b2 b3 (bs b)))∧Ext w w':=by
 go_enter Tryz.func73,Tryz.ntmps73
 go_wp2_with fail
 refine wp_region_ext_tail 20 (by kernel_rfl) (by kernel_rfl) ?_
 simp only[List.take_succ_cons,List.take_zero,List.drop_succ_cons,List.drop_zero]
 repeat (first|go_big_quiet_skip|(refine wpQuiet_step (fun K hK=>?_);go_simp;first|(refine hK _ ?_;clear hK K)|(apply Exists.intro;refine⟨fun wq hwq=>?_,hK _ ?_⟩;(obtain⟨hqc,hqf⟩:=hwq.cells;have hqs:=hwq.size;(try go_simp);first|rfl|((first|rw[if_neg (by omega)]|rw[if_pos (by omega)]);(try go_simp);rfl)|((first|(go_at_call 84;exact (compareInt_any _ _ _).mono (fun e w'' h=>⟨h.1,h.2 ▸ hwq⟩))|(go_at_call 148;exact (compareEarly_any a b _ (hg.ext (Ext.trans Ext.au hwq)) ha hb).mono (fun e w'' h=>⟨h.1,hwq.trans h.2⟩)))));clear hK K)))
 refine wpQuiet_nil ?_
 intro wN hxN
 obtain⟨hcN,hfN⟩:=hxN.cells
 have hsN:=hxN.size
 go_wp2_with fail
 refine (Or_any _ _ [Lib.compareInt a1 b1,Lib.compareInt a2 b2,Lib.compareInt a3 b3,cmpEarlyL (bs a) (bs b)] _ ?_ (by simp)).mono ?_
 ·intro k hk
  rw[World.cell?_alloc_at _ _ _ _ rfl]
  match k,hk with
  | 0,_=>rfl
  | 1,_=>rfl
  | 2,_=>rfl
  | 3,_=>rfl
 rintro e w' ⟨rfl,rfl⟩
 go_wp2
 go_ret
 exact⟨rfl,(Ext.trans Ext.au hxN).alloc _⟩
structure Ver4 (w:World) (g:Nat) (a1 a2 a3:Int) (a:ByteArray):Prop where
 c0:w.cell? ⟨g,0,none⟩=some (.int .i64 a1)
 c1:w.cell? ⟨g,1,none⟩=some (.int .i64 a2)
 c2:w.cell? ⟨g,2,none⟩=some (.int .i64 a3)
 c3:w.cell? ⟨g,3,none⟩=some (.string a)
theorem Ver4.ext {w w':World} {g:Nat} {a1 a2 a3:Int} {a:ByteArray} (h:Ver4 w g a1 a2 a3 a) (hx:Ext w w'):Ver4 w' g a1 a2 a3 a:=⟨hx.cell h.c0,hx.cell h.c1,hx.cell h.c2,hx.cell h.c3⟩
theorem Ver4.lt {w:World} {g:Nat} {a1 a2 a3:Int} {a:ByteArray} (h:Ver4 w g a1 a2 a3 a):g < w.heap.size:=lt_of_cell h.c0
def bothV (a1 a2 a3:Int) (a:Str) (b1 b2 b3:Int) (b:Str):Int:=firstI [checkV a1 a2 a3 a,checkV b1 b2 b3 b]
def compareV (a1 a2 a3:Int) (a:Str) (b1 b2 b3:Int) (b:Str):Int:=if bothV a1 a2 a3 a b1 b2 b3 b=0 then orderL a1 a2 a3 a b1 b2 b3 b else 0
theorem both_a {a1 a2 a3 b1 b2 b3:Int} {a b:Str} (h:checkV a1 a2 a3 a≠0):bothV a1 a2 a3 a b1 b2 b3 b=checkV a1 a2 a3 a∧compareV a1 a2 a3 a b1 b2 b3 b=0:=by
 have h2:bothV a1 a2 a3 a b1 b2 b3 b=checkV a1 a2 a3 a:=by rw[bothV,firstI,if_neg h]
 exact⟨h2,by rw[compareV,h2,if_neg h]⟩
theorem both_b {a1 a2 a3 b1 b2 b3:Int} {a b:Str} (h1:checkV a1 a2 a3 a=0) (h:checkV b1 b2 b3 b≠0):bothV a1 a2 a3 a b1 b2 b3 b=checkV b1 b2 b3 b∧compareV a1 a2 a3 a b1 b2 b3 b=0:=by
 have h2:bothV a1 a2 a3 a b1 b2 b3 b=checkV b1 b2 b3 b:=by rw[bothV,firstI,if_pos h1,firstI,if_neg h]
 exact⟨h2,by rw[compareV,h2,if_neg h]⟩
theorem both_0 {a1 a2 a3 b1 b2 b3:Int} {a b:Str} (h1:checkV a1 a2 a3 a=0) (h:checkV b1 b2 b3 b=0):bothV a1 a2 a3 a b1 b2 b3 b=0∧compareV a1 a2 a3 a b1 b2 b3 b=orderL a1 a2 a3 a b1 b2 b3 b:=by
 have h2:bothV a1 a2 a3 a b1 b2 b3 b=0:=by rw[bothV,firstI,if_pos h1,firstI,if_pos h,firstI]
 exact⟨h2,by rw[compareV,if_pos h2]⟩
set_option maxHeartbeats 2000000 in
theorem Compare_any (a1 a2 a3 b1 b2 b3:Int) (a b:ByteArray) (w:World) (hg:Good w) (ha:a.size<=2097152) (hb:b.size<=2097152) :
 Calls Tryz.prog 13 #[.agg #[.int .i64 a1,.int .i64 a2,.int .i64 a3,.string a],.agg #[.int .i64 b1,.int .i64 b2,.int .i64 b3,.string b]] w
  fun e w'=>e=.returned (.tuple #[.int .i64 (compareV a1 a2 a3 (bs a) b1 b2 b3 (bs b)),.int .i64 (bothV a1 a2 a3 (bs a) b1 b2 b3 (bs b))])∧Ext w w':=by
 have i0:∀ w,(Instr.index 114 (.agg #[.int .i64 a1,.int .i64 a2,.int .i64 a3,.string a,.int .i64 b1,.int .i64 b2,.int .i64 b3,.string b]) (.int .i64 0)).run Tryz.prog w=.ok (.agg #[.int .i64 a1,.int .i64 a2,.int .i64 a3,.string a]) w:=fun _=>by kernel_rfl
 have i1:∀ w,(Instr.index 114 (.agg #[.int .i64 a1,.int .i64 a2,.int .i64 a3,.string a,.int .i64 b1,.int .i64 b2,.int .i64 b3,.string b]) (.int .i64 1)).run Tryz.prog w=.ok (.agg #[.int .i64 b1,.int .i64 b2,.int .i64 b3,.string b]) w:=fun _=>by kernel_rfl
 go_enter Tryz.func13,Tryz.ntmps13
 go_wp2
 go_loopw [12] (fun i wr=>(i=.int .i64 0∨(i=.int .i64 1∧checkV a1 a2 a3 (bs a)=0)∨(i=.int .i64 2∧checkV a1 a2 a3 (bs a)=0∧checkV b1 b2 b3 (bs b)=0))∧Ver4 wr w.heap.size a1 a2 a3 a∧Ver4 wr (w.heap.size+1) b1 b2 b3 b∧Ext w wr) (fun i _=>2 - (intOf i).toNat)
 case atStart =>
  refine⟨.inl rfl,⟨?_,?_,?_,?_⟩,⟨?_,?_,?_,?_⟩,Ext.au⟩
  all_goals go_simp
 case round =>
  obtain⟨hi,hA,hB,hxr⟩:=hrel
  have hA0:=hA.lt
  have hB0:=hB.lt
  rcases hi with rfl|⟨rfl,h1⟩|⟨rfl,h1,h2⟩
  ·go_wp2_with fail
   refine (Check_any a1 a2 a3 a _ (hg.ext (Ext.alloc hxr _)) ha).mono ?_
   rintro e w1 ⟨rfl,hx1⟩
   have hA1:=hA.ext (Ext.trans ((Ext.refl _).alloc _) hx1)
   have hB1:=hB.ext (Ext.trans ((Ext.refl _).alloc _) hx1)
   by_cases h1:checkV a1 a2 a3 (bs a)=0
   ·have H1:=Hy h1
    rw[h1]
    clear h1
    go_wp2
    go_roundw
    case rel=>exact⟨.inr (.inl ⟨rfl,H1.out⟩),hA1,hB1,(hxr.alloc _).trans hx1⟩
    case measure=>decide
   ·go_wp2
    go_ret2
    refine⟨?_,(hxr.alloc _).trans hx1⟩
    rw[(both_a h1).1,(both_a h1).2]
    rfl
  ·have H1:=Hy h1
   clear h1
   go_wp2_with fail
   refine (Check_any b1 b2 b3 b _ (hg.ext (Ext.alloc hxr _)) hb).mono ?_
   rintro e w1 ⟨rfl,hx1⟩
   have hA1:=hA.ext (Ext.trans ((Ext.refl _).alloc _) hx1)
   have hB1:=hB.ext (Ext.trans ((Ext.refl _).alloc _) hx1)
   by_cases h2:checkV b1 b2 b3 (bs b)=0
   ·have H2:=Hy h2
    rw[h2]
    clear h2
    go_wp2
    go_roundw
    case rel=>exact⟨.inr (.inr ⟨rfl,H1.out,H2.out⟩),hA1,hB1,(hxr.alloc _).trans hx1⟩
    case measure=>decide
   ·go_wp2
    go_ret2
    refine⟨?_,(hxr.alloc _).trans hx1⟩
    rw[(both_b H1.out h2).1,(both_b H1.out h2).2]
    rfl
  ·have H1:=Hy h1
   have H2:=Hy h2
   clear h1 h2
   have a0:=hA.c0
   have a1':=hA.c1
   have a2':=hA.c2
   have a3':=hA.c3
   have b0:=hB.c0
   have b1':=hB.c1
   have b2':=hB.c2
   have b3':=hB.c3
   go_wp2_with fail
   refine (Order_any a1 a2 a3 b1 b2 b3 a b _ (hg.ext hxr) ha hb).mono ?_
   rintro e w1 ⟨rfl,hx1⟩
   go_wp2
   go_ret2
   refine⟨?_,hxr.trans hx1⟩
   rw[(both_0 H1.out H2.out).1,(both_0 H1.out H2.out).2]
   rfl
end
section
open Go.RowKit
def numOk (l:Str):Bool:=eachL digitB l 9&&!((l.headD 0==48)&&(l != [48]))
def numV (l:Str):Int:=if numOk l=true then decVal l else 0
theorem eachL_digits {l:Str} {n:Nat} (h:eachL digitB l n=true):l.all digitB=true∧0 < l.length∧l.length<=n:=by
 unfold eachL at h
 simp only[Bool.and_eq_true,decide_eq_true_eq] at h
 exact⟨h.1.1,h.1.2,h.2⟩
theorem no_bad {x:ByteArray} {h0:0 < x.size} (hh:(bs x).headD 0=x[0]) (h1:(x[0].toNat:Int)=48) (h2:(!x.toList==[48])=true):numOk (bs x)=false:=by
 have h3:x[0]=48:=UInt8.toNat_inj.1 (by show x[0].toNat=48;omega)
 rw[ByteArray.toList_eq] at h2
 have h4:(bs x != [48])=true:=h2
 rw[numOk,hh,h3,h4]
 simp
theorem no_good1 {x:ByteArray} (hp:eachL digitB (bs x) 9=true) (h2:(!x.toList==[48])=false):numOk (bs x)=true:=by
 rw[ByteArray.toList_eq] at h2
 have h4:(bs x != [48])=false:=h2
 rw[numOk,hp,h4]
 simp
theorem no_good2 {x:ByteArray} {h0:0 < x.size} (hp:eachL digitB (bs x) 9=true) (hh:(bs x).headD 0=x[0]) (h1:¬ (x[0].toNat:Int)=48):numOk (bs x)=true:=by
 have h3:(x[0]==48)=false:=by
  rw[beq_eq_false_iff_ne]
  intro e
  rw[e] at h1
  exact h1 rfl
 rw[numOk,hp,hh,h3]
 simp
set_option maxHeartbeats 1000000 in
theorem number_any (s:ByteArray) (w:World) (hg:GoodN w) (hs:s.size<=2097152) :
 Calls Tryz.prog 87 #[.string s] w fun e w'=>e=.returned (.tuple #[.int .i64 (numV (bs s)),.bool (numOk (bs s))])∧Ext w w':=by
 go_enter Tryz.func87,Tryz.ntmps87
 go_wp2_with fail
 refine (each_list _ _ s 9 _ hs isDigit_pred).mono ?_
 rintro e w' ⟨rfl,rfl⟩
 cases hp:eachL digitB (bs s) 9
 ·go_wp2
  go_ret2
  refine⟨?_,Ext.refl _⟩
  have h1:numOk (bs s)=false:=by rw[numOk,hp];rfl
  rw[numV,h1]
  rfl
 ·have h0:=eachL_pos hp
  have hh:=head_bs s h0
  have HH:=Hy hh
  clear hh
  have hok:numOk (bs s)=true->numV (bs s)=(decVal (bs s):Nat)∧Lib.atoiAll (bs s)=.ok ((decVal (bs s):Nat):Int):=fun h=>by
   obtain⟨d1,d2,d3⟩:=eachL_digits hp
   exact⟨by rw[numV,if_pos h],atoi_digits _ d1 d2 (by omega)⟩
  have HOK:=Hy hok
  clear hok
  go_wp2_with fail
  ·go_ret2
   refine⟨?_,Ext.refl _⟩
   have h1:numOk (bs s)=false:=no_bad HH.out (by assumption) (by assumption)
   rw[numV,h1]
   rfl
  ·have hN:numOk (bs s)=true:=no_good1 hp (by assumption)
   have HN:=Hy hN
   clear hN
   refine (atoi_any s _ hg hs).mono ?_
   rintro e w1 ⟨v,ev,rfl,hx1,hv,hev⟩
   obtain⟨rfl,rfl⟩:=hv _ (HOK.out HN.out).2
   have hV:=(HOK.out HN.out).1
   have HV:=Hy hV
   clear hV hv hev
   go_wp2_with fail
   refine wp_region_ext (by kernel_rfl) (by kernel_rfl) ?_
   repeat (first|go_big_quiet_skip|(refine wpQuiet_step (fun K hK=>?_);go_simp;first|(refine hK _ ?_;clear hK K)|(apply Exists.intro;refine⟨fun wq hwq=>?_,hK _ ?_⟩;(obtain⟨hqc,hqf⟩:=hwq.cells;have hqs:=hwq.size;(try go_simp);first|rfl|((first|rw[if_neg (by omega)]|rw[if_pos (by omega)]);(try go_simp);rfl)|((fail)));clear hK K)))
   refine wpQuiet_nil ?_
   intro wN hxN
   obtain⟨hcN,hfN⟩:=hxN.cells
   have hsN:=hxN.size
   go_wp2
   go_ret2
   refine⟨?_,hx1.trans hxN⟩
   rw[HV.out,HN.out]
   rfl
  ·have hN:numOk (bs s)=true:=no_good2 hp HH.out (by assumption)
   have HN:=Hy hN
   clear hN
   refine (atoi_any s _ hg hs).mono ?_
   rintro e w1 ⟨v,ev,rfl,hx1,hv,hev⟩
   obtain⟨rfl,rfl⟩:=hv _ (HOK.out HN.out).2
   have hV:=(HOK.out HN.out).1
   have HV:=Hy hV
   clear hV hv hev
   go_wp2_with fail
   refine wp_region_ext (by kernel_rfl) (by kernel_rfl) ?_
   repeat (first|go_big_quiet_skip|(refine wpQuiet_step (fun K hK=>?_);go_simp;first|(refine hK _ ?_;clear hK K)|(apply Exists.intro;refine⟨fun wq hwq=>?_,hK _ ?_⟩;(obtain⟨hqc,hqf⟩:=hwq.cells;have hqs:=hwq.size;(try go_simp);first|rfl|((first|rw[if_neg (by omega)]|rw[if_pos (by omega)]);(try go_simp);rfl)|((fail)));clear hK K)))
   refine wpQuiet_nil ?_
   intro wN hxN
   obtain⟨hcN,hfN⟩:=hxN.cells
   have hsN:=hxN.size
   go_wp2
   go_ret2
   refine⟨?_,hx1.trans hxN⟩
   rw[HV.out,HN.out]
   rfl
end
section
open Go.RowKit
theorem u8_all (p:UInt8->Bool) (h:(List.range 256).all (fun n=>p (UInt8.ofNat n))=true) (c:UInt8):p c=true:=by
 have h1:=List.all_eq_true.1 h c.toNat (List.mem_range.2 c.toNat_lt)
 simpa using h1
def ofL (l cs:Str):Bool:=l.all (cs.contains ·)
theorem indexByte_out {c:UInt8} {l:Str} (h:l.contains c=false):Lib.indexByte l c < 0:=by
 rw[indexByte_none c l (by simpa using h)];decide
theorem indexByte_in {c:UInt8} {l:Str} (h:l.contains c=true):¬ Lib.indexByte l c < 0:=by
 rcases first_cut c l with h1|⟨a,r,ha,rfl⟩
 ·exact absurd h (by simpa using h1)
 ·rw[indexByte_app c r a ha];omega
theorem trim_empty (l cs:Str) (h:ofL l cs=true):Lib.trimS l cs=[]:=by
 unfold Lib.trimS Lib.trimRightS Lib.trimLeftS
 have h1:∀ x∈l.reverse,cs.contains x=true:=fun x hx=>by
  have:=List.all_eq_true.1 h x (by simpa using hx)
  exact this
 rw[(while_all (fun x=>cs.contains x) l.reverse h1).2]
 rfl
set_option maxHeartbeats 400000 in
theorem inner_any (s cs:ByteArray) (w:World) (hs:s.size<=2097152) :
 Calls Tryz.prog 147 #[.string s,.string cs] w fun e w'=>e=.returned (.bool (ofL (bs s) (bs cs)))∧w=w':=by
 go_enter Tryz.func147,Tryz.ntmps147
 go_wp2
 go_loop [8] (fun i=>∃ k:Nat,k<=s.size∧i=.int .i64 k∧(s.data.toList.take k).all (fun c=>(bs cs).contains c)=true) (fun i=>s.size - (intOf i).toNat)
 case atStart=>exact⟨0,Nat.zero_le _,rfl,by simp⟩
 case round =>
  obtain⟨k,hk,rfl,hall⟩:=hrel
  have HALL:=Hy hall
  clear hall
  by_cases hlt:k < s.size
  ·have hfa:=all_false_of (fun c=>(bs cs).contains c) s k hlt
   have hsu:=all_take_succ (fun c=>(bs cs).contains c) s k hlt
   have HFA:=Hy hfa
   have HSU:=Hy hsu
   clear hfa hsu
   go_wp2_with fail
   refine (indexByte_any cs s[k] _).mono ?_
   rintro e w' ⟨rfl,rfl⟩
   cases hp:(bs cs).contains s[k]
   ·have hn:=indexByte_out hp
    have HP:=Hy hp
    clear hp
    go_wp2
    go_ret
    refine⟨ret_bool ?_,rfl⟩
    unfold ofL
    exact (HFA.out HP.out).symm
   ·have hn:=indexByte_in hp
    have HP:=Hy hp
    clear hp
    go_wp2
    go_round
    case rel=>exact⟨k+1,by omega,by go_num,by rw[HSU.out,HALL.out,HP.out];rfl⟩
    case measure=>simp[intOf];omega
  ·obtain rfl:k=s.size:=by omega
   go_wp2
   go_ret
   refine⟨ret_bool ?_,rfl⟩
   rw[take_size] at HALL
   exact HALL.out.symm
def asciiB (l:Str):Bool:=l.all fun c=>decide (c.toNat < 128)
theorem ascii_at {l:Str} (h:asciiB l=true):∀ (j:Nat) b,l[j]?=some b->b.toNat < 128:=fun j b hb=>by
 have:=List.all_eq_true.1 h b (List.mem_of_getElem? hb)
 simpa using this
set_option maxHeartbeats 400000 in
theorem Of_any (s cs:ByteArray) (w:World) (hs:s.size<=2097152) (hcs:cs.size<=1000) (ha:asciiB (bs cs)=true) :
 Calls Tryz.prog 71 #[.string s,.string cs] w fun e w'=>e=.returned (.bool (ofL (bs s) (bs cs)))∧Ext w w':=by
 have hasc:=ascii_at ha
 have HASC:=Hy hasc
 clear hasc
 go_enter Tryz.func71,Tryz.ntmps71
 go_wp2_with fail
 refine (trim_any s cs _ hs hcs HASC.out).mono ?_
 rintro e w1 ⟨rfl,hx1⟩
 by_cases ht:Lib.trimS (bs s) (bs cs)=[]
 ·have HT:=Hy ht
  rw[ht]
  clear ht
  go_wp2_with fail
  refine (inner_any s cs _ hs).mono ?_
  rintro e w' ⟨rfl,rfl⟩
  go_wp2
  go_ret
  exact⟨rfl,hx1⟩
 ·have hf:ofL (bs s) (bs cs)=false:=by
   cases h:ofL (bs s) (bs cs)
   ·rfl
   ·exact absurd (trim_empty _ _ h) ht
  have HF:=Hy hf
  clear hf
  go_wp2
  go_ret
  exact⟨ret_bool HF.out.symm,hx1⟩
def smallS:Str:=[97,98,99,100,101,102,103,104,105,106,107,108,109,110,111,112,113,114,115,116,117,118,119,120,121,122]
def greatS:Str:=[65,66,67,68,69,70,71,72,73,74,75,76,77,78,79,80,81,82,83,84,85,86,87,88,89,90]
def digitS:Str:=[48,49,50,51,52,53,54,55,56,57]
theorem small_set (c:UInt8):smallS.contains c=smallB c:=eq_of_beq (u8_all (fun c=>smallS.contains c==smallB c) (by decide +kernel) c)
theorem digit_set (c:UInt8):digitS.contains c=digitB c:=eq_of_beq (u8_all (fun c=>digitS.contains c==digitB c) (by decide +kernel) c)
theorem word_set (c:UInt8):(smallS++digitS).contains c=wordB c:=eq_of_beq (u8_all (fun c=>(smallS++digitS).contains c==wordB c) (by decide +kernel) c)
theorem name_set (c:UInt8):(smallS++digitS++[45,46]).contains c=nameB c:=eq_of_beq (u8_all (fun c=>(smallS++digitS++[45,46]).contains c==nameB c) (by decide +kernel) c)
theorem part_set (c:UInt8):(smallS++greatS++digitS++[45,46,95]).contains c=partB c:=eq_of_beq (u8_all (fun c=>(smallS++greatS++digitS++[45,46,95]).contains c==partB c) (by decide +kernel) c)
theorem of_set {p:UInt8->Bool} {cs:Str} (h:∀ c,cs.contains c=p c) (l:Str):ofL l cs=l.all p:=by
 unfold ofL
 congr 1
 funext c
 exact h c
theorem of_name (s:ByteArray) (w:World) (hs:s.size<=2097152) :
 Calls Tryz.prog 71 #[.string s,.string ⟨#[97,98,99,100,101,102,103,104,105,106,107,108,109,110,111,112,113,114,115,116,117,118,119,120,121,122,48,49,50,51,52,53,54,55,56,57,45,46]⟩] w fun e w'=>e=.returned (.bool ((bs s).all nameB))∧Ext w w' :=
 (Of_any s ⟨#[97,98,99,100,101,102,103,104,105,106,107,108,109,110,111,112,113,114,115,116,117,118,119,120,121,122,48,49,50,51,52,53,54,55,56,57,45,46]⟩ w hs (by decide) (by decide)).mono fun _ _ ⟨h,k⟩=>⟨by rw[h];exact ret_bool (of_set name_set (bs s)),k⟩
theorem of_small (s:ByteArray) (w:World) (hs:s.size<=2097152) :
 Calls Tryz.prog 71 #[.string s,.string ⟨#[97,98,99,100,101,102,103,104,105,106,107,108,109,110,111,112,113,114,115,116,117,118,119,120,121,122]⟩] w fun e w'=>e=.returned (.bool ((bs s).all smallB))∧Ext w w' :=
 (Of_any s ⟨#[97,98,99,100,101,102,103,104,105,106,107,108,109,110,111,112,113,114,115,116,117,118,119,120,121,122]⟩ w hs (by decide) (by decide)).mono fun _ _ ⟨h,k⟩=>⟨by rw[h];exact ret_bool (of_set small_set (bs s)),k⟩
theorem of_digit (s:ByteArray) (w:World) (hs:s.size<=2097152) :
 Calls Tryz.prog 71 #[.string s,.string ⟨#[48,49,50,51,52,53,54,55,56,57]⟩] w fun e w'=>e=.returned (.bool ((bs s).all digitB))∧Ext w w' :=
 (Of_any s ⟨#[48,49,50,51,52,53,54,55,56,57]⟩ w hs (by decide) (by decide)).mono fun _ _ ⟨h,k⟩=>⟨by rw[h];exact ret_bool (of_set digit_set (bs s)),k⟩
theorem of_word (s:ByteArray) (w:World) (hs:s.size<=2097152) :
 Calls Tryz.prog 71 #[.string s,.string ⟨#[97,98,99,100,101,102,103,104,105,106,107,108,109,110,111,112,113,114,115,116,117,118,119,120,121,122,48,49,50,51,52,53,54,55,56,57]⟩] w fun e w'=>e=.returned (.bool ((bs s).all wordB))∧Ext w w' :=
 (Of_any s ⟨#[97,98,99,100,101,102,103,104,105,106,107,108,109,110,111,112,113,114,115,116,117,118,119,120,121,122,48,49,50,51,52,53,54,55,56,57]⟩ w hs (by decide) (by decide)).mono fun _ _ ⟨h,k⟩=>⟨by rw[h];exact ret_bool (of_set word_set (bs s)),k⟩
theorem of_part (s:ByteArray) (w:World) (hs:s.size<=2097152) :
 Calls Tryz.prog 71 #[.string s,.string ⟨#[97,98,99,100,101,102,103,104,105,106,107,108,109,110,111,112,113,114,115,116,117,118,119,120,121,122,65,66,67,68,69,70,71,72,73,74,75,76,77,78,79,80,81,82,83,84,85,86,87,88,89,90,48,49,50,51,52,53,54,55,56,57,45,46,95]⟩] w fun e w'=>e=.returned (.bool ((bs s).all partB))∧Ext w w' :=
 (Of_any s ⟨#[97,98,99,100,101,102,103,104,105,106,107,108,109,110,111,112,113,114,115,116,117,118,119,120,121,122,65,66,67,68,69,70,71,72,73,74,75,76,77,78,79,80,81,82,83,84,85,86,87,88,89,90,48,49,50,51,52,53,54,55,56,57,45,46,95]⟩ w hs (by decide) (by decide)).mono fun _ _ ⟨h,k⟩=>⟨by rw[h];exact ret_bool (of_set part_set (bs s)),k⟩
theorem head_take (s:ByteArray) (h:0 < s.size):bs (s.extract 0 1)=[s[0]]:=by
 have h1:s.data.toList[0]?=some s[0]:=Lib.data_getElem? s 0 h
 unfold bs
 rw[Lib.extract_data]
 cases hl:s.data.toList with
 | nil=>rw[hl] at h1;cases h1
 | cons x r=>rw[hl] at h1;simp at h1;simp[h1]
set_option maxHeartbeats 1000000 in
theorem NameOf_any (s:ByteArray) (w:World) (hs:s.size<=2097152) :
 Calls Tryz.prog 19 #[.string s] w fun e w'=>e=.returned (.bool (nameL (bs s)))∧Ext w w':=by
 go_enter Tryz.func19,Tryz.ntmps19
 rcases Nat.eq_zero_or_pos s.size with h0|h0
 ·have hi:=emp_bool h0
  go_wp2
  go_ret
  exact⟨ret_bool (by rw[bs_nil h0];rfl),Ext.refl _⟩
 ·have hi:=nemp_bool h0
  by_cases h40:s.size<=40
  ·have he:eachL nameB (bs s) 40=(bs s).all nameB:=by
    unfold eachL
    rw[bs_length,decide_eq_true h0,decide_eq_true h40,Bool.and_true,Bool.and_true]
   have hh:=head_bs s h0
   have ht:=head_take s h0
   have HE:=Hy he
   have HH:=Hy hh
   have HT:=Hy ht
   clear he hh ht
   go_wp2_with fail
   refine (of_name s _ hs).mono ?_
   rintro e w1 ⟨rfl,hx1⟩
   cases hn:(bs s).all nameB
   ·have HN:=Hy hn
    clear hn
    go_wp2
    go_ret
    exact⟨ret_bool (by rw[nameL,HE.out,HN.out];rfl),hx1⟩
   ·have HN:=Hy hn
    clear hn
    have hsz:(s.extract 0 1).size<=2097152:=by rw[<-bs_length,HT.out];simp
    go_wp2_with fail
    refine (of_small _ _ hsz).mono ?_
    rintro e w2 ⟨rfl,hx2⟩
    rw[HT.out]
    go_wp2
    go_ret
    exact⟨ret_bool (by rw[nameL,HE.out,HN.out,HH.out];simp),hx1.trans hx2⟩
  ·have hn:nameL (bs s)=false:=by
    have:eachL nameB (bs s) 40=false:=by
     unfold eachL
     rw[bs_length,decide_eq_false h40];simp
    rw[nameL,this];rfl
   have HN:=Hy hn
   clear hn
   go_wp2
   go_ret
   exact⟨ret_bool HN.out.symm,Ext.refl _⟩
theorem partL_eq (l:Str):partL l=((l != [])&&(l != [46])&&(l != [46,46])&&decide (l.length<=40)&&l.all partB):=by
 unfold partL eachL
 cases l with
 | nil=>simp
 | cons x r =>
   have:decide (0 < (x::r).length)=true:=by simp
   rw[this]
   have h2:((x::r) != ([]:Str))=true:=rfl
   rw[h2]
   generalize (x::r).all partB=a
   generalize decide ((x::r).length<=40)=b
   generalize ((x::r) != [46])=c
   generalize ((x::r) != [46,46])=d
   cases a<;>cases b<;>cases c<;>cases d<;>rfl
theorem tl_beq (s:ByteArray) (l:Str):(s.toList==l)=(bs s==l):=by rw[ByteArray.toList_eq]
set_option maxHeartbeats 2000000 in
theorem PathOf_any (s:ByteArray) (w:World) (hg:Good w) (hs:s.size<=2097152) :
 Calls Tryz.prog 21 #[.string s] w fun e w'=>e=.returned (.bool (pathL (bs s)))∧Ext w w':=by
 go_enter Tryz.func21,Tryz.ntmps21
 by_cases h200:200 < s.size
 ·have hn:pathL (bs s)=false:=by
   unfold pathL
   rw[bs_length,decide_eq_false (by omega)];simp
  have HN:=Hy hn
  clear hn
  go_wp2
  go_ret
  exact⟨ret_bool HN.out.symm,Ext.refl _⟩
 go_wp2_with fail
 refine (split_any 47 s _ hg hs).mono ?_
 rintro e w1 ⟨b,xs,rfl,hb0,hst,hxs,hx⟩
 have HXS:=Hy hxs
 have hcell:=hst.cell
 have HC:=Hy hcell
 clear hcell
 have hlen:=pieces_le hxs
 clear hxs
 go_wp2
 go_loopw [11] (fun i wr=>∃ k:Nat,k<=xs.length∧i=.int .i64 k∧(xs.take k).all (fun x=>partL (bs x))=true∧Ext w1 wr) (fun i _=>xs.length - (intOf i).toNat)
 case atStart=>exact⟨0,Nat.zero_le _,rfl,by simp,Ext.refl _⟩
 case round =>
  obtain⟨k,hk,rfl,hall,hxr⟩:=hrel
  have HALL:=Hy hall
  clear hall
  by_cases hlt:k < xs.length
  ·have hk1:=hxr.cell (HC.out k hlt)
   have hsz:=piece_le HXS.out hlt
   have hne:=allS_false partL xs k hlt
   have HNE:=Hy hne
   clear hne
   have hsu:=allS_succ partL xs k hlt HALL.out
   have HSU:=Hy hsu
   clear hsu
   generalize xs[k]=x at *
   have hpl:=partL_eq (bs x)
   have HPL:=Hy hpl
   clear hpl
   have hbad:partL (bs x)=false->pathL (bs s)=false:=fun h=>by
    unfold pathL
    rw[<-HXS.out,HNE.out h];rfl
   have HBAD:=Hy hbad
   clear hbad
   cases e1:(bs x==([]:Str))
   rotate_left
   ·have hz:x.size=0:=by rw[<-bs_length,eq_of_beq e1];rfl
    have hi:=emp_bool hz
    have HP:=Hy (HBAD.out (by rw[HPL.out,bne,e1];rfl))
    clear e1
    go_wp2
    go_ret
    exact⟨ret_bool HP.out.symm,hx.trans hxr⟩
   have hz:0 < x.size:=by
    rcases Nat.eq_zero_or_pos x.size with h|h
    ·rw[bs_nil h] at e1;cases e1
    ·exact h
   have hi:=nemp_bool hz
   cases e2:(bs x==[46])
   rotate_left
   ·have t2:(x.toList==[46])=true:=by rw[tl_beq];exact e2
    have HP:=Hy (HBAD.out (by rw[HPL.out,bne,bne,e2];simp))
    clear e1 e2
    go_wp2
    go_ret
    exact⟨ret_bool HP.out.symm,hx.trans hxr⟩
   have t2:(x.toList==[46])=false:=by rw[tl_beq];exact e2
   cases e3:(bs x==[46,46])
   rotate_left
   ·have t3:(x.toList==[46,46])=true:=by rw[tl_beq];exact e3
    have HP:=Hy (HBAD.out (by rw[HPL.out,bne,bne,bne,e3];simp))
    clear e1 e2 e3
    go_wp2
    go_ret
    exact⟨ret_bool HP.out.symm,hx.trans hxr⟩
   have t3:(x.toList==[46,46])=false:=by rw[tl_beq];exact e3
   by_cases h40:40 < x.size
   ·have HP:=Hy (HBAD.out (by rw[HPL.out,bs_length,decide_eq_false (by omega:¬ x.size<=40)];simp))
    clear e1 e2 e3
    go_wp2
    go_ret
    exact⟨ret_bool HP.out.symm,hx.trans hxr⟩
   have hgood:partL (bs x)=(bs x).all partB:=by
    rw[HPL.out,bne,bne,bne,e1,e2,e3,bs_length,decide_eq_true (by omega:x.size<=40)];simp
   have HG:=Hy hgood
   clear hgood e1 e2 e3
   go_wp2_with fail
   refine (of_part x _ (by omega)).mono ?_
   rintro e w2 ⟨rfl,hx2⟩
   cases hn:(bs x).all partB
   ·have HP:=Hy (HBAD.out (HG.out.trans hn))
    clear hn
    go_wp2
    go_ret
    exact⟨ret_bool HP.out.symm,(hx.trans hxr).trans hx2⟩
   ·have HP:=Hy (HG.out.trans hn)
    clear hn
    go_wp2
    go_roundw
    case rel=>exact⟨k+1,by omega,by go_num,HSU.out HP.out,hxr.trans hx2⟩
    case measure=>simp[intOf];omega
  ·obtain rfl:k=xs.length:=by omega
   go_wp2
   go_ret
   refine⟨ret_bool ?_,hx.trans hxr⟩
   unfold pathL
   rw[<-HXS.out,allS_true partL xs HALL.out,bs_length]
   simp
   omega
end
section
open Go.ChangeShapes Go.WideShapes Go.ChangeAt Go.RowKit Go.WideElems
theorem own:ownKnob Tryz.prog.godebug=none:=by kernel_rfl
theorem laidOut:laidOutB Tryz.prog=true:=by kernel_rfl
theorem stays {H:Type} {enc:TypeId × Value->H} {W W':World} {sp:Nat->Bool}:∀ (ts:List TypeId) (vs:List Value) (ds:List (DataW H)) (ps:List MemPlace),
 (∀ t∈ts,Tryz.prog.readableRec t=true∧t < Tryz.prog.types.size)->DataW.TrodAll enc Tryz.prog W 0 (fun _=>true) true ts vs ds ps->(∀ p∈ps,W.sameAt W' p)->(∀ p∈ps,sp p.block=true) ->
 DataW.TrodAll enc Tryz.prog W' 0 sp true ts vs ds ps
 | [],vs,ds,ps,_,h,_,_=>by
   obtain⟨rfl,rfl,rfl⟩:=trodAll_nil h
   exact trodAll_mk0
 | t::ts,vs,ds,ps,hr,h,hs,hp=>by
   obtain⟨v0,vs0,d0,ds0,p0,q0,rfl,rfl,rfl,h0,r0⟩:=trodAll_cons h
   exact trodAll_cons_mk (Trod_stays laidOut (hr t (by simp)).1 (hr t (by simp)).2 h0 (fun p hm=>hs p (List.mem_append_left _ hm)) (fun p hm=>hp p (List.mem_append_left _ hm)))
    (stays ts vs0 ds0 q0 (fun t ht=>hr t (by simp[ht])) r0 (fun p hm=>hs p (List.mem_append_right _ hm)) (fun p hm=>hp p (List.mem_append_right _ hm)))
set_option maxRecDepth 100000 in
theorem post_true {H:Type} {enc:TypeId × Value->H} {f:Func} {s:ChangeSpec} {apart fresh handsOn again:Bool} {W W':World} {args:Array Value} {ds gs:List (DataW H)} {before:List MemPlace}
 (hW:DataW.Whole enc Tryz.prog f.params.toList s.vars apart W args.toList ds gs before) (hvars:s.vars=[]) (hrt:f.resultTypes=#[4])
 (hr:∀ t∈f.params.toList,Tryz.prog.readableRec t=true∧t < Tryz.prog.types.size)
 (hres:(s.fn H (ds++gs)).results=[.lit (.bool true)]) (hargs:(s.fn H (ds++gs)).args=ds) (hv:(s.fn H (ds++gs)).vars=[]) (hb:Ext W W') :
 s.post enc Tryz.prog f apart fresh handsOn again W args (.bool true) W':=by
 have hlt:∀ p∈before,p.block < W.heap.size:=fun p hp=>hW.lt p hp
 have hW':=hW
 obtain⟨p,q,hA,hV,rfl,hz,hn⟩:=hW'
 rw[hvars] at hV
 obtain⟨rfl,rfl⟩:=trodVars_none hV
 have hsame:∀ x∈p,W.sameAt W' x:=fun x hx=>Below.same hb (hlt x (by simp[hx]))
 have hT:∀ sp:Nat->Bool,(∀ x∈p++[],sp x.block=true)->DataW.TrodAll enc Tryz.prog W' 0 sp true f.params.toList args.toList (s.fn H (ds++[])).args p:=fun sp hs=>by
  rw[hargs]
  exact stays _ _ _ _ hr hA hsame (fun x hx=>hs x (by simp[hx]))
 have hR:∀ (b:Nat) (sp:Nat->Bool) (hd:Bool),DataW.TrodAll enc Tryz.prog W' b sp hd f.resultTypes.toList ((Value.bool true).resultList f.resultTypes.size) (s.fn H (ds++[])).results []:=fun b sp hd=>by
  rw[hres,hrt]
  exact trodAll_mk1 (shut_bool Tryz.underlying4 true)
 have hVV:∀ sp:Nat->Bool,DataW.TrodVars enc Tryz.prog W' sp s.vars (s.fn H (ds++[])).vars []:=fun sp=>by
  rw[hvars,hv]
  exact rfl
 refine⟨ds,[],p++[],[],p,[],hW,hR _ _ _,hT _ (fun x hx=>by simpa using hlt x hx),hVV _,World.keptBut_mono (fun x hx=>⟨hx,.inr (by simpa using hx)⟩) (Below.frame hb (·∈p++[])),fun _=>?_⟩
 refine⟨?_,_,_,([]++p)++[],⟨[]++p,[],trodAll_append (hT _ (fun _ _=>rfl)) (hR _ _ _),hVV _,rfl,?_,?_⟩,?_⟩
 ·intro j t r h1 h2
  rw[hrt] at h1 h2
  match j with
  | 0 =>
    obtain rfl:4=t:=by simpa using h1
    obtain rfl:Value.bool true=r:=by simpa [Value.resultList] using h2
    exact okWide_bool_mk Tryz.underlying4 true
  | j+1=>simp at h1
 ·intro b off hp
  have hin:MemPlace.cell b off∈p++[]:=by simpa using hp
  rw[Below.frozen hb (hlt _ hin)]
  exact hz b off hin
 ·intro ha
  simpa using hn ha
 ·intro x hx _
  simpa using hx
end
section
open Go.RowKit
section
variable {w w' a:World} {B:Nat} {e:TypeId} {size n:Nat} {v:Value} {xs:List Value}
theorem own_ext (h:w.ownsRow B e size v n xs) (hx:Ext w w'):w'.ownsRow B e size v n xs :=
 h.kept (row:=none) ⟨hx.os,hx.tape,hx.output,hx.size,fun k hk _=>hx.block k hk⟩ (by cases hv:v.ownBlock<;>simp)
theorem Ext.grown (h:Ext a w) (hown:w.ownsRow B e size v n xs) (hB:a.heap.size<=B) (hg:w.grownBy w' v.ownBlock):Ext a w' :=
 Below.grown h hg h.size (fun k hk=>Nat.le_trans hB (hown.lt k hk).1)
theorem Blk.grown {g:Nat} {t:TypeId} {cs:Array Value} (h:Blk w g t cs) (hown:w.ownsRow B e size v n xs) (hB:g < B) (hg:w.grownBy w' v.ownBlock):Blk w' g t cs :=
 (hg.block g h.lt (fun he=>by have:=(hown.lt g he.symm).1;omega)).trans h
theorem own_form (h:w.ownsRow B e size v n xs) (h0:0 < n):∃ g c,v=.slice (some ⟨g,0,none⟩) n c∧g < w.heap.size∧B<=g∧n<=c∧∀ j u,xs[j]?=some u->w.cell? ⟨g,j,none⟩=some u:=by
 have hh:=h
 rcases h.2 with ⟨rfl,h1⟩|⟨g,cap,cur,rfl,hb,hgg,hnc,_⟩
 ·omega
 ·refine⟨g,cap,rfl,(hh.lt g rfl).2,hb,hnc,fun j u hu=>?_⟩
  have:=hh.cells (g:=g) rfl j u hu
  have hadd:(⟨g,0,none⟩:Addr).add j=⟨g,j,none⟩:=by unfold Addr.add;split<;>simp_all
  rwa [hadd] at this
end
section
variable {P:Program}
theorem wpList_app1 {ops:Array Oper} {rest:List Oper} {o:Oper} {a:Act} {Q:Exit->Act->World->Prop} (wr:World) (cs:Array Value) (e:TypeId) (hgd:o.guard=none) (s x:Operand) (t:TypeId)
 (ho:o.op=.call { callee:=.builtin .append,args:=#[s,x],argTypes:=#[t,t] })
 (z:Value) (size bytes:Nat) (ht:P.underlying t=some (.slice e)) (hinfo:(P.info? e).map (fun i=>(i.zero,i.size,i.bytes))=some (some z,size,bytes)) (hzs:z.cells.size=size) (hsz:0 < size) (hby:bytes<=1000)
 (B:Nat) (v:Value) (n:Nat) (xs:List Value) (hs:a.eval s=v) (hown:wr.ownsRow B e size v n xs)
 (c:Nat) (hx:a.eval x=.slice (some ⟨wr.heap.size,0,none⟩) 1 c) (hcs:cs.size=size) (h1:∀ u∈cs.toList,u.oneCell'=true) (hn:n<=100000000) (hbase:B<=wr.heap.size)
 (h:∀ v' w',w'.ownsRow B e size v' (n+1) (xs++cs.toList)->(∀ a',Ext a' wr->a'.heap.size<=B->Ext a' w')->(∀ g t' ds,Blk wr g t' ds->g < B->Blk w' g t' ds)->wpList P ops Q rest (a.put o.dst v') w') :
 wpList P ops Q (o::rest) a (wr.alloc (.cells cs e)):=by
 obtain⟨i,hi,hz0,hz1,hz2⟩:=info_parts hinfo
 have hnew:=Blk.new wr e cs
 refine wpList_append_own (wr.alloc (.cells cs e)) hgd s x t ho B e i z size bytes ht hi hz0 hz1 hz2 hzs hsz v n xs hs (hown.alloc _) ⟨wr.heap.size,0,none⟩ 1 c cs.toList hx (by simp[hcs]) ?_ h1 ?_ ?_ (by simp;omega) ?_
 ·intro j u hu
  have hadd:(⟨wr.heap.size,0,none⟩:Addr).add j=⟨wr.heap.size,j,none⟩:=by unfold Addr.add;split<;>simp_all
  rw[hadd,hnew.cell]
  simpa using hu
 ·simp only[maxLen];omega
 ·have:(n+1) * bytes<=100000001 * 1000:=Nat.mul_le_mul (by omega) hby
  omega
 ·intro v' w' hown' hg _
  refine h v' w' hown' (fun a' ha hB=>?_) (fun g t' ds hb hlt=>?_)
  ·exact (ha.alloc _).grown (hown.alloc _) hB hg
  ·exact (hb.alloc _).grown (hown.alloc _) hlt hg
theorem wpList_app1g {ops:Array Oper} {rest:List Oper} {o:Oper} {a:Act} {Q:Exit->Act->World->Prop} (wr:World) (cs:Array Value) (e:TypeId) (hgd:o.guard=none) (s x:Operand) (t:TypeId)
 (ho:o.op=.call { callee:=.builtin .append,args:=#[s,x],argTypes:=#[t,t] })
 (z:Value) (size bytes:Nat) (ht:P.underlying t=some (.slice e)) (hinfo:(P.info? e).map (fun i=>(i.zero,i.size,i.bytes))=some (some z,size,bytes)) (hzs:z.cells.size=size) (hsz:0 < size) (hby:bytes<=1000)
 (B:Nat) (v:Value) (n:Nat) (xs:List Value) (hs:a.eval s=v) (hown:wr.ownsRow B e size v n xs)
 (c gA:Nat) (hx:a.eval x=.slice (some ⟨gA,0,none⟩) 1 c) (hgA:wr.heap.size=gA) (hcs:cs.size=size) (h1:∀ u∈cs.toList,u.oneCell'=true) (hn:n<=100000000) (hbase:B<=wr.heap.size)
 (h:∀ v' w',w'.ownsRow B e size v' (n+1) (xs++cs.toList)->(∀ a',Ext a' wr->a'.heap.size<=B->Ext a' w')->(∀ g t' ds,Blk wr g t' ds->g < B->Blk w' g t' ds)->wpList P ops Q rest (a.put o.dst v') w') :
 wpList P ops Q (o::rest) a (wr.alloc (.cells cs e)) :=
 wpList_app1 wr cs e hgd s x t ho z size bytes ht hinfo hzs hsz hby B v n xs hs hown c (by rw[hgA];exact hx) hcs h1 hn hbase h
end
theorem info_string:(Tryz.prog.info? 9).map (fun i=>(i.zero,i.size,i.bytes))=some (some (.string ⟨#[]⟩),1,16):=by kernel_rfl
theorem join_len:∀ (L:List Str) (sep:Str) (m:Nat),(∀ p∈L,p.length<=m)->(Lib.join L sep).length<=L.length * (m+sep.length)
 | [],sep,m,_=>by simp[Lib.join_nil]
 | x::r,sep,m,h=>by
   have hx:=h x (by simp)
   have hl:∀ r:List Str,(∀ p∈r,p.length<=m)->Lib.lens r<=r.length * m:=fun r=>by
    induction r with
    | nil=>intro _;simp[Lib.lens]
    | cons y t ih =>
      intro hr
      have h1:=ih (fun p hp=>hr p (List.mem_cons_of_mem _ hp))
      have h2:=hr y (by simp)
      unfold Lib.lens at h1 ⊢
      rw[List.map_cons,List.sum_cons,List.length_cons,Nat.add_mul]
      omega
   have h3:=hl (x::r) h
   rw[Lib.join_length,Nat.mul_add,List.length_cons] at *
   rw[Nat.mul_comm sep.length]
   have:r.length * sep.length<=(r.length+1) * sep.length:=Nat.mul_le_mul_right _ (by omega)
   omega
theorem join_own {B:Nat} {v:Value} {n:Nat} {L:List Str} (sep:ByteArray) (w:World) (h:w.ownsRow B 9 1 v n (L.map S)) (hn:L.length=n) (h0:0 < n) (hl:n<=100000000) (hlen:(Lib.join L (bs sep)).length<=100000000) :
 Calls Tryz.prog 91 #[v,.string sep] w fun e w'=>e=.returned (S (Lib.join L (bs sep)))∧Ext w w':=by
 obtain⟨g,c,rfl,hg,_,hc,hcell⟩:=own_form h h0
 have hm:((L.map fun l=>(⟨l.toArray⟩:ByteArray)).map (·.data.toList))=L:=by
  rw[List.map_map]
  exact List.map_id'' (fun l=>by simp) L
 subst hn
 have key:=Tryz.strings_Join g 0 c (L.map fun l=>(⟨l.toArray⟩:ByteArray)) sep w (fun j x hx=>by
  rw[Nat.zero_add]
  refine hcell j _ ?_
  rw[List.getElem?_map] at hx ⊢
  cases hL:L[j]? with
  | none=>rw[hL] at hx;cases hx
  | some l=>rw[hL] at hx;simp only[Option.map_some] at hx ⊢;injection hx with hx;rw[<-hx]) hg (by simp;omega) (by simpa using hc) (by rw[hm];exact Nat.le_trans hlen (by decide))
 rw[hm,List.length_map] at key
 exact key
end
end Go.Proofs.YtmnafaaijglnfaaGreatDoor
namespace Go.Proofs.YtmnafaaijglnfaaGreatDoor.listed
open Go.ChangeShapes Go.WideShapes Go.ChangeAt Go.RowKit Go.WideElems Go.Joins
theorem star:"*"++"errors.errorString"="*errors.errorString":=by decide
theorem rowErr (u:TypeId) (h:Tryz.prog.typeName? 3 u=some "*errors.errorString"):u=301 :=
 typeName_ptr_named (nm:="errors.errorString") (by rw[star];kernel_rfl) (by kernel_rfl) (by decide) u (by rw[star];exact h)
theorem good {W:World} (hL:laidMetH Tryz.prog Rows.versionsMatchUptoRow.laid W) (hS:W.ShapedOpen Tryz.prog):GoodN W:=by
 have hL':laidMet Tryz.prog Rows.versionsMatchUptoRow.laid W:=hL
 have h1:laidMet Tryz.prog [("internal/strconv.uint64pow10",Rows.laid_internal_strconv_uint64pow10)] W:=hL'.filter (fun x=>x.1=="internal/strconv.uint64pow10")
 have h2:laidMet Tryz.prog [("strconv.ErrSyntax",Rows.laid_strconv_ErrSyntax)] W:=hL'.filter (fun x=>x.1=="strconv.ErrSyntax")
 have h3:laidMet Tryz.prog [("strconv.ErrRange",Rows.laid_strconv_ErrRange)] W:=hL'.filter (fun x=>x.1=="strconv.ErrRange")
 refine⟨⟨Tryz.laysM146.s1_3 W hS⟩,?_,?_,?_⟩
 ·exact Lib.tabIs_of_head (rest:=[]) (g:=3) (by kernel_rfl) (by kernel_rfl) Tryz.underlying298 Tryz.underlying165 (by kernel_rfl) (by kernel_rfl) h1
 ·obtain⟨a,s,hv,_⟩:=laid_sentinel (g:=1) h2 (by kernel_rfl) (by kernel_rfl) Tryz.underlying122 rowErr Tryz.underlying301 Tryz.underlying303 rfl rfl Tryz.underlying9 (by kernel_rfl) (by kernel_rfl)
  exact⟨_,_,hv⟩
 ·obtain⟨a,s,hv,_⟩:=laid_sentinel (g:=2) h3 (by kernel_rfl) (by kernel_rfl) Tryz.underlying122 rowErr Tryz.underlying301 Tryz.underlying303 rfl rfl Tryz.underlying9 (by kernel_rfl) (by kernel_rfl)
  exact⟨_,_,hv⟩
noncomputable def laidWorld (os:Os):World :=
 let N:=(World.settled Tryz.prog os).heap.size
 let w0:=World.holding Tryz.prog os ⟨#[.cells #[.string ⟨#[118,97,108,117,101,32,111,117,116,32,111,102,32,114,97,110,103,101]⟩] 303,.cells #[.string ⟨#[105,110,118,97,108,105,100,32,115,121,110,116,97,120]⟩] 303],#[],[]⟩
 let put (h:Array Obj) (g:Nat) (cs:Array Value):Array Obj:=h.modify g fun
  | .cells _ t frozen=>.cells cs t frozen
  | o=>o
 let h0:=put (put w0.heap 2 #[.iface 301 (.pointer (some ⟨N,0,none⟩))]) 1 #[.iface 301 (.pointer (some ⟨N+1,0,none⟩))]
 let h1:=put h0 4 (Go.Pinned.utf8FirstZ.map fun z:Nat=>Value.int .u8 (z:Int)).toArray
 let h2:=put h1 5 #[.int .u8 128,.int .u8 191,.int .u8 160,.int .u8 191,.int .u8 128,.int .u8 159,.int .u8 144,.int .u8 191,.int .u8 128,.int .u8 143,.int .u8 0,.int .u8 0,.int .u8 0,.int .u8 0,.int .u8 0,.int .u8 0,.int .u8 0,.int .u8 0,.int .u8 0,.int .u8 0,.int .u8 0,.int .u8 0,.int .u8 0,.int .u8 0,.int .u8 0,.int .u8 0,.int .u8 0,.int .u8 0,.int .u8 0,.int .u8 0,.int .u8 0,.int .u8 0]
 let h3:=put h2 6 #[.int .u8 0,.int .u8 1,.int .u8 28,.int .u8 2,.int .u8 29,.int .u8 14,.int .u8 24,.int .u8 3,.int .u8 30,.int .u8 22,.int .u8 20,.int .u8 15,.int .u8 25,.int .u8 17,.int .u8 4,.int .u8 8,.int .u8 31,.int .u8 27,.int .u8 13,.int .u8 23,.int .u8 21,.int .u8 19,.int .u8 16,.int .u8 7,.int .u8 26,.int .u8 12,.int .u8 18,.int .u8 6,.int .u8 11,.int .u8 5,.int .u8 10,.int .u8 9]
 let h4:=put h3 7 #[.int .u8 0,.int .u8 1,.int .u8 56,.int .u8 2,.int .u8 57,.int .u8 49,.int .u8 28,.int .u8 3,.int .u8 61,.int .u8 58,.int .u8 42,.int .u8 50,.int .u8 38,.int .u8 29,.int .u8 17,.int .u8 4,.int .u8 62,.int .u8 47,.int .u8 59,.int .u8 36,.int .u8 45,.int .u8 43,.int .u8 51,.int .u8 22,.int .u8 53,.int .u8 39,.int .u8 33,.int .u8 30,.int .u8 24,.int .u8 18,.int .u8 12,.int .u8 5,.int .u8 63,.int .u8 55,.int .u8 48,.int .u8 27,.int .u8 60,.int .u8 41,.int .u8 37,.int .u8 16,.int .u8 46,.int .u8 35,.int .u8 44,.int .u8 21,.int .u8 52,.int .u8 32,.int .u8 23,.int .u8 11,.int .u8 54,.int .u8 26,.int .u8 40,.int .u8 15,.int .u8 34,.int .u8 20,.int .u8 31,.int .u8 10,.int .u8 25,.int .u8 14,.int .u8 19,.int .u8 9,.int .u8 13,.int .u8 8,.int .u8 7,.int .u8 6]
 let h5:=put h4 3 #[.int .u64 1,.int .u64 10,.int .u64 100,.int .u64 1000,.int .u64 10000,.int .u64 100000,.int .u64 1000000,.int .u64 10000000,.int .u64 100000000,.int .u64 1000000000,.int .u64 10000000000,.int .u64 100000000000,.int .u64 1000000000000,.int .u64 10000000000000,.int .u64 100000000000000,.int .u64 1000000000000000,.int .u64 10000000000000000,.int .u64 100000000000000000,.int .u64 1000000000000000000,.int .u64 10000000000000000000]
 { w0 with heap:=h5 }
end Go.Proofs.YtmnafaaijglnfaaGreatDoor.listed
namespace Go.Proofs.YtmnafaaijglnfaaGreatDoor
section
def esc:Str->Str
 | []=>[]
 | c::r=>if c=34∨c=92 then 92::c::esc r else c::esc r
def quoteL (s:Str):Str:=34::(esc s++[34])
def unq (s:Str):Option (Str × Str) :=
 match s with
 | []=>none
 | c::r=>if c=34 then some ([],r) else if c=92 then
    (match r with
    | []=>none
    | d::q=>if d=34∨d=92 then (unq q).map fun x=>(d::x.1,x.2) else none)
   else (unq r).map fun x=>(c::x.1,x.2)
termination_by s.length
theorem unq_nil:unq []=none:=by unfold unq;rfl
theorem unq_end (r:Str):unq (34::r)=some ([],r):=by unfold unq;simp
theorem unq_back0:unq [92]=none:=by unfold unq;simp
theorem unq_two {d:UInt8} (h:d=34∨d=92) (q:Str):unq (92::d::q)=(unq q).map fun x=>(d::x.1,x.2):=by
 rw[unq]
 simp only[show ¬ (92:UInt8)=34 by decide,if_false,if_true,if_pos h]
theorem unq_bad {d:UInt8} (h:¬ (d=34∨d=92)) (q:Str):unq (92::d::q)=none:=by
 rw[unq]
 simp only[show ¬ (92:UInt8)=34 by decide,if_false,if_true,if_neg h]
theorem unq_one {c:UInt8} (h1:¬ c=34) (h2:¬ c=92) (r:Str):unq (c::r)=(unq r).map fun x=>(c::x.1,x.2):=by
 rw[unq.eq_def]
 simp only[if_neg h1,if_neg h2]
theorem unq_esc (t z:Str):unq (esc t++34::z)=some (t,z):=by
 induction t with
 | nil=>exact unq_end z
 | cons c r ih =>
   unfold esc
   by_cases h:c=34∨c=92
   ·rw[if_pos h]
    simp only[List.cons_append]
    rw[unq_two h,ih];rfl
   ·rw[if_neg h]
    simp only[List.cons_append]
    rw[unq_one (fun e=>h (.inl e)) (fun e=>h (.inr e)),ih];rfl
theorem unq_back:∀ (n:Nat) (s t z:Str),s.length<=n->unq s=some (t,z)->s=esc t++34::z:=by
 intro n
 induction n with
 | zero =>
   intro s t z hl h
   have:s=[]:=List.eq_nil_of_length_eq_zero (by omega)
   subst this
   rw[unq_nil] at h;cases h
 | succ n ih =>
   intro s t z hl h
   match s with
   | []=>rw[unq_nil] at h;cases h
   | c::r =>
     by_cases h1:c=34
     ·subst h1
      rw[unq_end] at h
      cases h;rfl
     by_cases h2:c=92
     ·subst h2
      match r with
      | []=>rw[unq_back0] at h;cases h
      | d::q =>
        by_cases h3:d=34∨d=92
        ·rw[unq_two h3] at h
         cases hu:unq q with
         | none=>rw[hu] at h;cases h
         | some x =>
           rw[hu] at h
           cases h
           have:=ih q x.1 x.2 (by simp at hl;omega) hu
           rw[esc,if_pos h3]
           simp only[List.cons_append]
           rw[<-this]
        ·rw[unq_bad h3] at h;cases h
     ·rw[unq_one h1 h2] at h
      cases hu:unq r with
      | none=>rw[hu] at h;cases h
      | some x =>
        rw[hu] at h
        cases h
        have:=ih r x.1 x.2 (by simp at hl;omega) hu
        rw[esc,if_neg (fun e=>e.elim h1 h2)]
        simp only[List.cons_append]
        rw[<-this]
def quotedL:Str->Option (Str × Str)
 | 34::r=>unq r
 | _=>none
theorem quoted_quote (t z:Str):quotedL (quoteL t++z)=some (t,z):=by
 unfold quoteL quotedL
 simp only[List.cons_append,List.append_assoc,List.nil_append]
 exact unq_esc t z
theorem quoted_back {s t z:Str} (h:quotedL s=some (t,z)):s=quoteL t++z:=by
 unfold quotedL at h
 split at h
 ·rename_i r
  have:=unq_back r.length r t z (Nat.le_refl _) h
  rw[this,quoteL];simp
 ·cases h
structure Ru where
 kind:Int
 key:Str
 tt:Str
 old:Str
 new:Str
deriving instance DecidableEq for Ru
def zeroR:Ru:=⟨0,[],[],[],[]⟩
def useTo (k:Int):Bool:=k==1||k==2||k==3
def useOld (k:Int):Bool:=k==7||k==8
def useNew (k:Int):Bool:=k==4||k==5||k==7||k==8
def ruWord (k:Int):Str :=
 if k=1 then [114,101,110,97,109,101] else if k=2 then [112,114,101,102,105,120] else if k=3 then [99,111,112,121] else if k=4 then [115,101,116]
 else if k=5 then [100,101,102,97,117,108,116] else if k=6 then [100,114,111,112] else if k=7 then [109,97,112] else if k=8 then [115,119,97,112] else []
def belowL (key head:Str):Bool:=(head++[47]).isPrefixOf key
def ruErr (r:Ru):Int :=
 if r.kind < 1∨8 < r.kind then 1
 else if (!pathL r.key||useTo r.kind&&!pathL r.tt)=true then 5
 else if (!useTo r.kind&&!r.tt.isEmpty||!useOld r.kind&&!r.old.isEmpty||!useNew r.kind&&!r.new.isEmpty||!valueL r.old||!valueL r.new)=true then 2
 else if (useTo r.kind&&decide (r.key=r.tt))=true then 11
 else if (decide (r.kind=2)&&(belowL r.key r.tt||belowL r.tt r.key))=true then 13
 else if (useOld r.kind&&decide (r.old=r.new))=true then 11 else 0
def ruText (r:Ru):Str :=
 ruWord r.kind++32::r.key++(if useTo r.kind=true then 32::r.tt else [])++(if useOld r.kind=true then 32::quoteL r.old else [])++(if useNew r.kind=true then 32::quoteL r.new else [])
def ruKind (w:Str):Int :=
 if w=[] then 0 else if w=ruWord 1 then 1 else if w=ruWord 2 then 2 else if w=ruWord 3 then 3 else if w=ruWord 4 then 4 else if w=ruWord 5 then 5 else if w=ruWord 6 then 6 else if w=ruWord 7 then 7 else if w=ruWord 8 then 8 else -1
def candP (s:Str):Option Ru :=
 if (!(cutC 32 s).2.2||decide (ruKind (cutC 32 s).1 < 1))=true then none
 else if ((cutC 32 (cutC 32 s).2.1).1.isEmpty||((cutC 32 (cutC 32 s).2.1).2.2 != (useTo (ruKind (cutC 32 s).1)||useOld (ruKind (cutC 32 s).1)||useNew (ruKind (cutC 32 s).1))))=true then none
 else if useTo (ruKind (cutC 32 s).1)=true then
  (if ((cutC 32 (cutC 32 s).2.1).2.1.isEmpty||(cutC 32 (cutC 32 s).2.1).2.1.contains 32)=true then none
  else some ⟨ruKind (cutC 32 s).1,(cutC 32 (cutC 32 s).2.1).1,(cutC 32 (cutC 32 s).2.1).2.1,[],[]⟩)
 else if useOld (ruKind (cutC 32 s).1)=true then
  (match quotedL (cutC 32 (cutC 32 s).2.1).2.1 with
  | some (o,32::r)=>(match quotedL r with
    | some (n,[])=>some ⟨ruKind (cutC 32 s).1,(cutC 32 (cutC 32 s).2.1).1,[],o,n⟩
    | _=>none)
  | _=>none)
 else if useNew (ruKind (cutC 32 s).1)=true then
  (match quotedL (cutC 32 (cutC 32 s).2.1).2.1 with
  | some (n,[])=>some ⟨ruKind (cutC 32 s).1,(cutC 32 (cutC 32 s).2.1).1,[],[],n⟩
  | _=>none)
 else if (cutC 32 (cutC 32 s).2.1).2.1.isEmpty=true then some ⟨ruKind (cutC 32 s).1,(cutC 32 (cutC 32 s).2.1).1,[],[],[]⟩ else none
def parseRu (s:Str):Ru × Int :=
 if 4000 < s.length then (zeroR,4) else match candP s with
 | none=>(zeroR,8)
 | some r=>if ruErr r≠0 then (zeroR,ruErr r) else (r,0)
structure Shape (r:Ru):Prop where
 lo:1<=r.kind
 hi:r.kind<=8
 key:r.key≠[]
 key32:(32:UInt8) ∉ r.key
 to1:useTo r.kind=true->r.tt≠[]∧(32:UInt8) ∉ r.tt
 to0:useTo r.kind=false->r.tt=[]
 old0:useOld r.kind=false->r.old=[]
 new0:useNew r.kind=false->r.new=[]
theorem kind_cases {k:Int} (h1:1<=k) (h2:k<=8):k=1∨k=2∨k=3∨k=4∨k=5∨k=6∨k=7∨k=8:=by omega
theorem ruKind_word {k:Int} (h1:1<=k) (h2:k<=8):ruKind (ruWord k)=k∧(32:UInt8) ∉ ruWord k:=by
 rcases kind_cases h1 h2 with rfl|rfl|rfl|rfl|rfl|rfl|rfl|rfl<;>decide
theorem ruKind_back {w:Str} (h:¬ ruKind w < 1):1<=ruKind w∧ruKind w<=8∧w=ruWord (ruKind w):=by
 unfold ruKind at h ⊢
 repeat' split
 all_goals first
  | (rename_i e;exact⟨by decide,by decide,e⟩)
  | (exfalso;revert h;simp_all)
theorem cand_text {r:Ru} (h:Shape r):candP (ruText r)=some r:=by
 obtain⟨kind,key,tt,old,new⟩:=r
 obtain⟨h1,h2,h3,h4,h5,h6,h7,h8⟩:=h
 dsimp only at *
 obtain⟨k1,k2⟩:=ruKind_word h1 h2
 have kk:=kind_cases h1 h2
 have hk0:¬ kind < 1:=by omega
 unfold ruText candP
 dsimp only
 generalize ruWord kind=wd at *
 have e0:wd++32::key++(if useTo kind=true then 32::tt else [])++(if useOld kind=true then 32::quoteL old else [])++(if useNew kind=true then 32::quoteL new else []) =
  wd++32::(key++((if useTo kind=true then 32::tt else [])++(if useOld kind=true then 32::quoteL old else [])++(if useNew kind=true then 32::quoteL new else []))):=by simp
 rw[e0,cutC_app 32 wd _ k2]
 dsimp only
 rw[k1]
 have hke:key.isEmpty=false:=by cases key with|nil=>exact absurd rfl h3|cons _ _=>rfl
 have hkd:decide (kind < 1)=false:=decide_eq_false hk0
 rcases kk with rfl|rfl|rfl|rfl|rfl|rfl|rfl|rfl
 case inl|inr.inl|inr.inr.inl =>
  obtain⟨t1,t2⟩:=h5 rfl
  obtain rfl:=h7 rfl
  obtain rfl:=h8 rfl
  have ht:tt.isEmpty=false:=by cases tt with|nil=>exact absurd rfl t1|cons _ _=>rfl
  have ht2:tt.contains 32=false:=by simpa using t2
  have e1:∀ a b:Str,(if (true=true) then 32::tt else a)++(if (false=true) then a else b)=32::tt++b:=fun a b=>by simp
  simp only[useTo,useOld,useNew] at *
  simp[cutC_app 32 key tt h4,hke,ht,t2]
 case inr.inr.inr.inl|inr.inr.inr.inr.inl =>
  obtain rfl:=h6 rfl
  obtain rfl:=h7 rfl
  simp only[useTo,useOld,useNew] at *
  have hq:=quoted_quote new []
  rw[List.append_nil] at hq
  simp[cutC_app 32 key (quoteL new) h4,hke,hq]
 case inr.inr.inr.inr.inr.inl =>
  obtain rfl:=h6 rfl
  obtain rfl:=h7 rfl
  obtain rfl:=h8 rfl
  simp only[useTo,useOld,useNew] at *
  simp[cutC_none 32 key h4,hke]
 all_goals
  obtain rfl:=h6 rfl
  simp only[useTo,useOld,useNew] at *
  have hq:=quoted_quote new []
  rw[List.append_nil] at hq
  have hq2:=quoted_quote old (32::quoteL new)
  simp[cutC_app 32 key (quoteL old++32::quoteL new) h4,hke,hq2,hq]
end
section
def subst1 (c:UInt8) (new:Str) (l:Str):Str:=l.flatMap fun x=>if x=c then new else [x]
theorem subst1_none (c:UInt8) (new:Str):∀ l:Str,c ∉ l->subst1 c new l=l
 | [],_=>rfl
 | x::l,h=>by
   have h1:¬ x=c:=fun e=>h (by simp[e])
   have:=subst1_none c new l (fun e=>h (by simp[e]))
   unfold subst1 at this ⊢
   rw[List.flatMap_cons,if_neg h1,this];rfl
theorem subst1_app (c:UInt8) (new a r:Str) (h:c ∉ a):subst1 c new (a++c::r)=a++new++subst1 c new r:=by
 have h1:=subst1_none c new a h
 unfold subst1 at h1 ⊢
 rw[List.flatMap_append,h1,List.flatMap_cons,if_pos rfl,List.append_assoc]
theorem replaceK_one (c:UInt8) (new:Str):∀ (n:Nat) (l:Str),l.length<=n->Lib.replaceK [c] new (Lib.count l [c]) l=subst1 c new l:=by
 intro n
 induction n with
 | zero =>
   intro l hl
   have:l=[]:=List.eq_nil_of_length_eq_zero (by omega)
   subst this
   rw[count_one_none c [] (by simp)]
   rfl
 | succ n ih =>
   intro l hl
   rcases first_cut c l with h|⟨a,r,ha,rfl⟩
   ·rw[count_one_none c l h,subst1_none c new l h]
    rfl
   ·rw[count_one_app c a r ha,subst1_app c new a r ha,Nat.add_comm 1,Lib.replaceK_hit [c] new _ _ a.length (index_app c a r ha),<-ih r (by simp at hl;omega)]
    congr 1
    ·simp
    ·rw[<-List.drop_drop];simp
theorem replaceAll_one (c:UInt8) (new l:Str) (h:¬ [c]=new):Lib.replaceAll l [c] new=subst1 c new l:=by
 unfold Lib.replaceAll Lib.replace Lib.replaceNum
 rw[if_neg (by simpa using h),if_pos (.inl (by decide))]
 exact replaceK_one c new _ l (Nat.le_refl _)
theorem esc_two (l:Str):subst1 34 [92,34] (subst1 92 [92,92] l)=esc l:=by
 induction l with
 | nil=>rfl
 | cons c r ih =>
   unfold subst1 at ih ⊢
   rw[List.flatMap_cons,List.flatMap_append,ih,esc]
   by_cases h1:c=92
   ·rw[if_pos h1,if_pos (.inr h1),h1];rfl
   ·rw[if_neg h1]
    by_cases h2:c=34
    ·rw[if_pos (.inl h2),h2];rfl
    ·rw[if_neg (fun e=>e.elim h2 h1),List.flatMap_cons,if_neg h2];rfl
theorem esc_replace (l:Str):Lib.replaceAll (Lib.replaceAll l [92] [92,92]) [34] [92,34]=esc l:=by
 rw[replaceAll_one 92 [92,92] l (by decide),replaceAll_one 34 [92,34] _ (by decide),esc_two]
theorem subst1_len (c:UInt8) (new:Str) (l:Str) (h:new.length<=2):(subst1 c new l).length<=2 * l.length:=by
 induction l with
 | nil=>exact Nat.zero_le _
 | cons x l ih =>
   unfold subst1 at ih ⊢
   rw[List.flatMap_cons,List.length_append,List.length_cons]
   by_cases hx:x=c
   ·rw[if_pos hx];omega
   ·rw[if_neg hx];simp only[List.length_cons,List.length_nil];omega
theorem esc_len (l:Str):(esc l).length=l.length+(l.count 34+l.count 92):=by
 induction l with
 | nil=>rfl
 | cons c r ih =>
   rw[esc]
   by_cases h1:c=34
   ·subst h1;simp[ih];omega
   ·by_cases h2:c=92
    ·subst h2;simp[ih];omega
    ·rw[if_neg (fun e=>e.elim h1 h2),List.length_cons,ih,List.length_cons,List.count_cons_of_ne h1,List.count_cons_of_ne h2];omega
theorem esc_le (l:Str):(esc l).length<=2 * l.length:=by
 induction l with
 | nil=>exact Nat.le_refl _
 | cons c r ih =>
   rw[esc]
   split<;>simp<;>omega
theorem esc_append (a b:Str):esc (a++b)=esc a++esc b:=by
 induction a with
 | nil=>rfl
 | cons c r ih =>
   rw[List.cons_append,esc,esc,ih]
   split<;>rfl
theorem esc_same {l:Str} (h1:l.count 34=0) (h2:l.count 92=0):esc l=l:=by
 induction l with
 | nil=>rfl
 | cons c r ih =>
   have a:¬ c=34:=fun e=>by subst e;simp at h1
   have b:¬ c=92:=fun e=>by subst e;simp at h2
   rw[List.count_cons_of_ne a] at h1
   rw[List.count_cons_of_ne b] at h2
   rw[esc,if_neg (fun e=>e.elim a b),ih h1 h2]
theorem quote_len (l:Str):(quoteL l).length<=2 * l.length+2:=by
 have:=esc_le l
 simp only[quoteL,List.length_cons,List.length_append,List.length_nil]
 omega
end
section
open Go.RowKit
theorem isE (x:ByteArray):x.toList.isEmpty=(bs x).isEmpty:=by rw[ByteArray.toList_eq]
theorem eqE (x y:ByteArray):(x.toList==y.toList)=decide (bs x=bs y):=by
 rw[ByteArray.toList_eq,ByteArray.toList_eq]
 by_cases h:bs x=bs y
 ·rw[decide_eq_true h,beq_iff_eq];exact h
 ·rw[decide_eq_false h,beq_eq_false_iff_ne];exact h
theorem take_snocB (s:ByteArray) (k:Nat) (h:k < s.size):(bs s).take (k+1)=(bs s).take k++[s[k]]:=by
 rw[List.take_succ_eq_append_getElem (by rw[bs_length];exact h)];rfl
def u8s (l:Str):List Value:=l.map fun c=>Value.int .u8 c.toNat
theorem u8s_append (a b:Str):u8s (a++b)=u8s a++u8s b:=List.map_append
@[simp] theorem u8s_length (a:Str):(u8s a).length=a.length:=List.length_map _
theorem info_u8:(Tryz.prog.info? 5).map (fun i=>(i.zero,i.size,i.bytes))=some (some (.int .u8 0),1,1):=by kernel_rfl
end
section
open Go.RowKit
def InvQ (L:Str) (R:Option (Str × Str)) (k:Nat) (done:Str):Prop:=R=(unq (L.drop k)).map fun x=>(done++x.1,x.2)
theorem drop_cons (s:ByteArray) (k:Nat) (h:k < s.size):(bs s).drop k=s[k]::(bs s).drop (k+1):=by
 rw[List.drop_eq_getElem_cons (by rw[bs_length];exact h)];rfl
theorem invQ_start (L:Str) (i:Nat):InvQ L (unq (L.drop i)) i []:=by
 unfold InvQ
 cases unq (L.drop i)<;>rfl
section
variable {s:ByteArray} {R:Option (Str × Str)} {k:Nat} {done:Str}
theorem invQ_out (h:InvQ (bs s) R k done) (hk:s.size<=k):R=none:=by
 rw[h,List.drop_of_length_le (by rw[bs_length];exact hk),unq_nil];rfl
theorem invQ_end (h:InvQ (bs s) R k done) (hk:k < s.size) (h1:s[k]=34):R=some (done,(bs s).drop (k+1)):=by
 rw[h,drop_cons s k hk,h1,unq_end];simp
theorem invQ_one (h:InvQ (bs s) R k done) (hk:k < s.size) (h1:¬ s[k]=34) (h2:¬ s[k]=92):InvQ (bs s) R (k+1) (done++[s[k]]):=by
 unfold InvQ at h ⊢
 rw[h,drop_cons s k hk,unq_one h1 h2,Option.map_map]
 congr 1
 funext x
 simp
theorem invQ_last (h:InvQ (bs s) R k done) (hk:k+1=s.size) (h1:s[k]=92):R=none:=by
 rw[h,drop_cons s k (by omega),h1,List.drop_of_length_le (by rw[bs_length];omega),unq_back0];rfl
theorem invQ_bad (h:InvQ (bs s) R k done) (hk:k+1 < s.size) (h1:s[k]=92) (h2:¬ s[k+1]=34) (h3:¬ s[k+1]=92):R=none:=by
 rw[h,drop_cons s k (by omega),h1,drop_cons s (k+1) hk,unq_bad (fun e=>e.elim h2 h3)];rfl
theorem invQ_two (h:InvQ (bs s) R k done) (hk:k+1 < s.size) (h1:s[k]=92) (h2:s[k+1]=34∨s[k+1]=92):InvQ (bs s) R (k+1+1) (done++[s[k+1]]):=by
 unfold InvQ at h ⊢
 rw[h,drop_cons s k (by omega),h1,drop_cons s (k+1) hk,unq_two h2,Option.map_map]
 congr 1
 funext x
 simp
end
theorem byte_no {c:UInt8} {n:UInt8} (h:¬ c=n) (z:Int) (hz:z=n.toNat):((c.toNat:Int)==z)=false:=by
 rw[beq_eq_false_iff_ne]
 intro e
 exact h (UInt8.toNat_inj.1 (by omega))
theorem byte_ne {c:UInt8} {n:UInt8} (h:¬ c=n) (z:Int) (hz:z=n.toNat):((c.toNat:Int) != z)=true:=by
 rw[bne,byte_no h z hz];rfl
def qatR (n:Nat):Option (Str × Str)->Str × Nat × Bool
 | none=>([],0,false)
 | some (t,z)=>(t,n - z.length,true)
def qat (l:Str) (i:Nat):Str × Nat × Bool:=qatR l.length (unq (l.drop (i+1)))
theorem one_of (s:ByteArray) (k:Nat) (h:k < s.size):bs (s.extract k (k+1))=[s[k]]:=by
 show (s.extract k (k+1)).data.toList=_
 rw[Lib.extract_data]
 have e:(s.data.toList.take (k+1)).drop k=[s[k]]:=by
  rw[take_snocB s k h,List.drop_append_of_le_length (by simp;omega)]
  simp
 first|exact e|(rw[<-List.drop_take] at *;exact e)|(simpa [List.drop_take] using e)
set_option maxRecDepth 100000 in
set_option maxHeartbeats 4000000 in
theorem quotedAt_any (s:ByteArray) (i:Nat) (w:World) (hs:s.size<=2097152) (hi:i<=2097152) :
 Calls Tryz.prog 176 #[.string s,.int .i64 i] w fun e w'=>e=.returned (.tuple #[S (qat (bs s) i).1,.int .i64 (qat (bs s) i).2.1,.bool (qat (bs s) i).2.2])∧w=w':=by
 obtain⟨R,hR⟩:∃ R,unq ((bs s).drop (i+1))=R:=⟨_,rfl⟩
 have hq:qat (bs s) i=qatR s.size R:=by rw[qat,hR,bs_length]
 have hst:=invQ_start (bs s) (i+1)
 rw[hR] at hst
 rw[hq]
 have HST:=Hy hst
 clear hst hq hR
 go_enter Tryz.func176,Tryz.ntmps176
 go_wp2
 go_loop [7,8] (fun o k'=>∃ (k:Nat) (out:ByteArray),k'=.int .i64 k∧o=.string out∧(k<=s.size∨out.size=0)∧k<=2097153∧out.size<=k∧InvQ (bs s) R k (bs out)) (fun _ k=>s.size - (intOf k).toNat)
 case atStart=>exact⟨i+1,⟨#[]⟩,by go_num,rfl,.inr rfl,by omega,Nat.zero_le _,HST.out⟩
 case round =>
  obtain⟨k,out,rfl,rfl,hk1,hk2,hk3,hinv⟩:=hrel
  have HINV:=Hy hinv
  clear hinv
  by_cases hlt:k < s.size
  ·by_cases h34:s[k]=34
   ·have e1:((s[k].toNat:Int)==34)=true:=by rw[h34];rfl
    have hres:=invQ_end HINV.out hlt h34
    subst hres
    clear h34
    go_wp2
    go_ret3
    refine⟨?_,rfl⟩
    have hl:s.size - ((bs s).drop (k+1)).length=k+1:=by rw[List.length_drop,bs_length];omega
    simp only[qatR,hl,S_bs]
    go_num
   have e1:=byte_no h34 34 rfl
   by_cases h92:s[k]=92
   ·have e2:((s[k].toNat:Int)==92)=true:=by rw[h92];rfl
    by_cases hend:k+1=s.size
    ·have hres:=invQ_last HINV.out hend h92
     subst hres
     have hE:((k:Int)+1==(s.size:Int))=true:=by rw[beq_iff_eq];omega
     clear h34 h92
     go_wp2
     go_ret3
     exact⟨rfl,rfl⟩
    have hlt2:k+1 < s.size:=by omega
    have hE:((k:Int)+1==(s.size:Int))=false:=by rw[beq_eq_false_iff_ne];omega
    have hn1:=one_of s (k+1) hlt2
    have hIx:s[k+1]=s[k+1]:=rfl
    by_cases hok:s[k+1]=34∨s[k+1]=92
    ·have hinv2:=invQ_two HINV.out hlt2 h92 hok
     rw[<-hn1,<-bs_append] at hinv2
     have HI2:=Hy hinv2
     have hz1:(s.extract (k+1) (k+1+1)).size=1:=by rw[<-bs_length,hn1];rfl
     clear hinv2 hn1 hIx h34 h92
     rcases hok with hd|hd
     ·have e3:((s[k+1].toNat:Int) != 34)=false:=by rw[hd];rfl
      clear hd
      go_wp2
      go_round
      case rel=>exact⟨k+1+1,_,by go_num,rfl,.inl (by omega),by omega,by rw[ByteArray.size_append,hz1];omega,HI2.out⟩
      case measure=>simp[intOf];omega
     ·have e3:((s[k+1].toNat:Int) != 34)=true:=by rw[hd];rfl
      have e4:((s[k+1].toNat:Int) != 92)=false:=by rw[hd];rfl
      clear hd
      go_wp2
      go_round
      case rel=>exact⟨k+1+1,_,by go_num,rfl,.inl (by omega),by omega,by rw[ByteArray.size_append,hz1];omega,HI2.out⟩
      case measure=>simp[intOf];omega
    ·have hres:=invQ_bad HINV.out hlt2 h92 (fun e=>hok (.inl e)) (fun e=>hok (.inr e))
     have e3:=byte_ne (fun e=>hok (.inl e)) 34 rfl
     have e4:=byte_ne (fun e=>hok (.inr e)) 92 rfl
     subst hres
     clear h34 h92 hok hn1 hIx
     go_wp2
     go_ret3
     exact⟨rfl,rfl⟩
   ·have e2:=byte_no h92 92 rfl
    have hn1:=one_of s k hlt
    have hinv2:=invQ_one HINV.out hlt h34 h92
    rw[<-hn1,<-bs_append] at hinv2
    have HI2:=Hy hinv2
    have hz1:(s.extract k (k+1)).size=1:=by rw[<-bs_length,hn1];rfl
    clear hinv2 hn1 h34 h92
    go_wp2
    go_round
    case rel=>exact⟨k+1,_,by go_num,rfl,.inl (by omega),by omega,by rw[ByteArray.size_append,hz1];omega,HI2.out⟩
    case measure=>simp[intOf];omega
  ·have hres:=invQ_out HINV.out (by omega)
   subst hres
   go_wp2
   go_ret3
   exact⟨rfl,rfl⟩
theorem conv_own {w:World} {B m:Nat} {v:Value} {l:Str} (h:w.ownsRow B 5 1 v m (u8s l)) :
 ∀ W,Ext w W->(convert 202 9 v).run Tryz.prog W=.ok (S l) W:=fun W hW=>by
 have hl:l.length=m:=by have:=h.1;rw[u8s_length,Nat.mul_one] at this;exact this
 rcases Nat.eq_zero_or_pos m with h0|h0
 ·rcases h.2 with ⟨rfl,_⟩|⟨g,cap,cur,rfl,_,_,_,_⟩
  ·have e:l=[]:=List.eq_nil_of_length_eq_zero (by omega)
   rw[e]
   exact run_convert_bytes_nil (P:=Tryz.prog) W 202 5 Tryz.underlying202 Tryz.underlying5 0 0 9 Tryz.underlying9
  ·have e:l=[]:=List.eq_nil_of_length_eq_zero (by omega)
   subst h0
   rw[e]
   exact run_convert_bytes_arg (P:=Tryz.prog) W 202 5 Tryz.underlying202 Tryz.underlying5 g 0 0 cap [] rfl (fun i hi=>absurd hi (Nat.not_lt_zero _)) 9 Tryz.underlying9
 ·obtain⟨g,c,rfl,_,_,_,hc⟩:=own_form h h0
  subst hl
  have:=run_convert_bytes_arg (P:=Tryz.prog) W 202 5 Tryz.underlying202 Tryz.underlying5 g 0 l.length c (l.map fun x=>(x.toNat:Int)) (by simp) (fun i hi=>by
   rw[Nat.zero_add]
   refine (hW.cell (hc i (.int .u8 l[i].toNat) (by simp[u8s,hi]))).trans ?_
   simp[List.getD,hi]) 9 Tryz.underlying9
  rw[this]
  have e:(l.map fun x=>(x.toNat:Int)).map (fun n=>UInt8.ofNat n.toNat)=l:=by
   rw[List.map_map]
   exact List.map_id'' (fun x=>by simp) l
  unfold strOfNums
  rw[e]
end
section
open Go.RowKit
structure ExtC (C:Nat->Prop) (w w':World):Prop where
 os:w'.os=w.os
 tape:w'.tape=w.tape
 output:w'.output=w.output
 size:w.heap.size<=w'.heap.size
 block:∀ k,k < w.heap.size->¬ C k->w'.heap[k]?=w.heap[k]?
namespace ExtC
variable {C:Nat->Prop} {a b c w w':World}
theorem refl (C:Nat->Prop) (w:World):ExtC C w w:=⟨rfl,rfl,rfl,Nat.le_refl _,fun _ _ _=>rfl⟩
theorem ofExt (h:Ext a b):ExtC C a b:=⟨h.os,h.tape,h.output,h.size,fun k hk _=>h.block k hk⟩
theorem trans (h:ExtC C a b) (k:ExtC C b c):ExtC C a c :=
 ⟨k.os.trans h.os,k.tape.trans h.tape,k.output.trans h.output,Nat.le_trans h.size k.size,fun i hi hg=>(k.block i (Nat.lt_of_lt_of_le hi h.size) hg).trans (h.block i hi hg)⟩
theorem alloc (h:ExtC C a w) (o:Obj):ExtC C a (w.alloc o):=h.trans (ofExt ((Ext.refl w).alloc o))
theorem set (h:ExtC C a w) {p:Addr} (hp:C p.block∨a.heap.size<=p.block) (u:Value):ExtC C a (w.setCell p u) :=
 ⟨h.os,h.tape,h.output,by have:=h.size;simpa [World.setCell] using this,fun k hk hg=>by
   refine Eq.trans ?_ (h.block k hk hg)
   simp only[World.setCell,Array.getElem?_modify]
   rw[if_neg]
   rintro rfl
   rcases hp with h1|h1
   ·exact hg h1
   ·omega⟩
theorem ext (h:Ext a w) (k:ExtC C w w') (hC:∀ i,C i->a.heap.size<=i):Ext a w' :=
 ⟨k.os.trans h.os,k.tape.trans h.tape,k.output.trans h.output,Nat.le_trans h.size k.size,fun i hi=>(k.block i (Nat.lt_of_lt_of_le hi h.size) (fun hc=>by have:=hC i hc;omega)).trans (h.block i hi)⟩
theorem imp {C':Nat->Prop} (h:ExtC C a b) (hC:∀ i,C i->C' i):ExtC C' a b:=⟨h.os,h.tape,h.output,h.size,fun k hk hn=>h.block k hk (fun hc=>hn (hC k hc))⟩
theorem cell (h:ExtC C a b) {k o:Nat} {v:Value} (hk:¬ C k) (hc:a.cell? ⟨k,o,none⟩=some v):b.cell? ⟨k,o,none⟩=some v:=by
 have hl:=lt_of_cell hc
 unfold World.cell? at hc ⊢
 rw[h.block k hl hk]
 exact hc
end ExtC
theorem Blk.extC {C:Nat->Prop} {w w':World} {k:Nat} {t:TypeId} {cs:Array Value} (h:Blk w k t cs) (hx:ExtC C w w') (hk:¬ C k):Blk w' k t cs:=(hx.block k h.lt hk).trans h
end
section
open Go.RowKit
section
variable {P:Program}
theorem wpList_load_at {ops:Array Oper} {rest:List Oper} {o:Oper} {a:Act} {w:World} {Q:Exit->Act->World->Prop} (hgd:o.guard=none) (ty:TypeId) (x:Operand) (ho:o.op=.load ty x)
 (p:Addr) (hx:a.eval x=.pointer (some p)) (v:Value) (hl:(loadVar ty p).run P w=.ok v w) (h:wpList P ops Q rest (a.put o.dst v) w):wpList P ops Q (o::rest) a w :=
 wpList_plain hgd fun K hK=>by
  unfold Oper.wp execOp
  simp only[ho,hx,Instr.loadAt,Instr.sureAddr,Sem.run_bind,Sem.run_pure,Result.andThen_ok,hl]
  exact hK _ _ h
theorem wpQuiet_load {ops:Array Oper} {rest:List Oper} {o:Oper} {a:Act} {C:World->Prop} {Q:Act->Prop} (hw:Region.wanted o (yielded ops a.tmps)=true) (ty:TypeId) (x:Operand) (ho:o.op=.load ty x)
 (p:Addr) (hx:a.eval x=.pointer (some p)) (v:Value) (hl:∀ w,C w->(loadVar ty p).run P w=.ok v w) (h:wpQuiet P ops C Q rest (a.put o.dst v)):wpQuiet P ops C Q (o::rest) a :=
 wpQuiet_step fun K hK=>by
  rw[if_pos hw]
  refine⟨v,fun w hC=>?_,hK _ h⟩
  unfold Oper.quietAt execOp
  simp only[ho,hx,Instr.loadAt,Instr.sureAddr,Sem.run_bind,Sem.run_pure,Result.andThen_ok,hl w hC]
  exact⟨rfl,rfl⟩
end
end
end Go.Proofs.YtmnafaaijglnfaaGreatDoor
namespace Go.Proofs.YtmnafaaijglnfaaGreatDoor.feedsRead
open Go.ChangeShapes Go.WideShapes Go.ChangeAt Go.RowKit Go.WideElems Go.Joins
open Go.ChangeMaps (open_string shut_string)
theorem plain (f:FuncId) (fn:Func) (hf:Tryz.prog.funcNamed "outfitter/outlaw2.FeedsRead"=some f) (hfn:Tryz.prog.funcs[f]?=some fn) :
 true=Tryz.prog.looks []∧∀ (j:Nat) t,fn.params[j]?=some t->Tryz.prog.wantsStandIn t=false:=by
 obtain rfl:f=8:=Option.some.inj ((show Tryz.prog.funcNamed "outfitter/outlaw2.FeedsRead"=some 8 by kernel_rfl).symm.trans hf) |>.symm
 obtain rfl:fn=Tryz.f8:=(Option.some.inj (Tryz.func8.symm.trans hfn)).symm
 refine⟨by kernel_rfl,fun j t ht=>?_⟩
 rw[Tryz.params8] at ht
 have hm:t∈[9]:=by simpa using Array.mem_of_getElem? ht
 have hall:([9].all fun u=>!Tryz.prog.wantsStandIn u)=true:=by kernel_rfl
 simpa using List.all_eq_true.1 hall t hm
theorem wf:Rows.feedsReadUptoRow.wfByText (Rows.OpenSpec.upto Rows.feedsReadSpec)=true:=by kernel_rfl
end Go.Proofs.YtmnafaaijglnfaaGreatDoor.feedsRead
