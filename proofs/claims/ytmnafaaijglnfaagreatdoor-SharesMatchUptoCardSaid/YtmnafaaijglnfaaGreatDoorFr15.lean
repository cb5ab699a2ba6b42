/- Contract of ver.PrintRange. Contracts of ver.itemOf, behind. Contract of ver.ParseRange. The small map of outref2's group: made, asked. -/
import Derived.Test.YtmnafaaijglnfaaGreatDoorFr14
import Derived.Deep.LoopGhost
import Derived.MapKept
import Derived.Deep.DeepCutAuto
namespace Go.Proofs.YtmnafaaijglnfaaGreatDoor
section
open Go.RowKit
def prR (l:List Sp):Str:=if rngErr l=0 then rngText l else []
theorem sps_ok {l:List Sp} (h:rngErr l=0):∀ s∈l,s.f.err=0∧s.t.err=0:=fun s hs=>by
 obtain⟨_,hall⟩:=rng_ok h
 obtain⟨k,hk,rfl⟩:=List.getElem_of_mem hs
 obtain⟨_,_,a,b⟩:=sp_ok (err_sp hk (hall k hk))
 exact⟨a,b⟩
theorem join_sp_len {l:List Sp} (h:rngErr l=0):(Lib.join (l.map spText) [44,32]).length<=3000:=by
 have h1:=join_len (l.map spText) [44,32] 224 (fun p hp=>by
  obtain⟨s,hs,rfl⟩:=List.mem_map.1 hp
  obtain⟨a,b⟩:=sps_ok h s hs
  exact spText_len a b)
 have h2:=(rng_ok h).1
 rw[List.length_map] at h1
 have h3:l.length * (224+([44,32]:Str).length)<=10 * 226:=Nat.mul_le_mul h2 (by decide)
 omega
theorem map_take_succ {α β:Type} (f:α->β) (l:List α) (k:Nat) (h:k < l.length):(l.take k).map f++[f l[k]]=(l.take (k+1)).map f:=by
 rw[List.take_succ_eq_append_getElem h,List.map_append];rfl
set_option maxHeartbeats 8000000 in
theorem PrintRange_any (A:Option Addr) (n c:Nat) (l:List Sp) (w:World) (hg:GoodN w) (hn:l.length=n) (hr:RdS w A l) (hs:SmallS l) (hl:n<=2097152) :
 Calls Tryz.prog 28 #[.agg #[.slice A n c]] w fun e w'=>e=.returned (.tuple #[S (prR l),.int .i64 (rngErr l)])∧Ext w w':=by
 go_enter Tryz.func28,Tryz.ntmps28
 go_wp2_with fail
 refine (CheckRange_any A n c l _ (hg.toGood.ext Ext.au) hn (hr.ext Ext.au) hs hl).mono ?_
 rintro e w1 ⟨rfl,hx1⟩
 have hxw:Ext w w1:=Ext.trans Ext.au hx1
 have hB:=(Blk.new w 42 #[.slice A n c]).ext hx1
 have bc:=hB.cell
 by_cases h0:rngErr l=0
 rotate_left
 ·have hbn:(rngErr l != 0)=true:=by rw[bne_iff_ne];exact h0
  have H0:=Hy h0
  clear h0
  go_wp2
  go_ret2
  exact⟨by rw[prR,if_neg H0.out];rfl,hxw⟩
 have hP:prR l=rngText l:=by rw[prR,if_pos h0]
 have HP:=Hy hP
 have H0:=Hy h0
 have hj:=join_sp_len h0
 rw[h0]
 clear h0 hP
 rcases Nat.eq_zero_or_pos n with hz|hz
 ·subst hz
  have he:l=[]:=List.eq_nil_of_length_eq_zero hn
  have HE:=Hy he
  clear he hn
  go_wp2
  go_ret2
  exact⟨by rw[HP.out,H0.out,HE.out,rngText,if_pos rfl];rfl,hxw⟩
 have hne:¬ l=[]:=fun e=>by rw[e] at hn;simp at hn;omega
 obtain⟨b,o,rfl,hX⟩:=hr hne
 have hT:rngText l=Lib.join (l.map spText) [44,32]:=by rw[rngText,if_neg hne]
 have HT:=Hy hT
 have HN:=Hy hn
 clear hT hn hne hr
 have hnn:((n:Int)==0)=false:=by rw[beq_eq_false_iff_ne];omega
 go_wp2
 go_loopg [5,20] n (fun g v i wr=>∃ k:Nat,k<=n∧n - k<=g∧i=.int .i64 k∧wr.ownsRow w1.heap.size 9 1 v k ((l.take k).map fun s=>S (spText s))∧Ext w1 wr)
 case atStart=>exact⟨0,Nat.zero_le _,by omega,rfl,World.ownsRow_nil _ _ _ _,Ext.refl _⟩
 case round =>
  obtain⟨k,hk,hgk,rfl,hown,hxr⟩:=hrel
  by_cases hlt:k < n
  ·have hk1:k < l.length:=by rw[HN.out];exact hlt
   have X:=hX.ext (hxw.trans hxr)
   have x0:=X.c0 k hk1;have x1:=X.c1 k hk1;have x2:=X.c2 k hk1;have x3:=X.c3 k hk1;have x4:=X.c4 k hk1
   have x5:=X.c5 k hk1;have x6:=X.c6 k hk1;have x7:=X.c7 k hk1;have x8:=X.c8 k hk1;have x9:=X.c9 k hk1
   have hz1:=hs l[k] (List.getElem_mem hk1)
   have hok:=sps_ok H0.out l[k] (List.getElem_mem hk1)
   have HNX:=Hy (map_take_succ (fun s=>S (spText s)) l k hk1)
   clear X
   generalize l[k]=s at *
   obtain⟨hf,ht,⟨f1,f2,f3,fa⟩,⟨t1,t2,t3,ta⟩⟩:=s
   dsimp only at x0 x1 x2 x3 x4 x5 x6 x7 x8 x9 hz1 hok
   have HOK:=Hy hok
   clear hok
   go_wp2_with fail
   refine (spanText_any ⟨hf,ht,⟨f1,f2,f3,fa⟩,⟨t1,t2,t3,ta⟩⟩ _ (hg.ext ((hxw.trans hxr).trans Ext.au)) hz1.1 hz1.2 HOK.out.1 HOK.out.2).mono ?_
   rintro e w2 ⟨rfl,hx2⟩
   have hxq:Ext wr w2:=Ext.trans Ext.au hx2
   have hown2:=own_ext hown hxq
   generalize spText ⟨hf,ht,⟨f1,f2,f3,fa⟩,⟨t1,t2,t3,ta⟩⟩=T at *
   clear hx2 x0 x1 x2 x3 x4 x5 x6 x7 x8 x9 hown
   have hsz:=(hxr.trans hxq).size
   go_wp2_with (at_builtin;refine wpList_app1 _ _ _ rfl _ _ 74 rfl (.string ⟨#[]⟩) 1 16 Tryz.underlying74 info_string rfl (by decide) (by decide) w1.heap.size _ k _ rfl hown2 _ rfl rfl (by simp[Value.oneCell']) (by omega) hsz ?_;intro v' w3 hown3 hx3 _)
   go_roundg (n - (k+1))
   case rel=>exact⟨k+1,by omega,Nat.le_refl _,by go_num,by rw[<-HNX.out];exact hown3,hx3 _ (hxr.trans hxq) (Nat.le_refl _)⟩
   case measure=>omega
  ·obtain rfl:k=n:=by omega
   have hL:wr.ownsRow w1.heap.size 9 1 u5 k ((l.map spText).map S):=by
    rw[List.map_map]
    rw[<-HN.out,List.take_length,HN.out] at hown
    exact hown
   go_wp2_with fail
   refine (join_own ⟨#[44,32]⟩ wr hL (by rw[List.length_map];exact HN.out) hz (by omega) (by have:=hj;exact Nat.le_trans this (by decide))).mono ?_
   rintro e w2 ⟨rfl,hx2⟩
   go_wp2
   go_ret2
   exact⟨by rw[HP.out,H0.out,HT.out];rfl,(hxw.trans hxr).trans hx2⟩
end
section
open Go.RowKit
abbrev itV (sg:UInt8) (a b:ByteArray):Value:=.agg #[.int .u8 sg.toNat,.string a,.string b]
def ItemPost (s:ByteArray) (w:World) (E:Ending) (w':World):Prop :=
 ∃ (sg:UInt8) (a b:ByteArray) (ok:Bool),itemL (bs s)=(⟨sg,bs a,bs b⟩,ok)∧E=.returned (.tuple #[itV sg a b,.bool ok])∧a.size<=s.size∧b.size<=s.size∧Ext w w'
theorem item_star {l:Str} (h:l=[42]):itemL l=(⟨42,[],[]⟩,true):=by rw[itemL,if_pos h]
theorem item_two {l a b:Str} (h0:¬ l=[42]) (h1:Lib.hasPrefix l [62,61]=true) (h2:cutC 32 (l.drop 2)=(a,b,true)) :
 itemL l=(⟨98,a,Lib.trimPrefix b [60]⟩,Lib.hasPrefix b [60]&&rowL a&&rowL (Lib.trimPrefix b [60])):=by
 rw[itemL,if_neg h0,if_pos h1,h2,if_pos rfl]
theorem item_from {l a b:Str} (h0:¬ l=[42]) (h1:Lib.hasPrefix l [62,61]=true) (h2:cutC 32 (l.drop 2)=(a,b,false)):itemL l=(⟨62,l.drop 2,[]⟩,rowL (l.drop 2)):=by
 rw[itemL,if_neg h0,if_pos h1,h2,if_neg (by simp)]
theorem item_sign {l:Str} (h0:¬ l=[42]) (h1:¬ Lib.hasPrefix l [62,61]=true) (h2:(!l.isEmpty&&[60,61,94,126].contains (l.headD 0))=true):itemL l=(⟨l.headD 0,l.drop 1,[]⟩,rowL (l.drop 1)):=by
 rw[itemL,if_neg h0,if_neg h1,if_pos h2]
theorem item_else {l:Str} (h0:¬ l=[42]) (h1:¬ Lib.hasPrefix l [62,61]=true) (h2:¬ (!l.isEmpty&&[60,61,94,126].contains (l.headD 0))=true):itemL l=(⟨94,l,[]⟩,rowL l):=by
 rw[itemL,if_neg h0,if_neg h1,if_neg h2]
theorem trimPrefix_size (b:ByteArray) (p:Str):(⟨(Lib.trimPrefix (bs b) p).toArray⟩:ByteArray).size<=b.size:=by
 have:=Lib.trimPrefix_le (bs b) p
 rw[bs_length] at this
 rw[<-bs_length,bs_mk]
 exact this
theorem trim_hit {l p:Str} (h:Lib.hasPrefix l p=true):Lib.trimPrefix l p=l.drop p.length:=by rw[Lib.trimPrefix,if_pos h]
set_option maxHeartbeats 8000000 in
theorem itemOf_any (s:ByteArray) (w:World) (hg:Good w) (hs:s.size<=2097152) :
 Calls Tryz.prog 92 #[.string s] w (ItemPost s w):=by
 go_enter Tryz.func92,Tryz.ntmps92
 by_cases h0:bs s=[42]
 ·have he:(s.toList==[42])=true:=by rw[lit_beq,beq_iff_eq];exact h0
  have HI:=Hy (item_star h0)
  clear h0
  go_wp2
  refine bodyPost_ret (v:=.tuple #[itV 42 ⟨#[]⟩ ⟨#[]⟩,.bool true]) (by simp[results,Tryz.results92,go_sem]) rfl ⟨42,⟨#[]⟩,⟨#[]⟩,true,HI.out,rfl,Nat.zero_le _,Nat.zero_le _,Ext.au⟩
 have he:(s.toList==[42])=false:=by rw[lit_beq,beq_eq_false_iff_ne];exact h0
 have H0:=Hy h0
 clear h0
 go_wp2_with fail
 refine (cutPrefix_any s ⟨#[62,61]⟩ _).mono ?_
 rintro e w' ⟨rfl,rfl⟩
 by_cases h1:Lib.hasPrefix (bs s) [62,61]=true
 ·have h1':(bs ⟨#[62,61]⟩).isPrefixOf (bs s)=true:=h1
  rw[h1']
  have htp:bs (⟨(Lib.trimPrefix (bs s) (bs ⟨#[62,61]⟩)).toArray⟩:ByteArray)=(bs s).drop 2:=by rw[bs_mk];exact trim_hit h1
  have hsz:(⟨(Lib.trimPrefix (bs s) (bs ⟨#[62,61]⟩)).toArray⟩:ByteArray).size<=s.size:=trimPrefix_size s _
  dsimp only[S]
  generalize (⟨(Lib.trimPrefix (bs s) (bs ⟨#[62,61]⟩)).toArray⟩:ByteArray)=fr at *
  have HTP:=Hy htp
  have H1:=Hy h1
  clear h1 h1' htp
  go_wp2_with fail
  refine (cut_ex 32 fr _ (hg.ext Ext.au) (by omega)).mono ?_
  rintro e w1 ⟨a,b,fl,rfl,hcut,hsa,hsb,hx1⟩
  rw[HTP.out] at hcut
  have hx:Ext w w1:=Ext.trans Ext.au hx1
  have bR:=((Blk.new w 135 #[.int .u8 0,.string ⟨#[]⟩,.string ⟨#[]⟩]).alloc (.cells #[.int .u8 62,.string fr,.string ⟨#[]⟩] 135)).ext hx1
  have bI:=(Blk.new (w.alloc (.cells #[.int .u8 0,.string ⟨#[]⟩,.string ⟨#[]⟩] 135)) 135 #[.int .u8 62,.string fr,.string ⟨#[]⟩]).ext hx1
  rw[World.size_alloc] at bI
  have cR:=bR.cell;have fR:=bR.free;have zR:=bR.lt
  have cI:=bI.cell;have zI:=bI.lt
  clear hx1
  cases fl
  ·have HI:=Hy (item_from H0.out H1.out hcut)
   rw[<-HTP.out] at HI
   clear hcut
   go_wp2_with fail
   refine wp_region_ext_tail 4 (by kernel_rfl) (by kernel_rfl) ?_
   simp only[List.take_succ_cons,List.take_zero,List.drop_succ_cons,List.drop_zero]
   repeat (first|go_big_quiet_skip|(refine wpQuiet_step (fun K hK=>?_);go_simp;first|(refine hK _ ?_;clear hK K)|(apply Exists.intro;refine⟨fun wq hwq=>?_,hK _ ?_⟩;(obtain⟨hqc,hqf⟩:=hwq.cells;have hqs:=hwq.size;(try go_simp);first|rfl|((first|rw[if_neg (by omega)]|rw[if_pos (by omega)]);(try go_simp);rfl)|((go_at_call 161;exact (isRow_any fr _ ((hg.ext hx).ext hwq) (by omega)).mono (fun e w'' h=>⟨h.1,h.2 ▸ hwq⟩))));clear hK K)))
   refine wpQuiet_nil ?_
   intro wN hxN
   obtain⟨hcN,hfN⟩:=hxN.cells
   have hsN:=hxN.size
   have bRN:=bR.ext hxN
   have cRN:=bRN.cell;have fRN:=bRN.free;have zRN:=bRN.lt
   go_wp2
   refine bodyPost_ret (v:=.tuple #[itV 62 fr ⟨#[]⟩,.bool (rowL (bs fr))]) (by simp[results,Tryz.results92,go_sem,cRN]) rfl ⟨62,fr,⟨#[]⟩,_,HI.out,rfl,hsz,Nat.zero_le _,?_⟩
   have hxWN:=hx.trans hxN
   exact Ext.ad
  ·have HI:=Hy (item_two H0.out H1.out hcut)
   clear hcut
   go_wp2_with fail
   refine (cutPrefix_any b ⟨#[60]⟩ _).mono ?_
   rintro e w' ⟨rfl,rfl⟩
   have hto:bs (⟨(Lib.trimPrefix (bs b) (bs ⟨#[60]⟩)).toArray⟩:ByteArray)=Lib.trimPrefix (bs b) [60]:=by rw[bs_mk]
   have hsz2:(⟨(Lib.trimPrefix (bs b) (bs ⟨#[60]⟩)).toArray⟩:ByteArray).size<=b.size:=trimPrefix_size b _
   dsimp only[S]
   have hle:(bs ⟨#[60]⟩).isPrefixOf (bs b)=Lib.hasPrefix (bs b) [60]:=rfl
   rw[hle]
   generalize (⟨(Lib.trimPrefix (bs b) (bs ⟨#[60]⟩)).toArray⟩:ByteArray)=tb at *
   rw[<-hto] at HI
   clear hto hle
   have HIX:Hid (∃ ok,itemL (bs s)=(⟨98,bs a,bs tb⟩,ok)∧ok=(Lib.hasPrefix (bs b) [60]&&rowL (bs a)&&rowL (bs tb))):=Hy ⟨_,HI.out,rfl⟩
   clear HI
   cases hp:Lib.hasPrefix (bs b) [60]
   ·rw[hp] at HIX
    clear hp
    go_wp2
    refine bodyPost_ret (v:=.tuple #[itV 98 a tb,.bool false]) (by simp[results,Tryz.results92,go_sem,cR]) rfl ⟨98,a,tb,false,?_,rfl,by omega,by omega,?_⟩
    ·obtain⟨ok,h1,h2⟩:=HIX.out
     rw[h1,h2];rfl
    ·exact Ext.ad
   ·rw[hp] at HIX
    clear hp
    go_wp2_with fail
    refine (isRow_any a _ (hg.ext hx) (by omega)).mono ?_
    rintro e w' ⟨rfl,rfl⟩
    cases hp:rowL (bs a)
    ·rw[hp] at HIX
     clear hp
     go_wp2
     refine bodyPost_ret (v:=.tuple #[itV 98 a tb,.bool false]) (by simp[results,Tryz.results92,go_sem,cR]) rfl ⟨98,a,tb,false,?_,rfl,by omega,by omega,?_⟩
     ·obtain⟨ok,h1,h2⟩:=HIX.out
      rw[h1,h2];rfl
     ·exact Ext.ad
    ·rw[hp] at HIX
     clear hp
     go_wp2_with fail
     refine (isRow_any tb _ (hg.ext hx) (by omega)).mono ?_
     rintro e w' ⟨rfl,rfl⟩
     go_wp2
     refine bodyPost_ret (v:=.tuple #[itV 98 a tb,.bool (rowL (bs tb))]) (by simp[results,Tryz.results92,go_sem,cR]) rfl ⟨98,a,tb,rowL (bs tb),?_,rfl,by omega,by omega,?_⟩
     ·obtain⟨ok,h1,h2⟩:=HIX.out
      rw[h1,h2];rfl
     ·exact Ext.ad
 have h1f:(bs ⟨#[62,61]⟩).isPrefixOf (bs s)=false:=by
  have:Lib.hasPrefix (bs s) [62,61]=false:=by simpa using h1
  exact this
 rw[h1f]
 have H1:=Hy h1
 clear h1 h1f
 have tail:∀ (sg:UInt8) (x:ByteArray),x.size<=s.size->itemL (bs s)=(⟨sg,bs x,[]⟩,rowL (bs x))->True:=fun _ _ _ _=>trivial
 rcases Nat.eq_zero_or_pos s.size with hz|hz
 ·have hi:=emp_bool hz
  have HI:=Hy (item_else H0.out H1.out (by rw[bs_nil hz];decide))
  have bR:=(Blk.new w 135 #[.int .u8 0,.string ⟨#[]⟩,.string ⟨#[]⟩]).alloc (.cells #[.int .u8 94,.string s,.string ⟨#[]⟩] 135)
  go_wp2_with fail
  refine wp_region_ext_tail 4 (by kernel_rfl) (by kernel_rfl) ?_
  simp only[List.take_succ_cons,List.take_zero,List.drop_succ_cons,List.drop_zero]
  repeat (first|go_big_quiet_skip|(refine wpQuiet_step (fun K hK=>?_);go_simp;first|(refine hK _ ?_;clear hK K)|(apply Exists.intro;refine⟨fun wq hwq=>?_,hK _ ?_⟩;(obtain⟨hqc,hqf⟩:=hwq.cells;have hqs:=hwq.size;(try go_simp);first|rfl|((first|rw[if_neg (by omega)]|rw[if_pos (by omega)]);(try go_simp);rfl)|((go_at_call 161;exact (isRow_any s _ (hg.ext (Ext.trans Ext.au hwq)) (by omega)).mono (fun e w'' h=>⟨h.1,h.2 ▸ hwq⟩))));clear hK K)))
  refine wpQuiet_nil ?_
  intro wN hxN
  obtain⟨hcN,hfN⟩:=hxN.cells
  have hsN:=hxN.size
  have bRN:=bR.ext hxN
  have cRN:=bRN.cell;have fRN:=bRN.free;have zRN:=bRN.lt
  go_wp2
  refine bodyPost_ret (v:=.tuple #[itV 94 s ⟨#[]⟩,.bool (rowL (bs s))]) (by simp[results,Tryz.results92,go_sem,cRN]) rfl ⟨94,s,⟨#[]⟩,_,HI.out,rfl,Nat.le_refl _,Nat.zero_le _,?_⟩
  have hxWN:Ext w wN:=Ext.trans Ext.au hxN
  exact Ext.ad
 have hi:=nemp_bool hz
 have hne:(bs s).isEmpty=false:=by rw[ByteArray.toList_eq] at hi;exact hi
 have HNE:=Hy hne
 have HHD:=Hy (head_bs s hz)
 clear hne tail
 go_wp2_with fail
 refine (indexByte_any ⟨#[60,61,94,126]⟩ s[0] _).mono ?_
 rintro e w' ⟨rfl,rfl⟩
 have bR:=(Blk.new w 135 #[.int .u8 0,.string ⟨#[]⟩,.string ⟨#[]⟩]).alloc (.cells #[.int .u8 94,.string s,.string ⟨#[]⟩] 135)
 have bI:=Blk.new (w.alloc (.cells #[.int .u8 0,.string ⟨#[]⟩,.string ⟨#[]⟩] 135)) 135 #[.int .u8 94,.string s,.string ⟨#[]⟩]
 rw[World.size_alloc] at bI
 cases hc:([60,61,94,126]:Str).contains s[0]
 ·have hge:¬ 0<=Lib.indexByte (bs ⟨#[60,61,94,126]⟩) s[0]:=by have:=indexByte_out hc;show ¬ 0<=Lib.indexByte [60,61,94,126] s[0];omega
  have HI:=Hy (item_else H0.out H1.out (by rw[HNE.out,HHD.out,hc];decide))
  clear hc
  go_wp2_with fail
  refine wp_region_ext_tail 4 (by kernel_rfl) (by kernel_rfl) ?_
  simp only[List.take_succ_cons,List.take_zero,List.drop_succ_cons,List.drop_zero]
  repeat (first|go_big_quiet_skip|(refine wpQuiet_step (fun K hK=>?_);go_simp;first|(refine hK _ ?_;clear hK K)|(apply Exists.intro;refine⟨fun wq hwq=>?_,hK _ ?_⟩;(obtain⟨hqc,hqf⟩:=hwq.cells;have hqs:=hwq.size;(try go_simp);first|rfl|((first|rw[if_neg (by omega)]|rw[if_pos (by omega)]);(try go_simp);rfl)|((go_at_call 161;exact (isRow_any s _ (hg.ext (Ext.trans Ext.au hwq)) (by omega)).mono (fun e w'' h=>⟨h.1,h.2 ▸ hwq⟩))));clear hK K)))
  refine wpQuiet_nil ?_
  intro wN hxN
  obtain⟨hcN,hfN⟩:=hxN.cells
  have hsN:=hxN.size
  have bRN:=bR.ext hxN
  have cRN:=bRN.cell;have fRN:=bRN.free;have zRN:=bRN.lt
  go_wp2
  refine bodyPost_ret (v:=.tuple #[itV 94 s ⟨#[]⟩,.bool (rowL (bs s))]) (by simp[results,Tryz.results92,go_sem,cRN]) rfl ⟨94,s,⟨#[]⟩,_,HI.out,rfl,Nat.le_refl _,Nat.zero_le _,?_⟩
  have hxWN:Ext w wN:=Ext.trans Ext.au hxN
  exact Ext.ad
 ·have hge:0<=Lib.indexByte (bs ⟨#[60,61,94,126]⟩) s[0]:=by have:=indexByte_in hc;show 0<=Lib.indexByte [60,61,94,126] s[0];omega
  have hi2:=item_sign H0.out H1.out (by rw[HNE.out,HHD.out,hc];rfl)
  rw[HHD.out] at hi2
  have hd:bs (s.extract 1 s.size)=(bs s).drop 1:=Lib.extract_to_end s 1
  rw[<-hd] at hi2
  have HI:=Hy hi2
  have hsz:(s.extract 1 s.size).size<=s.size:=by simp
  clear hc hi2 hd
  go_wp2_with fail
  refine wp_region_ext_tail 5 (by kernel_rfl) (by kernel_rfl) ?_
  simp only[List.take_succ_cons,List.take_zero,List.drop_succ_cons,List.drop_zero]
  repeat (first|go_big_quiet_skip|(refine wpQuiet_step (fun K hK=>?_);go_simp;first|(refine hK _ ?_;clear hK K)|(apply Exists.intro;refine⟨fun wq hwq=>?_,hK _ ?_⟩;(obtain⟨hqc,hqf⟩:=hwq.cells;have hqs:=hwq.size;(try go_simp);first|rfl|((first|rw[if_neg (by omega)]|rw[if_pos (by omega)]);(try go_simp);rfl)|((fail)));clear hK K)))
  refine wpQuiet_nil ?_
  intro wN hxN
  obtain⟨hcN,hfN⟩:=hxN.cells
  have hsN:=hxN.size
  have bRN:=bR.ext hxN
  have bIN:=bI.ext hxN
  have cRN:=bRN.cell;have fRN:=bRN.free;have zRN:=bRN.lt
  have cIN:=bIN.cell;have fIN:=bIN.free;have zIN:=bIN.lt
  have hxWN:Ext w wN:=Ext.trans Ext.au hxN
  go_wp2_with fail
  have hW:Ext w (((wN.setCell ⟨w.heap.size+1,0,none⟩ (.int .u8 s[0].toNat)).setCell ⟨w.heap.size+1,1,none⟩ (.string (s.extract 1 s.size))).setCell ⟨w.heap.size+1,2,none⟩ (.string ⟨#[]⟩)):=Ext.ad
  have bI2:=((bIN.set 0 (.int .u8 s[0].toNat)).set 1 (.string (s.extract 1 s.size))).set 2 (.string ⟨#[]⟩)
  have bR2:=((bRN.far (p:=⟨w.heap.size+1,0,none⟩) (by simp) (.int .u8 s[0].toNat)).far (p:=⟨w.heap.size+1,1,none⟩) (by simp) (.string (s.extract 1 s.size))).far (p:=⟨w.heap.size+1,2,none⟩) (by simp) (.string ⟨#[]⟩)
  clear bRN bIN cRN fRN zRN cIN fIN zIN hxN hcN hfN hsN hxWN bR bI
  generalize (((wN.setCell ⟨w.heap.size+1,0,none⟩ (.int .u8 s[0].toNat)).setCell ⟨w.heap.size+1,1,none⟩ (.string (s.extract 1 s.size))).setCell ⟨w.heap.size+1,2,none⟩ (.string ⟨#[]⟩))=W2 at *
  have cI2:=bI2.cell
  have zI2:=bI2.lt
  refine wp_region_ext_tail 4 (by kernel_rfl) (by kernel_rfl) ?_
  simp only[List.take_succ_cons,List.take_zero,List.drop_succ_cons,List.drop_zero]
  repeat (first|go_big_quiet_skip|(refine wpQuiet_step (fun K hK=>?_);go_simp;first|(refine hK _ ?_;clear hK K)|(apply Exists.intro;refine⟨fun wq hwq=>?_,hK _ ?_⟩;(obtain⟨hqc,hqf⟩:=hwq.cells;have hqs:=hwq.size;(try go_simp);first|rfl|((first|rw[if_neg (by omega)]|rw[if_pos (by omega)]);(try go_simp);rfl)|((go_at_call 161;exact (isRow_any (s.extract 1 s.size) _ ((hg.ext hW).ext hwq) (by omega)).mono (fun e w'' h=>⟨h.1,h.2 ▸ hwq⟩))));clear hK K)))
  refine wpQuiet_nil ?_
  intro wM hxM
  obtain⟨hcM,hfM⟩:=hxM.cells
  have hsM:=hxM.size
  have hxWM:=hW.trans hxM
  have bRM:=bR2.ext hxM
  have cRM:=bRM.cell;have fRM:=bRM.free;have zRM:=bRM.lt
  go_wp2
  refine bodyPost_ret (v:=.tuple #[itV s[0] (s.extract 1 s.size) ⟨#[]⟩,.bool (rowL (bs (s.extract 1 s.size)))]) (by simp[results,Tryz.results92,go_sem,cRM]) rfl ⟨s[0],s.extract 1 s.size,⟨#[]⟩,_,HI.out,rfl,hsz,Nat.zero_le _,?_⟩
  exact Ext.ad
end
section
open Go.RowKit
theorem splitK_le (sep:Str):∀ (k:Nat) (l p:Str),p∈Lib.splitK sep 0 k l->p.length<=l.length
 | 0,l,p,h=>by
   rw[Lib.splitK,List.mem_singleton] at h
   rw[h];exact Nat.le_refl _
 | k+1,l,p,h=>by
   unfold Lib.splitK at h
   split at h
   ·rw[List.mem_singleton] at h
    rw[h];exact Nat.le_refl _
   ·rcases List.mem_cons.1 h with e|e
    ·rw[e,List.length_take];omega
    ·have:=splitK_le sep k _ p e
     rw[List.length_drop] at this
     omega
theorem split_g (s sep:ByteArray) (w:World) (hg:Good w) (hs:s.size<=2097152) (hsep:1<=sep.size) :
 Calls Tryz.prog 70 #[.string s,.string sep] w fun e w'=>∃ (b:Nat) (xs:List ByteArray),
  e=.returned (.slice (some ⟨b,0,none⟩) xs.length xs.length)∧Strs w' b xs∧xs.map bs=Lib.split (bs s) (bs sep)∧0 < xs.length∧xs.length<=s.size+1∧(∀ x∈xs,x.size<=s.size)∧Ext w w':=by
 obtain⟨m,hm⟩:=hg.maxLen
 refine (Tryz.strings_Split s sep m w (by omega) hm hsep).mono ?_
 rintro e w' ⟨rfl,rfl⟩
 have hlen:(Lib.splitB sep 0 (Lib.countB s sep) s).length=Lib.countB s sep+1:=Lib.splitB_all sep hsep 0 _ s rfl
 have hle:=Lib.countB_le sep hsep s.size s (Nat.le_refl _)
 have hmap:(Lib.splitB sep 0 (Lib.countB s sep) s).map bs=Lib.split (bs s) (bs sep):=Lib.splitB_data sep 0 _ s
 refine⟨w.heap.size,_,by rw[hlen],⟨by simp,?_⟩,hmap,by omega,by omega,fun x hx=>?_,(Ext.refl w).alloc _⟩
 ·intro k hk
  rw[World.cell?_alloc_at _ _ _ _ rfl]
  simp[hk]
 ·rw[<-bs_length,<-bs_length s]
  exact splitK_le (bs sep) _ _ _ (by
   have:bs x∈(Lib.splitB sep 0 (Lib.countB s sep) s).map bs:=List.mem_map.2 ⟨x,hx,rfl⟩
   rw[hmap] at this
   exact this)
theorem flat_take_succ {α β:Type} (f:α->List β) (l:List α) (k:Nat) (h:k < l.length):(l.take k).flatMap f++f l[k]=(l.take (k+1)).flatMap f:=by
 rw[List.take_succ_eq_append_getElem h,List.flatMap_append]
 simp
theorem flat_get {α β:Type} {f:α->List β} {m:Nat} (hf:∀ x,(f x).length=m):∀ (l:List α) (k j:Nat) (h:k < l.length),j < m->(l.flatMap f)[k * m+j]?=(f l[k])[j]?
 | x::l,0,j,_,hj=>by
   rw[List.flatMap_cons,Nat.zero_mul,Nat.zero_add,List.getElem?_append_left (by rw[hf];exact hj)]
   rfl
 | x::l,k+1,j,h,hj=>by
   rw[List.flatMap_cons,List.getElem?_append_right (by rw[hf,Nat.add_mul];omega),hf]
   rw[show (k+1) * m+j - m=k * m+j by rw[Nat.add_mul];omega]
   exact flat_get hf l k j (by simpa using h) hj
def itC (it:It):List Value:=[.int .u8 it.sign.toNat,S it.first,S it.last]
theorem itC_length (it:It):(itC it).length=3:=rfl
def spC (s:Sp):List Value:=[.bool s.hf,.bool s.ht,.int .i64 s.f.a1,.int .i64 s.f.a2,.int .i64 s.f.a3,.string s.f.a,.int .i64 s.t.a1,.int .i64 s.t.a2,.int .i64 s.t.a3,.string s.t.a]
theorem spC_length (s:Sp):(spC s).length=10:=rfl
theorem rds_own {w:World} {B n:Nat} {v:Value} {l:List Sp} (h:w.ownsRow B 130 10 v n (l.flatMap spC)) (hn:l.length=n):∃ A c,v=.slice A n c∧RdS w A l:=by
 rcases Nat.eq_zero_or_pos n with h0|h0
 ·subst h0
  have he:l=[]:=List.eq_nil_of_length_eq_zero hn
  rcases h.2 with ⟨rfl,_⟩|⟨g,cap,cur,rfl,_⟩
  ·exact⟨none,0,rfl,fun e=>absurd he e⟩
  ·exact⟨_,_,rfl,fun e=>absurd he e⟩
 ·obtain⟨g,c,rfl,hlt,hB,hc,hcell⟩:=own_form h h0
  refine⟨_,_,rfl,fun _=>⟨g,0,rfl,?_⟩⟩
  have hx:∀ k (h:k < l.length) (j:Nat) (u:Value),(spC l[k])[j]?=some u->w.cell? ⟨g,0+k * 10+j,none⟩=some u:=fun k hk j u hu=>by
   have hj:j < 10:=by
    rcases Nat.lt_or_ge j 10 with h|h
    ·exact h
    ·rw[List.getElem?_eq_none (by rw[spC_length];exact h)] at hu;cases hu
   rw[Nat.zero_add]
   exact hcell _ u (by rw[flat_get spC_length l k j hk hj];exact hu)
  exact⟨fun k hk=>hx k hk 0 _ rfl,fun k hk=>hx k hk 1 _ rfl,fun k hk=>hx k hk 2 _ rfl,fun k hk=>hx k hk 3 _ rfl,fun k hk=>hx k hk 4 _ rfl,fun k hk=>hx k hk 5 _ rfl,fun k hk=>hx k hk 6 _ rfl,
   fun k hk=>hx k hk 7 _ rfl,fun k hk=>hx k hk 8 _ rfl,fun k hk=>hx k hk 9 _ rfl⟩
theorem info_item:(Tryz.prog.info? 135).map (fun i=>(i.zero,i.size,i.bytes))=some (some (.agg #[.int .u8 0,.string ⟨#[]⟩,.string ⟨#[]⟩]),3,40):=by kernel_rfl
theorem info_span:(Tryz.prog.info? 130).map (fun i=>(i.zero,i.size,i.bytes))=some (some (.agg #[.bool false,.bool false,.int .i64 0,.int .i64 0,.int .i64 0,.string ⟨#[]⟩,.int .i64 0,.int .i64 0,.int .i64 0,.string ⟨#[]⟩]),10,88):=by kernel_rfl
def RangePost (q:List Sp × Int) (w:World) (E:Ending) (w':World):Prop :=
 ∃ A c,E=.returned (.tuple #[.agg #[.slice A q.1.length c],.int .i64 q.2])∧RdS w' A q.1∧SmallS q.1∧Ext w w'
theorem range_none {r:Int} {w w':World} (hx:Ext w w'):RangePost ([],r) w (.returned (.tuple #[.agg #[.slice none 0 0],.int .i64 r])) w' :=
 ⟨none,0,rfl,(fun h=>absurd rfl h),(fun _ h=>by cases h),hx⟩
def RdP (P:Nat->Prop) (w:World) (A:Option Addr) (l:List Sp):Prop:=l≠[]->∃ b i,A=some ⟨b,i,none⟩∧P b∧SpS w b i l
theorem RdP.rd {P:Nat->Prop} {w:World} {A:Option Addr} {l:List Sp} (h:RdP P w A l):RdS w A l:=fun hn=>by
 obtain⟨b,i,e,_,k⟩:=h hn
 exact⟨b,i,e,k⟩
theorem rdp_own {w:World} {B n:Nat} {v:Value} {l:List Sp} (h:w.ownsRow B 130 10 v n (l.flatMap spC)) (hn:l.length=n):∃ A c,v=.slice A n c∧RdP (fun b=>B<=b) w A l:=by
 obtain⟨A,c,e,hr⟩:=rds_own h hn
 refine⟨A,c,e,fun hne=>?_⟩
 obtain⟨b,o,hA,hs⟩:=hr hne
 obtain⟨g,c',e2,_,hB,_⟩:=own_form h (by rw[<-hn];exact List.length_pos_iff.2 hne)
 rw[e,hA] at e2
 injection e2 with e2
 injection e2 with e2
 injection e2 with e2
 subst e2
 exact⟨b,o,hA,hB,hs⟩
def RangePostB (q:List Sp × Int) (w:World) (E:Ending) (w':World):Prop :=
 ∃ A c,E=.returned (.tuple #[.agg #[.slice A q.1.length c],.int .i64 q.2])∧RdP (fun b=>w.heap.size<=b) w' A q.1∧SmallS q.1∧Ext w w'
theorem range_noneB {r:Int} {w w':World} (hx:Ext w w'):RangePostB ([],r) w (.returned (.tuple #[.agg #[.slice none 0 0],.int .i64 r])) w' :=
 ⟨none,0,rfl,(fun h=>absurd rfl h),(fun _ h=>by cases h),hx⟩
theorem RangePostB.weak {q:List Sp × Int} {w w':World} {E:Ending} (h:RangePostB q w E w'):RangePost q w E w':=by
 obtain⟨A,c,e,hr,hs,hx⟩:=h
 exact⟨A,c,e,hr.rd,hs,hx⟩
theorem item_len (l:Str):(itemL l).1.first.length<=l.length∧(itemL l).1.last.length<=l.length:=by
 have hc:=cutC_size 32 (l.drop 2)
 have ht:=Lib.trimPrefix_le (cutC 32 (l.drop 2)).2.1 [60]
 have hd:(l.drop 2).length<=l.length:=by rw[List.length_drop];omega
 have hd1:(l.drop 1).length<=l.length:=by rw[List.length_drop];omega
 unfold itemL
 split
 ·exact⟨Nat.zero_le _,Nat.zero_le _⟩
 ·split
  ·split
   ·exact⟨by dsimp only;omega,by dsimp only;omega⟩
   ·exact⟨hd,Nat.zero_le _⟩
  ·split
   ·exact⟨hd1,Nat.zero_le _⟩
   ·exact⟨Nat.le_refl _,Nat.zero_le _⟩
def spO (p:ByteArray):Sp × Int:=spanL (itemL (bs p)).1
theorem parse_large {s:Str} (h:1000 < s.length):parseR s=([],4):=by rw[parseR,if_pos h]
theorem parse_none {s:Str} (h1:¬ 1000 < s.length) (h:s=[110,111,110,101]):parseR s=([],0):=by rw[parseR,if_neg h1,if_pos h]
theorem parse_syn {s:Str} {xs:List ByteArray} (h1:¬ 1000 < s.length) (h2:¬ s=[110,111,110,101]) (hx:xs.map bs=Lib.split s [44,32]) {k:Nat} (hk:k < xs.length) (hs:synL (bs xs[k])=true):parseR s=([],8):=by
 rw[parseR,if_neg h1,if_neg h2,if_pos]
 rw[<-hx]
 exact List.any_eq_true.2 ⟨bs xs[k],List.mem_map.2 ⟨_,List.getElem_mem hk,rfl⟩,hs⟩
theorem parse_spans {s:Str} {xs:List ByteArray} (h1:¬ 1000 < s.length) (h2:¬ s=[110,111,110,101]) (hx:xs.map bs=Lib.split s [44,32]) (hs:∀ x∈xs,synL (bs x)=false):parseR s=spansOf (xs.map spO):=by
 rw[parseR,if_neg h1,if_neg h2,if_neg,<-hx,List.map_map]
 ·rfl
 ·rw[<-hx]
  intro h
  obtain⟨p,hp,hq⟩:=List.any_eq_true.1 h
  obtain⟨x,hxm,rfl⟩:=List.mem_map.1 hp
  rw[hs x hxm] at hq
  cases hq
theorem spans_err {q:List (Sp × Int)} {k:Nat} (hk:k < q.length) (h0:∀ x∈q.take k,x.2=0) (h:¬ q[k].2=0):spansOf q=([],q[k].2):=by
 have e:firstI (q.map (·.2))=q[k].2:=by
  have:=firstI_at (l:=q.map (·.2)) (k:=k) (by simpa using hk) (fun x hx=>by
   rw[<-List.map_take] at hx
   obtain⟨y,hy,rfl⟩:=List.mem_map.1 hx
   exact h0 y hy) (by simpa using h)
  simpa using this
 unfold spansOf
 rw[e,if_pos h]
theorem spans_rng {q:List (Sp × Int)} (h0:∀ x∈q,x.2=0) (h:¬ rngErr (q.map (·.1))=0):spansOf q=([],rngErr (q.map (·.1))):=by
 have e:firstI (q.map (·.2))=0:=firstI_zero fun x hx=>by
  obtain⟨y,hy,rfl⟩:=List.mem_map.1 hx
  exact h0 y hy
 unfold spansOf
 rw[e,if_neg (by decide),if_pos h]
theorem spans_ok {q:List (Sp × Int)} (h0:∀ x∈q,x.2=0) (h:rngErr (q.map (·.1))=0):spansOf q=(q.map (·.1),0):=by
 have e:firstI (q.map (·.2))=0:=firstI_zero fun x hx=>by
  obtain⟨y,hy,rfl⟩:=List.mem_map.1 hx
  exact h0 y hy
 unfold spansOf
 rw[e,if_neg (by decide),if_neg (by simpa using h)]
def Fine (x:Sp × Int):Prop:=x.2=0∧x.1.f.a.size<=2097152∧x.1.t.a.size<=2097152
theorem syn_of {p:Str} {it:It} {ok:Bool} (h:itemL p=(it,ok)):synL p=(!ok||(it.sign != 42&&wrongL it.first)||(it.sign==98&&wrongL it.last)):=by rw[synL,h]
end
section
open Go.RowKit
abbrev eAnd:MapEntry:=⟨.string ⟨#[97,110,100]⟩,.int .i64 7,0⟩
abbrev eOr:MapEntry:=⟨.string ⟨#[111,114]⟩,.int .i64 8,1⟩
def KindMap (w:World) (b:Nat):Prop:=w.heap[b]?=some (.map #[eAnd,eOr] 2)
theorem KindMap.lt {w:World} {b:Nat} (h:KindMap w b):b < w.heap.size:=(Array.getElem?_eq_some_iff.1 h).1
theorem KindMap.extX {g b:Nat} {w w':World} (h:KindMap w b) (hx:ExtX g w w') (hb:b≠g):KindMap w' b:=(hx.block b h.lt hb).trans h
theorem KindMap.ext {b:Nat} {w w':World} (h:KindMap w b) (hx:Ext w w'):KindMap w' b:=(hx.block b h.lt).trans h
theorem KindMap.alloc {b:Nat} {w:World} (h:KindMap w b) (o:Obj):KindMap (w.alloc o) b:=h.ext ((Ext.refl w).alloc o)
theorem KindMap.far {b:Nat} {w:World} (h:KindMap w b) {p:Addr} (hp:b≠p.block) (u:Value):KindMap (w.setCell p u) b:=(Below.heap_setCell w p u b hp).trans h
theorem KindMap.grownR {b:Nat} {row:Option Nat} {w w':World} (h:KindMap w b) (hg:w.grownBy w' row) (hne:some b≠row):KindMap w' b:=(hg.block b h.lt hne).trans h
theorem set_alloc (w:World) (o o':Obj):({ w.alloc o with heap:=(w.alloc o).heap.setIfInBounds w.heap.size o' }:World)=w.alloc o':=by
 show ({ w with heap:=(w.heap.push o).setIfInBounds w.heap.size o' }:World)={ w with heap:=w.heap.push o' }
 congr 1
 apply Array.ext_getElem?
 intro i
 rw[Array.getElem?_setIfInBounds]
 by_cases h:w.heap.size=i
 ·subst h;simp
 ·rw[if_neg h,Array.getElem?_push,Array.getElem?_push,if_neg (Ne.symm h),if_neg (Ne.symm h)]
theorem key_ok (s:ByteArray) (em:Bool) (w:World):(Instr.checkKey em 10000 9 (.string s)).run Tryz.prog w=.ok () w:=MapKept.run_checkKey (d:=.string) (k:=.string s) Tryz.underlying9 trivial em 9999
theorem kinds_ins1 (w:World):(Instr.mapUpdate 257 (.map (some w.heap.size)) (.string ⟨#[97,110,100]⟩) (.int .i64 7)).run Tryz.prog (w.alloc (.map #[] 0))=.ok () (w.alloc (.map #[eAnd] 1)):=by
 have hb:(w.alloc (.map #[] 0)).heap[w.heap.size]?=some (.map #[] 0):=by show (w.heap.push _)[w.heap.size]?=_;simp
 have ht:Tryz.prog.underlying 257=some (.map 9 3):=Tryz.underlying257
 have hf:(Instr.findKey 9 (.string ⟨#[97,110,100]⟩) []).run Tryz.prog (w.alloc (.map #[] 0))=.ok none (w.alloc (.map #[] 0)):=by
  simp[Instr.findKey,run_underlying Tryz.underlying9,Result.andThen,Instr.findNow]
 simp[Instr.mapUpdate,run_underlying ht,MapKept.run_getObj_map hb,key_ok,hf,MapKept.run_setObj_map _ hb,Result.andThen]
 exact set_alloc w _ _
theorem kinds_ins2 (w:World):(Instr.mapUpdate 257 (.map (some w.heap.size)) (.string ⟨#[111,114]⟩) (.int .i64 8)).run Tryz.prog (w.alloc (.map #[eAnd] 1))=.ok () (w.alloc (.map #[eAnd,eOr] 2)):=by
 have hb:(w.alloc (.map #[eAnd] 1)).heap[w.heap.size]?=some (.map #[eAnd] 1):=by show (w.heap.push _)[w.heap.size]?=_;simp
 have ht:Tryz.prog.underlying 257=some (.map 9 3):=Tryz.underlying257
 have hn:Instr.findNow .string (.string ⟨#[111,114]⟩) [eAnd] 0=some none:=rfl
 have hf:(Instr.findKey 9 (.string ⟨#[111,114]⟩) [eAnd]).run Tryz.prog (w.alloc (.map #[eAnd] 1))=.ok none (w.alloc (.map #[eAnd] 1)):=by
  simp[Instr.findKey,run_underlying Tryz.underlying9,Result.andThen,hn]
 simp[Instr.mapUpdate,run_underlying ht,MapKept.run_getObj_map hb,key_ok,hf,MapKept.run_setObj_map _ hb,Result.andThen]
 exact set_alloc w _ _
theorem kinds_and {w:World} {b:Nat} (h:KindMap w b):(Instr.lookup 257 (.map (some b)) (.string ⟨#[97,110,100]⟩) false).run Tryz.prog w=.ok (.int .i64 7) w:=by
 have ht:Tryz.prog.underlying 257=some (.map 9 3):=Tryz.underlying257
 have hn:Instr.findNow .string (.string ⟨#[97,110,100]⟩) [eAnd,eOr] 0=some (some (0,.int .i64 7)):=rfl
 have hf:(Instr.findKey 9 (.string ⟨#[97,110,100]⟩) [eAnd,eOr]).run Tryz.prog w=.ok (some (0,.int .i64 7)) w:=by
  simp[Instr.findKey,run_underlying Tryz.underlying9,Result.andThen,hn]
 simp[Instr.lookup,run_underlying ht,MapKept.run_getObj_map h,key_ok,hf,Result.andThen]
theorem kinds_or {w:World} {b:Nat} (h:KindMap w b):(Instr.lookup 257 (.map (some b)) (.string ⟨#[111,114]⟩) false).run Tryz.prog w=.ok (.int .i64 8) w:=by
 have ht:Tryz.prog.underlying 257=some (.map 9 3):=Tryz.underlying257
 have hn:Instr.findNow .string (.string ⟨#[111,114]⟩) [eAnd,eOr] 0=some (some (1,.int .i64 8)):=rfl
 have hf:(Instr.findKey 9 (.string ⟨#[111,114]⟩) [eAnd,eOr]).run Tryz.prog w=.ok (some (1,.int .i64 8)) w:=by
  simp[Instr.findKey,run_underlying Tryz.underlying9,Result.andThen,hn]
 simp[Instr.lookup,run_underlying ht,MapKept.run_getObj_map h,key_ok,hf,Result.andThen]
end
end Go.Proofs.YtmnafaaijglnfaaGreatDoor
