/- Contracts of ver.isRow, wrong, spanText, PrintRange; ver.Parse, Next, text in the words of V4. Contracts of ver.itemOf, behind. -/
import Derived.Test.YtmnafaaijglnfaaGreatDoorMg13
import Derived.Test.YtmnafaaijglnfaaGreatDoorMg14
namespace Go.Proofs.YtmnafaaijglnfaaGreatDoor
section
open Go.RowKit
theorem isRow_any (s:ByteArray) (w:World) (hg:Good w) (hs:s.size<=2097152) :
 Calls Tryz.prog 161 #[.string s] w fun e w'=>e=.returned (.bool (rowL (bs s)))∧w=w':=by
 go_enter Tryz.func161,Tryz.ntmps161
 go_wp2_with (go_at_call 232;refine (contains_any 32 s _ hg hs).mono ?_;rintro e w' ⟨rfl,rfl⟩)
 go_ret
 exact⟨ret_bool (by simp[rowL]),rfl⟩
theorem parse_val {s b:ByteArray} (hb:bs b=(parseV (bs s)).1.2.2.2):(⟨(parseV (bs s)).1.2.2.2.toArray⟩:ByteArray)=b:=by rw[<-hb,mk_bs]
theorem Parse_x (s:ByteArray) (w:World) (hg:GoodN w) (hs:s.size<=2097152) :
 Calls Tryz.prog 26 #[.string s] w fun e w'=>∃ v r,pV (bs s)=(v,r)∧e=.returned (.tuple #[verV v,.int .i64 r])∧v.a.size<=s.size∧Ext w w' :=
 (Parse_any s w hg hs).mono fun _ _ ⟨b,hp,hb,hz,hx⟩=>by
   rw[bs_length] at hz
   refine⟨⟨(parseV (bs s)).1.1,(parseV (bs s)).1.2.1,(parseV (bs s)).1.2.2.1,b⟩,(parseV (bs s)).2,?_,hp,hz,hx⟩
   unfold pV
   rw[parse_val hb]
theorem Read_x (s:ByteArray) (w:World) (hg:GoodN w) (hs:s.size<=2097152) :
 Calls Tryz.prog 27 #[.string s] w fun e w'=>∃ v r,pV (bs s)=(v,r)∧e=.returned (.tuple #[verV v,.int .i64 r])∧v.a.size<=s.size∧Ext w w' :=
 (ReadVersion_any s w hg hs).mono fun _ _ ⟨b,hp,hb,hz,hx⟩=>by
   rw[bs_length] at hz
   refine⟨⟨(parseV (bs s)).1.1,(parseV (bs s)).1.2.1,(parseV (bs s)).1.2.2.1,b⟩,(parseV (bs s)).2,?_,hp,hz,hx⟩
   unfold pV
   rw[parse_val hb]
theorem Next_x (v:V4) (part:Int) (w:World) (hg:Good w) (hs:v.a.size<=2097152) :
 Calls Tryz.prog 14 #[verV v,.int .i64 part] w fun e w'=>∃ x y z r,nV v part=(⟨x,y,z,⟨#[]⟩⟩,r)∧e=.returned (.tuple #[verV ⟨x,y,z,⟨#[]⟩⟩,.int .i64 r])∧Ext w w' :=
 (Next_any v.a1 v.a2 v.a3 part v.a w hg hs).mono fun _ _ ⟨h,hx⟩=>⟨_,_,_,_,rfl,h,hx⟩
theorem NextOf_x (v:V4) (part:Int) (w:World) (hg:Good w) (hs:v.a.size<=2097152) :
 Calls Tryz.prog 15 #[verV v,.int .i64 part] w fun e w'=>∃ x y z r,nV v part=(⟨x,y,z,⟨#[]⟩⟩,r)∧e=.returned (.tuple #[verV ⟨x,y,z,⟨#[]⟩⟩,.int .i64 r])∧Ext w w' :=
 (NextOf_any v.a1 v.a2 v.a3 part v.a w hg hs).mono fun _ _ ⟨h,hx⟩=>⟨_,_,_,_,rfl,h,hx⟩
set_option maxHeartbeats 1000000 in
theorem wrong_any (s:ByteArray) (w:World) (hg:GoodN w) (hs:s.size<=2097152) :
 Calls Tryz.prog 93 #[.string s] w fun e w'=>e=.returned (.bool (wrongL (bs s)))∧Ext w w':=by
 go_enter Tryz.func93,Tryz.ntmps93
 go_wp2_with fail
 refine (Parse_x s _ hg hs).mono ?_
 rintro e w1 ⟨⟨x,y,z,b⟩,r,hp,rfl,_,hx1⟩
 have HP:=Hy hp
 clear hp
 by_cases h8:r=8
 ·subst h8
  go_wp2
  go_ret
  exact⟨ret_bool (by unfold wrongL;rw[HP.out];rfl),hx1.alloc _⟩
 ·have H8:=Hy h8
  have hb:(r==8)=false:=by rw[beq_eq_false_iff_ne];exact h8
  go_wp2
  go_ret
  exact⟨ret_bool (by unfold wrongL;rw[HP.out];exact (decide_eq_false H8.out).symm),hx1.alloc _⟩
end
section
open Go.RowKit
abbrev itV (sg:UInt8) (a b:ByteArray):Value:=.agg #[.int .u8 sg.toNat,.string a,.string b]
def ItemPost (s:ByteArray) (w:World) (E:Ending) (w':World):Prop :=
 ∃ (sg:UInt8) (a b:ByteArray) (ok:Bool),itemL (bs s)=(⟨sg,bs a,bs b⟩,ok)∧E=.returned (.tuple #[itV sg a b,.bool ok])∧a.size<=s.size∧b.size<=s.size∧Ext w w'
theorem item_star {l:Str} (h:l=[42]):itemL l=(⟨42,[],[]⟩,true):=by rw[itemL,if_pos h]
theorem item_two {l a b:Str} (h0:¬ l=[42]) (h1:Lib.hasPrefix l [62,61]=true) (h2:cutC 32 (l.drop 2)=(a,b,true)) :
 itemL l=(⟨98,a,Lib.trimPrefix b [60]⟩,Lib.hasPrefix b [60]&&rowL a&&rowL (Lib.trimPrefix b [60])):=by
 rw[itemL,if_neg h0,if_pos h1,h2,if_pos rfl]
theorem item_from {l a b:Str} (h0:¬ l=[42]) (h1:Lib.hasPrefix l [62,61]=true) (h2:cutC 32 (l.drop 2)=(a,b,false)):itemL l=(⟨62,l.drop 2,[]⟩,rowL (l.drop 2)):=by
 rw[itemL,if_neg h0,if_pos h1,h2,if_neg (by simp)]
theorem item_sign {l:Str} (h0:¬ l=[42]) (h1:¬ Lib.hasPrefix l [62,61]=true) (h2:(!l.isEmpty&&[60,61,94,126].contains (l.headD 0))=true):itemL l=(⟨l.headD 0,l.drop 1,[]⟩,rowL (l.drop 1)):=by
 rw[itemL,if_neg h0,if_neg h1,if_pos h2]
theorem item_else {l:Str} (h0:¬ l=[42]) (h1:¬ Lib.hasPrefix l [62,61]=true) (h2:¬ (!l.isEmpty&&[60,61,94,126].contains (l.headD 0))=true):itemL l=(⟨94,l,[]⟩,rowL l):=by
 rw[itemL,if_neg h0,if_neg h1,if_neg h2]
theorem trimPrefix_size (b:ByteArray) (p:Str):(⟨(Lib.trimPrefix (bs b) p).toArray⟩:ByteArray).size<=b.size:=by
 have:=Lib.trimPrefix_le (bs b) p
 rw[bs_length] at this
 rw[<-bs_length,bs_mk]
 exact this
theorem trim_hit {l p:Str} (h:Lib.hasPrefix l p=true):Lib.trimPrefix l p=l.drop p.length:=by rw[Lib.trimPrefix,if_pos h]
set_option maxHeartbeats 8000000 in
theorem itemOf_any (s:ByteArray) (w:World) (hg:Good w) (hs:s.size<=2097152) :
 Calls Tryz.prog 92 #[.string s] w (ItemPost s w):=by
 go_enter Tryz.func92,Tryz.ntmps92
 by_cases h0:bs s=[42]
 ·have he:(s.toList==[42])=true:=by rw[lit_beq,beq_iff_eq];exact h0
  have HI:=Hy (item_star h0)
  clear h0
  go_wp2
  refine bodyPost_ret (v:=.tuple #[itV 42 ⟨#[]⟩ ⟨#[]⟩,.bool true]) (by simp[results,Tryz.results92,go_sem]) rfl ⟨42,⟨#[]⟩,⟨#[]⟩,true,HI.out,rfl,Nat.zero_le _,Nat.zero_le _,Ext.au⟩
 have he:(s.toList==[42])=false:=by rw[lit_beq,beq_eq_false_iff_ne];exact h0
 have H0:=Hy h0
 clear h0
 go_wp2_with fail
 refine (cutPrefix_any s ⟨#[62,61]⟩ _).mono ?_
 rintro e w' ⟨rfl,rfl⟩
 by_cases h1:Lib.hasPrefix (bs s) [62,61]=true
 ·have h1':(bs ⟨#[62,61]⟩).isPrefixOf (bs s)=true:=h1
  rw[h1']
  have htp:bs (⟨(Lib.trimPrefix (bs s) (bs ⟨#[62,61]⟩)).toArray⟩:ByteArray)=(bs s).drop 2:=by rw[bs_mk];exact trim_hit h1
  have hsz:(⟨(Lib.trimPrefix (bs s) (bs ⟨#[62,61]⟩)).toArray⟩:ByteArray).size<=s.size:=trimPrefix_size s _
  dsimp only[S]
  generalize (⟨(Lib.trimPrefix (bs s) (bs ⟨#[62,61]⟩)).toArray⟩:ByteArray)=fr at *
  have HTP:=Hy htp
  have H1:=Hy h1
  clear h1 h1' htp
  go_wp2_with fail
  refine (cut_ex 32 fr _ (hg.ext Ext.au) (by omega)).mono ?_
  rintro e w1 ⟨a,b,fl,rfl,hcut,hsa,hsb,hx1⟩
  rw[HTP.out] at hcut
  have hx:Ext w w1:=Ext.trans Ext.au hx1
  have bR:=((Blk.new w 135 #[.int .u8 0,.string ⟨#[]⟩,.string ⟨#[]⟩]).alloc (.cells #[.int .u8 62,.string fr,.string ⟨#[]⟩] 135)).ext hx1
  have bI:=(Blk.new (w.alloc (.cells #[.int .u8 0,.string ⟨#[]⟩,.string ⟨#[]⟩] 135)) 135 #[.int .u8 62,.string fr,.string ⟨#[]⟩]).ext hx1
  rw[World.size_alloc] at bI
  have cR:=bR.cell;have fR:=bR.free;have zR:=bR.lt
  have cI:=bI.cell;have zI:=bI.lt
  clear hx1
  cases fl
  ·have HI:=Hy (item_from H0.out H1.out hcut)
   rw[<-HTP.out] at HI
   clear hcut
   go_wp2_with fail
   refine wp_region_ext_tail 4 (by kernel_rfl) (by kernel_rfl) ?_
   simp only[List.take_succ_cons,List.take_zero,List.drop_succ_cons,List.drop_zero]
   repeat (first|go_big_quiet_skip|(refine wpQuiet_step (fun K hK=>?_);go_simp;first|(refine hK _ ?_;clear hK K)|(apply Exists.intro;refine⟨fun wq hwq=>?_,hK _ ?_⟩;(obtain⟨hqc,hqf⟩:=hwq.cells;have hqs:=hwq.size;(try go_simp);first|rfl|((first|rw[if_neg (by omega)]|rw[if_pos (by omega)]);(try go_simp);rfl)|((go_at_call 161;exact (isRow_any fr _ ((hg.ext hx).ext hwq) (by omega)).mono (fun e w'' h=>⟨h.1,h.2 ▸ hwq⟩))));clear hK K)))
   refine wpQuiet_nil ?_
   intro wN hxN
   obtain⟨hcN,hfN⟩:=hxN.cells
   have hsN:=hxN.size
   have bRN:=bR.ext hxN
   have cRN:=bRN.cell;have fRN:=bRN.free;have zRN:=bRN.lt
   go_wp2
   refine bodyPost_ret (v:=.tuple #[itV 62 fr ⟨#[]⟩,.bool (rowL (bs fr))]) (by simp[results,Tryz.results92,go_sem,cRN]) rfl ⟨62,fr,⟨#[]⟩,_,HI.out,rfl,hsz,Nat.zero_le _,?_⟩
   have hxWN:=hx.trans hxN
   exact Ext.ad
  ·have HI:=Hy (item_two H0.out H1.out hcut)
   clear hcut
   go_wp2_with fail
   refine (cutPrefix_any b ⟨#[60]⟩ _).mono ?_
   rintro e w' ⟨rfl,rfl⟩
   have hto:bs (⟨(Lib.trimPrefix (bs b) (bs ⟨#[60]⟩)).toArray⟩:ByteArray)=Lib.trimPrefix (bs b) [60]:=by rw[bs_mk]
   have hsz2:(⟨(Lib.trimPrefix (bs b) (bs ⟨#[60]⟩)).toArray⟩:ByteArray).size<=b.size:=trimPrefix_size b _
   dsimp only[S]
   have hle:(bs ⟨#[60]⟩).isPrefixOf (bs b)=Lib.hasPrefix (bs b) [60]:=rfl
   rw[hle]
   generalize (⟨(Lib.trimPrefix (bs b) (bs ⟨#[60]⟩)).toArray⟩:ByteArray)=tb at *
   rw[<-hto] at HI
   clear hto hle
   have HIX:Hid (∃ ok,itemL (bs s)=(⟨98,bs a,bs tb⟩,ok)∧ok=(Lib.hasPrefix (bs b) [60]&&rowL (bs a)&&rowL (bs tb))):=Hy ⟨_,HI.out,rfl⟩
   clear HI
   cases hp:Lib.hasPrefix (bs b) [60]
   ·rw[hp] at HIX
    clear hp
    go_wp2
    refine bodyPost_ret (v:=.tuple #[itV 98 a tb,.bool false]) (by simp[results,Tryz.results92,go_sem,cR]) rfl ⟨98,a,tb,false,?_,rfl,by omega,by omega,?_⟩
    ·obtain⟨ok,h1,h2⟩:=HIX.out
     rw[h1,h2];rfl
    ·exact Ext.ad
   ·rw[hp] at HIX
    clear hp
    go_wp2_with fail
    refine (isRow_any a _ (hg.ext hx) (by omega)).mono ?_
    rintro e w' ⟨rfl,rfl⟩
    cases hp:rowL (bs a)
    ·rw[hp] at HIX
     clear hp
     go_wp2
     refine bodyPost_ret (v:=.tuple #[itV 98 a tb,.bool false]) (by simp[results,Tryz.results92,go_sem,cR]) rfl ⟨98,a,tb,false,?_,rfl,by omega,by omega,?_⟩
     ·obtain⟨ok,h1,h2⟩:=HIX.out
      rw[h1,h2];rfl
     ·exact Ext.ad
    ·rw[hp] at HIX
     clear hp
     go_wp2_with fail
     refine (isRow_any tb _ (hg.ext hx) (by omega)).mono ?_
     rintro e w' ⟨rfl,rfl⟩
     go_wp2
     refine bodyPost_ret (v:=.tuple #[itV 98 a tb,.bool (rowL (bs tb))]) (by simp[results,Tryz.results92,go_sem,cR]) rfl ⟨98,a,tb,rowL (bs tb),?_,rfl,by omega,by omega,?_⟩
     ·obtain⟨ok,h1,h2⟩:=HIX.out
      rw[h1,h2];rfl
     ·exact Ext.ad
 have h1f:(bs ⟨#[62,61]⟩).isPrefixOf (bs s)=false:=by
  have:Lib.hasPrefix (bs s) [62,61]=false:=by simpa using h1
  exact this
 rw[h1f]
 have H1:=Hy h1
 clear h1 h1f
 have tail:∀ (sg:UInt8) (x:ByteArray),x.size<=s.size->itemL (bs s)=(⟨sg,bs x,[]⟩,rowL (bs x))->True:=fun _ _ _ _=>trivial
 rcases Nat.eq_zero_or_pos s.size with hz|hz
 ·have hi:=emp_bool hz
  have HI:=Hy (item_else H0.out H1.out (by rw[bs_nil hz];decide))
  have bR:=(Blk.new w 135 #[.int .u8 0,.string ⟨#[]⟩,.string ⟨#[]⟩]).alloc (.cells #[.int .u8 94,.string s,.string ⟨#[]⟩] 135)
  go_wp2_with fail
  refine wp_region_ext_tail 4 (by kernel_rfl) (by kernel_rfl) ?_
  simp only[List.take_succ_cons,List.take_zero,List.drop_succ_cons,List.drop_zero]
  repeat (first|go_big_quiet_skip|(refine wpQuiet_step (fun K hK=>?_);go_simp;first|(refine hK _ ?_;clear hK K)|(apply Exists.intro;refine⟨fun wq hwq=>?_,hK _ ?_⟩;(obtain⟨hqc,hqf⟩:=hwq.cells;have hqs:=hwq.size;(try go_simp);first|rfl|((first|rw[if_neg (by omega)]|rw[if_pos (by omega)]);(try go_simp);rfl)|((go_at_call 161;exact (isRow_any s _ (hg.ext (Ext.trans Ext.au hwq)) (by omega)).mono (fun e w'' h=>⟨h.1,h.2 ▸ hwq⟩))));clear hK K)))
  refine wpQuiet_nil ?_
  intro wN hxN
  obtain⟨hcN,hfN⟩:=hxN.cells
  have hsN:=hxN.size
  have bRN:=bR.ext hxN
  have cRN:=bRN.cell;have fRN:=bRN.free;have zRN:=bRN.lt
  go_wp2
  refine bodyPost_ret (v:=.tuple #[itV 94 s ⟨#[]⟩,.bool (rowL (bs s))]) (by simp[results,Tryz.results92,go_sem,cRN]) rfl ⟨94,s,⟨#[]⟩,_,HI.out,rfl,Nat.le_refl _,Nat.zero_le _,?_⟩
  have hxWN:Ext w wN:=Ext.trans Ext.au hxN
  exact Ext.ad
 have hi:=nemp_bool hz
 have hne:(bs s).isEmpty=false:=by rw[ByteArray.toList_eq] at hi;exact hi
 have HNE:=Hy hne
 have HHD:=Hy (head_bs s hz)
 clear hne tail
 go_wp2_with fail
 refine (indexByte_any ⟨#[60,61,94,126]⟩ s[0] _).mono ?_
 rintro e w' ⟨rfl,rfl⟩
 have bR:=(Blk.new w 135 #[.int .u8 0,.string ⟨#[]⟩,.string ⟨#[]⟩]).alloc (.cells #[.int .u8 94,.string s,.string ⟨#[]⟩] 135)
 have bI:=Blk.new (w.alloc (.cells #[.int .u8 0,.string ⟨#[]⟩,.string ⟨#[]⟩] 135)) 135 #[.int .u8 94,.string s,.string ⟨#[]⟩]
 rw[World.size_alloc] at bI
 cases hc:([60,61,94,126]:Str).contains s[0]
 ·have hge:¬ 0<=Lib.indexByte (bs ⟨#[60,61,94,126]⟩) s[0]:=by have:=indexByte_out hc;show ¬ 0<=Lib.indexByte [60,61,94,126] s[0];omega
  have HI:=Hy (item_else H0.out H1.out (by rw[HNE.out,HHD.out,hc];decide))
  clear hc
  go_wp2_with fail
  refine wp_region_ext_tail 4 (by kernel_rfl) (by kernel_rfl) ?_
  simp only[List.take_succ_cons,List.take_zero,List.drop_succ_cons,List.drop_zero]
  repeat (first|go_big_quiet_skip|(refine wpQuiet_step (fun K hK=>?_);go_simp;first|(refine hK _ ?_;clear hK K)|(apply Exists.intro;refine⟨fun wq hwq=>?_,hK _ ?_⟩;(obtain⟨hqc,hqf⟩:=hwq.cells;have hqs:=hwq.size;(try go_simp);first|rfl|((first|rw[if_neg (by omega)]|rw[if_pos (by omega)]);(try go_simp);rfl)|((go_at_call 161;exact (isRow_any s _ (hg.ext (Ext.trans Ext.au hwq)) (by omega)).mono (fun e w'' h=>⟨h.1,h.2 ▸ hwq⟩))));clear hK K)))
  refine wpQuiet_nil ?_
  intro wN hxN
  obtain⟨hcN,hfN⟩:=hxN.cells
  have hsN:=hxN.size
  have bRN:=bR.ext hxN
  have cRN:=bRN.cell;have fRN:=bRN.free;have zRN:=bRN.lt
  go_wp2
  refine bodyPost_ret (v:=.tuple #[itV 94 s ⟨#[]⟩,.bool (rowL (bs s))]) (by simp[results,Tryz.results92,go_sem,cRN]) rfl ⟨94,s,⟨#[]⟩,_,HI.out,rfl,Nat.le_refl _,Nat.zero_le _,?_⟩
  have hxWN:Ext w wN:=Ext.trans Ext.au hxN
  exact Ext.ad
 ·have hge:0<=Lib.indexByte (bs ⟨#[60,61,94,126]⟩) s[0]:=by have:=indexByte_in hc;show 0<=Lib.indexByte [60,61,94,126] s[0];omega
  have hi2:=item_sign H0.out H1.out (by rw[HNE.out,HHD.out,hc];rfl)
  rw[HHD.out] at hi2
  have hd:bs (s.extract 1 s.size)=(bs s).drop 1:=Lib.extract_to_end s 1
  rw[<-hd] at hi2
  have HI:=Hy hi2
  have hsz:(s.extract 1 s.size).size<=s.size:=by simp
  clear hc hi2 hd
  go_wp2_with fail
  refine wp_region_ext_tail 5 (by kernel_rfl) (by kernel_rfl) ?_
  simp only[List.take_succ_cons,List.take_zero,List.drop_succ_cons,List.drop_zero]
  repeat (first|go_big_quiet_skip|(refine wpQuiet_step (fun K hK=>?_);go_simp;first|(refine hK _ ?_;clear hK K)|(apply Exists.intro;refine⟨fun wq hwq=>?_,hK _ ?_⟩;(obtain⟨hqc,hqf⟩:=hwq.cells;have hqs:=hwq.size;(try go_simp);first|rfl|((first|rw[if_neg (by omega)]|rw[if_pos (by omega)]);(try go_simp);rfl)|((fail)));clear hK K)))
  refine wpQuiet_nil ?_
  intro wN hxN
  obtain⟨hcN,hfN⟩:=hxN.cells
  have hsN:=hxN.size
  have bRN:=bR.ext hxN
  have bIN:=bI.ext hxN
  have cRN:=bRN.cell;have fRN:=bRN.free;have zRN:=bRN.lt
  have cIN:=bIN.cell;have fIN:=bIN.free;have zIN:=bIN.lt
  have hxWN:Ext w wN:=Ext.trans Ext.au hxN
  go_wp2_with fail
  have hW:Ext w (((wN.setCell ⟨w.heap.size+1,0,none⟩ (.int .u8 s[0].toNat)).setCell ⟨w.heap.size+1,1,none⟩ (.string (s.extract 1 s.size))).setCell ⟨w.heap.size+1,2,none⟩ (.string ⟨#[]⟩)):=Ext.ad
  have bI2:=((bIN.set 0 (.int .u8 s[0].toNat)).set 1 (.string (s.extract 1 s.size))).set 2 (.string ⟨#[]⟩)
  have bR2:=((bRN.far (p:=⟨w.heap.size+1,0,none⟩) (by simp) (.int .u8 s[0].toNat)).far (p:=⟨w.heap.size+1,1,none⟩) (by simp) (.string (s.extract 1 s.size))).far (p:=⟨w.heap.size+1,2,none⟩) (by simp) (.string ⟨#[]⟩)
  clear bRN bIN cRN fRN zRN cIN fIN zIN hxN hcN hfN hsN hxWN bR bI
  generalize (((wN.setCell ⟨w.heap.size+1,0,none⟩ (.int .u8 s[0].toNat)).setCell ⟨w.heap.size+1,1,none⟩ (.string (s.extract 1 s.size))).setCell ⟨w.heap.size+1,2,none⟩ (.string ⟨#[]⟩))=W2 at *
  have cI2:=bI2.cell
  have zI2:=bI2.lt
  refine wp_region_ext_tail 4 (by kernel_rfl) (by kernel_rfl) ?_
  simp only[List.take_succ_cons,List.take_zero,List.drop_succ_cons,List.drop_zero]
  repeat (first|go_big_quiet_skip|(refine wpQuiet_step (fun K hK=>?_);go_simp;first|(refine hK _ ?_;clear hK K)|(apply Exists.intro;refine⟨fun wq hwq=>?_,hK _ ?_⟩;(obtain⟨hqc,hqf⟩:=hwq.cells;have hqs:=hwq.size;(try go_simp);first|rfl|((first|rw[if_neg (by omega)]|rw[if_pos (by omega)]);(try go_simp);rfl)|((go_at_call 161;exact (isRow_any (s.extract 1 s.size) _ ((hg.ext hW).ext hwq) (by omega)).mono (fun e w'' h=>⟨h.1,h.2 ▸ hwq⟩))));clear hK K)))
  refine wpQuiet_nil ?_
  intro wM hxM
  obtain⟨hcM,hfM⟩:=hxM.cells
  have hsM:=hxM.size
  have hxWM:=hW.trans hxM
  have bRM:=bR2.ext hxM
  have cRM:=bRM.cell;have fRM:=bRM.free;have zRM:=bRM.lt
  go_wp2
  refine bodyPost_ret (v:=.tuple #[itV s[0] (s.extract 1 s.size) ⟨#[]⟩,.bool (rowL (bs (s.extract 1 s.size)))]) (by simp[results,Tryz.results92,go_sem,cRM]) rfl ⟨s[0],s.extract 1 s.size,⟨#[]⟩,_,HI.out,rfl,hsz,Nat.zero_le _,?_⟩
  exact Ext.ad
end
end Go.Proofs.YtmnafaaijglnfaaGreatDoor
