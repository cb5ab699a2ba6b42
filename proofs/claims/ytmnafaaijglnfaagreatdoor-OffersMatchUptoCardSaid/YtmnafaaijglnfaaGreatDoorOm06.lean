/- Contract of outref2.ReadVersion. Plain law: the reference's order of words is the program's. Contract of outref2.CompareOf, at right versions. Plain law: ranges, their errors, their texts, and what reads them; the reference's reading is the program's. Plain law: what ver.PrintRange writes, ver.ParseRange reads back. Spans and ranges in memory; the struct equalities that the walks meet; slices.Equal over spans. The law outlaw2.RangesPrint: its walk. Versions, spans and ranges among the arguments. Settings: plain words, and settings in memory. Maps of strings that the call itself has made. Contract of outref2.Facts. Settings among the arguments. The order of versions is a total order. Plain words. Ranges as intervals of places: what two ranges have in common, span by span and by a scan over all ends. Plain words. Contracts of ver.within, names, has, Has. Plain law: the value of a key among ordered settings. -/
import Derived.Test.YtmnafaaijglnfaaGreatDoorOm04
import Derived.Deep.DeepCutAuto
import Derived.Maps.OwnSet
import Derived.Maps.StringElems
import Derived.Sort.Walk0
namespace Go.Proofs.YtmnafaaijglnfaaGreatDoor
section
open Go.RowKit
theorem VerS.one {w:World} {b:Nat} {a1 a2 a3:Int} {a:ByteArray} (h0:w.cell? ⟨b,0,none⟩=some (.int .i64 a1)) (h1:w.cell? ⟨b,1,none⟩=some (.int .i64 a2)) (h2:w.cell? ⟨b,2,none⟩=some (.int .i64 a3)) (h3:w.cell? ⟨b,3,none⟩=some (.string a)):VerS w b [⟨a1,a2,a3,a⟩]:=by
 constructor
 all_goals intro k hk
 all_goals obtain rfl:k=0:=by simpa using hk
 ·exact h0
 ·exact h1
 ·exact h2
 ·exact h3
theorem err_one (a1 a2 a3:Int) (a:ByteArray):firstI ([(⟨a1,a2,a3,a⟩:V4)].map V4.err)=checkV a1 a2 a3 (bs a):=by
 show firstI [checkV a1 a2 a3 (bs a)]=_
 unfold firstI
 split
 ·rename_i h;rw[h];rfl
 ·rfl
set_option maxHeartbeats 2000000 in
theorem ReadVersion_any (s:ByteArray) (w:World) (hg:GoodN w) (hs:s.size<=2097152) :
 Calls Tryz.prog 27 #[.string s] w (ParsePost (bs s) w):=by
 go_enter Tryz.func27,Tryz.ntmps27
 go_wp2_with fail
 refine (cut_ex 45 s _ (hg.toGood.ext Ext.au) hs).mono ?_
 rintro e w1 ⟨nb,eb,fl,rfl,hcut,hsn,hse,hx1⟩
 have HCUT:=Hy hcut
 clear hcut
 go_wp2_with fail
 refine (split_any 46 nb _ ((hg.toGood.ext Ext.au).ext hx1) (by omega)).mono ?_
 rintro e w2 ⟨b,xs,rfl,hb0,hst,hxs,hx2⟩
 have hxx:Ext w w2:=(Ext.trans Ext.au hx1).trans hx2
 have hR:=((Blk.new w 23 #[.int .i64 0,.int .i64 0,.int .i64 0,.string ⟨#[]⟩]).ext hx1).ext hx2
 have rc:=hR.cell
 have rf:=hR.free
 have rl:=hR.lt
 by_cases h3:xs.length=3
 ·obtain⟨x,y,z,rfl⟩:=three h3
  have hsp:splitC 46 (cutC 45 (bs s)).1=[bs x,bs y,bs z]:=by rw[HCUT.out,<-hxs];rfl
  have HSP:=Hy hsp
  have c0:w2.cell? ⟨b,0,none⟩=some (.string x):=hst.cell 0 (by simp)
  have c1:w2.cell? ⟨b,1,none⟩=some (.string y):=hst.cell 1 (by simp)
  have c2:w2.cell? ⟨b,2,none⟩=some (.string z):=hst.cell 2 (by simp)
  have sx:x.size<=nb.size:=piece_le hxs (k:=0) (by simp)
  have sy:y.size<=nb.size:=piece_le hxs (k:=1) (by simp)
  have sz:z.size<=nb.size:=piece_le hxs (k:=2) (by simp)
  have hbl:=hst.lt
  clear h3 hxs hst hsp
  have htail:(cutC 45 (bs s)).2.2=fl∧(cutC 45 (bs s)).2.1=bs eb:=by rw[HCUT.out];exact⟨rfl,rfl⟩
  have HT:=Hy htail
  clear htail
  by_cases ht:fl=true∧eb.size=0
  ·obtain⟨rfl,he0⟩:=ht
   have hi:=emp_bool he0
   have hp:parseV (bs s)=((0,0,0,[]),8):=parse_tail HSP.out (by rw[HT.out.1,HT.out.2,bs_nil he0];rfl)
   have HP:=Hy hp
   clear hp
   go_wp2
   refine bodyPost_ret (v:=.tuple #[verVal' 0 0 0 ⟨#[]⟩,.int .i64 8]) (by simp[results,Tryz.results27,go_sem,rc]) rfl (post_parse0 HP.out ?_)
   exact Ext.ad
  have hT2:((cutC 45 (bs s)).2.2&&(cutC 45 (bs s)).2.1.isEmpty)=false:=by
   rw[HT.out.1,HT.out.2]
   cases fl
   ·rfl
   ·rcases Nat.eq_zero_or_pos eb.size with h0|h0
    ·exact absurd ⟨rfl,h0⟩ ht
    ·have:=nemp_bool h0
     rw[ByteArray.toList_eq] at this
     rw[this];rfl
  have HT2:=Hy hT2
  clear hT2
  have hq:fl=false∨(fl=true∧0 < eb.size):=by
   cases fl
   ·exact .inl rfl
   ·exact .inr ⟨rfl,Nat.pos_of_ne_zero fun h0=>ht ⟨rfl,h0⟩⟩
  clear ht
  rcases hq with rfl|⟨rfl,hq0⟩
  rotate_left
  ·have hi:=nemp_bool hq0
   go_wp2
   go_loopw [33] (fun i wr=>((i=.int .i64 0∧Blk wr w2.heap.size 115 #[.int .i64 0,.int .i64 0,.int .i64 0])∨(i=.int .i64 1∧numOk (bs x)=true∧Blk wr w2.heap.size 115 #[.int .i64 (numV (bs x)),.int .i64 0,.int .i64 0])∨(i=.int .i64 2∧numOk (bs x)=true∧numOk (bs y)=true∧Blk wr w2.heap.size 115 #[.int .i64 (numV (bs x)),.int .i64 (numV (bs y)),.int .i64 0])∨(i=.int .i64 3∧numOk (bs x)=true∧numOk (bs y)=true∧numOk (bs z)=true∧Blk wr w2.heap.size 115 #[.int .i64 (numV (bs x)),.int .i64 (numV (bs y)),.int .i64 (numV (bs z))]))∧Ext w2 wr) (fun i _=>3 - (intOf i).toNat)
   case atStart=>exact⟨.inl ⟨rfl,Blk.new w2 _ _⟩,(Ext.refl w2).alloc _⟩
   case round =>
    obtain⟨hi,hxr⟩:=hrel
    have rr:=hR.ext hxr
    have d0:=hxr.cell c0
    have d1:=hxr.cell c1
    have d2:=hxr.cell c2
    have gr:=((hg.ext Ext.au).ext hx1).ext (hx2.trans hxr)
    clear rc rf rl c0 c1 c2
    rcases hi with ⟨rfl,hA⟩|⟨rfl,o0,hA⟩|⟨rfl,o0,o1,hA⟩|⟨rfl,o0,o1,o2,hA⟩
    ·skip
     go_wp2_with fail
     refine (Number_any x _ gr (by omega)).mono ?_
     rintro e w3 ⟨rfl,hx3⟩
     have hA3:=hA.ext hx3
     have ac:=hA3.cell
     have af:=hA3.free
     have rr3:=rr.ext hx3
     have rc:=rr3.cell
     have rf:=rr3.free
     cases hk:numOk (bs x)
     ·have HP:=Hy (parse_num HSP.out HT2.out (by rw[hk];simp))
      clear hk ac af
      go_wp2
      refine bodyPost_ret (v:=.tuple #[verVal' 0 0 0 ⟨#[]⟩,.int .i64 8]) (by simp[results,Tryz.results27,go_sem,rc]) rfl (post_parse0 HP.out ?_)
      have hx4:Ext w w3:=(hxx.trans hxr).trans hx3
      exact Ext.ad
     ·have OK:=Hy hk
      clear hk rc rf
      go_wp2
      go_roundw
      case rel=>exact⟨.inr (.inl ⟨rfl,OK.out,hA3.set 0 _⟩),Ext.setCell (hxr.trans hx3) (Nat.le_refl _) _⟩
      case measure=>decide
    ·have O0:=Hy o0;clear o0
     go_wp2_with fail
     refine (Number_any y _ gr (by omega)).mono ?_
     rintro e w3 ⟨rfl,hx3⟩
     have hA3:=hA.ext hx3
     have ac:=hA3.cell
     have af:=hA3.free
     have rr3:=rr.ext hx3
     have rc:=rr3.cell
     have rf:=rr3.free
     cases hk:numOk (bs y)
     ·have HP:=Hy (parse_num HSP.out HT2.out (by rw[hk,O0.out];simp))
      clear hk ac af
      go_wp2
      refine bodyPost_ret (v:=.tuple #[verVal' 0 0 0 ⟨#[]⟩,.int .i64 8]) (by simp[results,Tryz.results27,go_sem,rc]) rfl (post_parse0 HP.out ?_)
      have hx4:Ext w w3:=(hxx.trans hxr).trans hx3
      exact Ext.ad
     ·have OK:=Hy hk
      clear hk rc rf
      go_wp2
      go_roundw
      case rel=>exact⟨.inr (.inr (.inl ⟨rfl,O0.out,OK.out,hA3.set 1 _⟩)),Ext.setCell (hxr.trans hx3) (Nat.le_refl _) _⟩
      case measure=>decide
    ·have O0:=Hy o0;have O1:=Hy o1;clear o0 o1
     go_wp2_with fail
     refine (Number_any z _ gr (by omega)).mono ?_
     rintro e w3 ⟨rfl,hx3⟩
     have hA3:=hA.ext hx3
     have ac:=hA3.cell
     have af:=hA3.free
     have rr3:=rr.ext hx3
     have rc:=rr3.cell
     have rf:=rr3.free
     cases hk:numOk (bs z)
     ·have HP:=Hy (parse_num HSP.out HT2.out (by rw[hk,O0.out,O1.out];simp))
      clear hk ac af
      go_wp2
      refine bodyPost_ret (v:=.tuple #[verVal' 0 0 0 ⟨#[]⟩,.int .i64 8]) (by simp[results,Tryz.results27,go_sem,rc]) rfl (post_parse0 HP.out ?_)
      have hx4:Ext w w3:=(hxx.trans hxr).trans hx3
      exact Ext.ad
     ·have OK:=Hy hk
      clear hk rc rf
      go_wp2
      go_roundw
      case rel=>exact⟨.inr (.inr (.inr (⟨rfl,O0.out,O1.out,OK.out,hA3.set 2 _⟩))),Ext.setCell (hxr.trans hx3) (Nat.le_refl _) _⟩
      case measure=>decide
    ·have O0:=Hy o0;have O1:=Hy o1;have O2:=Hy o2;clear o0 o1 o2
     have ac:=hA.cell
     have rc:=rr.cell
     have rf:=rr.free
     have rl:=rr.lt
     have hp:=parse_ok HSP.out HT2.out O0.out O1.out O2.out
     rw[HT.out.2] at hp
     have HP:=Hy hp
     clear hp
     go_wp2_with fail
     refine (VersionError_any _ _ [⟨numV (bs x),numV (bs y),numV (bs z),eb⟩] _ (gr.toGood.ext Ext.au) ?_ ?_ (by simp)).mono ?_
     ·exact VerS.one (by rw[World.cell?_alloc_at _ _ _ _ (by simp)];rfl) (by rw[World.cell?_alloc_at _ _ _ _ (by simp)];rfl) (by rw[World.cell?_alloc_at _ _ _ _ (by simp)];rfl) (by rw[World.cell?_alloc_at _ _ _ _ (by simp)];rfl)
     ·intro v hv
      rw[List.mem_singleton] at hv
      subst hv
      show eb.size<=2097152
      omega
     rw[err_one]
     rintro e w3 ⟨rfl,hx3⟩
     have hx4:Ext w w3:=Ext.trans (Ext.trans (hxx.trans hxr) Ext.au) hx3
     have rr3:=((rr.alloc _).alloc _).ext hx3
     have rc3:=rr3.cell
     have rf3:=rr3.free
     obtain⟨hc3,hf3⟩:=hx3.cells
     clear ac rc rf
     have vb:=((Blk.new wr 23 #[.int .i64 (numV (bs x)),.int .i64 (numV (bs y)),.int .i64 (numV (bs z)),.string eb]).alloc _).ext hx3
     have vc:=vb.cell
     by_cases h5:checkV (numV (bs x)) (numV (bs y)) (numV (bs z)) (bs eb)=0
     ·have H5:=Hy h5
      rw[h5]
      clear h5
      go_wp2
      refine bodyPost_ret (v:=.tuple #[verVal' (numV (bs x)) (numV (bs y)) (numV (bs z)) eb,.int .i64 0]) (by simp[results,Tryz.results27,go_sem,rc3]) rfl (post_parse1 (by rw[HP.out,if_pos H5.out]) (by rw[bs_length];exact hse) ?_)
      exact Ext.ad
     ·have H5:=Hy h5
      go_wp2
      refine bodyPost_ret (v:=.tuple #[verVal' 0 0 0 ⟨#[]⟩,.int .i64 (checkV (numV (bs x)) (numV (bs y)) (numV (bs z)) (bs eb))]) (by simp[results,Tryz.results27,go_sem,rc3]) rfl (post_parse0 (by rw[HP.out,if_neg H5.out]) ?_)
      exact Ext.ad
  ·go_wp2
   go_loopw [33] (fun i wr=>((i=.int .i64 0∧Blk wr w2.heap.size 115 #[.int .i64 0,.int .i64 0,.int .i64 0])∨(i=.int .i64 1∧numOk (bs x)=true∧Blk wr w2.heap.size 115 #[.int .i64 (numV (bs x)),.int .i64 0,.int .i64 0])∨(i=.int .i64 2∧numOk (bs x)=true∧numOk (bs y)=true∧Blk wr w2.heap.size 115 #[.int .i64 (numV (bs x)),.int .i64 (numV (bs y)),.int .i64 0])∨(i=.int .i64 3∧numOk (bs x)=true∧numOk (bs y)=true∧numOk (bs z)=true∧Blk wr w2.heap.size 115 #[.int .i64 (numV (bs x)),.int .i64 (numV (bs y)),.int .i64 (numV (bs z))]))∧Ext w2 wr) (fun i _=>3 - (intOf i).toNat)
   case atStart=>exact⟨.inl ⟨rfl,Blk.new w2 _ _⟩,(Ext.refl w2).alloc _⟩
   case round =>
    obtain⟨hi,hxr⟩:=hrel
    have rr:=hR.ext hxr
    have d0:=hxr.cell c0
    have d1:=hxr.cell c1
    have d2:=hxr.cell c2
    have gr:=((hg.ext Ext.au).ext hx1).ext (hx2.trans hxr)
    clear rc rf rl c0 c1 c2
    rcases hi with ⟨rfl,hA⟩|⟨rfl,o0,hA⟩|⟨rfl,o0,o1,hA⟩|⟨rfl,o0,o1,o2,hA⟩
    ·skip
     go_wp2_with fail
     refine (Number_any x _ gr (by omega)).mono ?_
     rintro e w3 ⟨rfl,hx3⟩
     have hA3:=hA.ext hx3
     have ac:=hA3.cell
     have af:=hA3.free
     have rr3:=rr.ext hx3
     have rc:=rr3.cell
     have rf:=rr3.free
     cases hk:numOk (bs x)
     ·have HP:=Hy (parse_num HSP.out HT2.out (by rw[hk];simp))
      clear hk ac af
      go_wp2
      refine bodyPost_ret (v:=.tuple #[verVal' 0 0 0 ⟨#[]⟩,.int .i64 8]) (by simp[results,Tryz.results27,go_sem,rc]) rfl (post_parse0 HP.out ?_)
      have hx4:Ext w w3:=(hxx.trans hxr).trans hx3
      exact Ext.ad
     ·have OK:=Hy hk
      clear hk rc rf
      go_wp2
      go_roundw
      case rel=>exact⟨.inr (.inl ⟨rfl,OK.out,hA3.set 0 _⟩),Ext.setCell (hxr.trans hx3) (Nat.le_refl _) _⟩
      case measure=>decide
    ·have O0:=Hy o0;clear o0
     go_wp2_with fail
     refine (Number_any y _ gr (by omega)).mono ?_
     rintro e w3 ⟨rfl,hx3⟩
     have hA3:=hA.ext hx3
     have ac:=hA3.cell
     have af:=hA3.free
     have rr3:=rr.ext hx3
     have rc:=rr3.cell
     have rf:=rr3.free
     cases hk:numOk (bs y)
     ·have HP:=Hy (parse_num HSP.out HT2.out (by rw[hk,O0.out];simp))
      clear hk ac af
      go_wp2
      refine bodyPost_ret (v:=.tuple #[verVal' 0 0 0 ⟨#[]⟩,.int .i64 8]) (by simp[results,Tryz.results27,go_sem,rc]) rfl (post_parse0 HP.out ?_)
      have hx4:Ext w w3:=(hxx.trans hxr).trans hx3
      exact Ext.ad
     ·have OK:=Hy hk
      clear hk rc rf
      go_wp2
      go_roundw
      case rel=>exact⟨.inr (.inr (.inl ⟨rfl,O0.out,OK.out,hA3.set 1 _⟩)),Ext.setCell (hxr.trans hx3) (Nat.le_refl _) _⟩
      case measure=>decide
    ·have O0:=Hy o0;have O1:=Hy o1;clear o0 o1
     go_wp2_with fail
     refine (Number_any z _ gr (by omega)).mono ?_
     rintro e w3 ⟨rfl,hx3⟩
     have hA3:=hA.ext hx3
     have ac:=hA3.cell
     have af:=hA3.free
     have rr3:=rr.ext hx3
     have rc:=rr3.cell
     have rf:=rr3.free
     cases hk:numOk (bs z)
     ·have HP:=Hy (parse_num HSP.out HT2.out (by rw[hk,O0.out,O1.out];simp))
      clear hk ac af
      go_wp2
      refine bodyPost_ret (v:=.tuple #[verVal' 0 0 0 ⟨#[]⟩,.int .i64 8]) (by simp[results,Tryz.results27,go_sem,rc]) rfl (post_parse0 HP.out ?_)
      have hx4:Ext w w3:=(hxx.trans hxr).trans hx3
      exact Ext.ad
     ·have OK:=Hy hk
      clear hk rc rf
      go_wp2
      go_roundw
      case rel=>exact⟨.inr (.inr (.inr (⟨rfl,O0.out,O1.out,OK.out,hA3.set 2 _⟩))),Ext.setCell (hxr.trans hx3) (Nat.le_refl _) _⟩
      case measure=>decide
    ·have O0:=Hy o0;have O1:=Hy o1;have O2:=Hy o2;clear o0 o1 o2
     have ac:=hA.cell
     have rc:=rr.cell
     have rf:=rr.free
     have rl:=rr.lt
     have hp:=parse_ok HSP.out HT2.out O0.out O1.out O2.out
     rw[HT.out.2] at hp
     have HP:=Hy hp
     clear hp
     go_wp2_with fail
     refine (VersionError_any _ _ [⟨numV (bs x),numV (bs y),numV (bs z),eb⟩] _ (gr.toGood.ext Ext.au) ?_ ?_ (by simp)).mono ?_
     ·exact VerS.one (by rw[World.cell?_alloc_at _ _ _ _ (by simp)];rfl) (by rw[World.cell?_alloc_at _ _ _ _ (by simp)];rfl) (by rw[World.cell?_alloc_at _ _ _ _ (by simp)];rfl) (by rw[World.cell?_alloc_at _ _ _ _ (by simp)];rfl)
     ·intro v hv
      rw[List.mem_singleton] at hv
      subst hv
      show eb.size<=2097152
      omega
     rw[err_one]
     rintro e w3 ⟨rfl,hx3⟩
     have hx4:Ext w w3:=Ext.trans (Ext.trans (hxx.trans hxr) Ext.au) hx3
     have rr3:=((rr.alloc _).alloc _).ext hx3
     have rc3:=rr3.cell
     have rf3:=rr3.free
     obtain⟨hc3,hf3⟩:=hx3.cells
     clear ac rc rf
     have vb:=((Blk.new wr 23 #[.int .i64 (numV (bs x)),.int .i64 (numV (bs y)),.int .i64 (numV (bs z)),.string eb]).alloc _).ext hx3
     have vc:=vb.cell
     by_cases h5:checkV (numV (bs x)) (numV (bs y)) (numV (bs z)) (bs eb)=0
     ·have H5:=Hy h5
      rw[h5]
      clear h5
      go_wp2
      refine bodyPost_ret (v:=.tuple #[verVal' (numV (bs x)) (numV (bs y)) (numV (bs z)) eb,.int .i64 0]) (by simp[results,Tryz.results27,go_sem,rc3]) rfl (post_parse1 (by rw[HP.out,if_pos H5.out]) (by rw[bs_length];exact hse) ?_)
      exact Ext.ad
     ·have H5:=Hy h5
      go_wp2
      refine bodyPost_ret (v:=.tuple #[verVal' 0 0 0 ⟨#[]⟩,.int .i64 (checkV (numV (bs x)) (numV (bs y)) (numV (bs z)) (bs eb))]) (by simp[results,Tryz.results27,go_sem,rc3]) rfl (post_parse0 (by rw[HP.out,if_neg H5.out]) ?_)
      exact Ext.ad
 ·have b3:((xs.length:Int) != 3)=true:=by rw[bne_iff_ne];omega
  have hp:parseV (bs s)=((0,0,0,[]),8):=parse_count (by rw[HCUT.out,<-hxs,List.length_map];exact h3)
  have HP:=Hy hp
  clear hp h3 hxs hst
  go_wp2
  refine bodyPost_ret (v:=.tuple #[verVal' 0 0 0 ⟨#[]⟩,.int .i64 8]) (by simp[results,Tryz.results27,go_sem,rc]) rfl (post_parse0 HP.out ?_)
  exact Ext.ad
end
section
theorem compareInt_lt {a b:Nat} (h:a < b):Lib.compareInt a b=-1:=by unfold Lib.compareInt;rw[if_pos (by omega)]
theorem compareInt_gt {a b:Nat} (h:b < a):Lib.compareInt a b=1:=by unfold Lib.compareInt;rw[if_neg (by omega),if_pos (by omega)]
theorem compareInt_self (a:Nat):Lib.compareInt a a=0:=by unfold Lib.compareInt;rw[if_neg (by omega),if_neg (by omega)]
theorem compareBytes_self:∀ l:Str,Lib.compareBytes l l=0
 | []=>rfl
 | a::l=>by
   unfold Lib.compareBytes
   rw[if_neg (by simp),if_neg (by simp)]
   exact compareBytes_self l
theorem cmp_digits:∀ (x y:Str),x.all digitB=true->y.all digitB=true->x.length=y.length->Lib.compareBytes x y=Lib.compareInt (decVal x) (decVal y)
 | [],[],_,_,_=>rfl
 | a::x,b::y,hx,hy,hl=>by
   simp only[List.all_cons,Bool.and_eq_true] at hx hy
   simp only[List.length_cons,Nat.add_right_cancel_iff] at hl
   have ha:=digit_bounds hx.1
   have hb:=digit_bounds hy.1
   have lx:=decVal_lt x hx.2
   have ly:=decVal_lt y hy.2
   rw[decVal_cons,decVal_cons]
   unfold Lib.compareBytes
   by_cases h1:a < b
   ·rw[if_pos h1]
    have h2:a.toNat < b.toNat:=UInt8.lt_iff_toNat_lt.1 h1
    have h3:(a.toNat - 48+1) * 10 ^ x.length<=(b.toNat - 48) * 10 ^ y.length:=by rw[<-hl];exact Nat.mul_le_mul_right _ (by omega)
    rw[Nat.add_mul,Nat.one_mul] at h3
    rw[compareInt_lt (by omega)]
   ·rw[if_neg h1]
    by_cases h2:b < a
    ·rw[if_pos h2]
     have h2':b.toNat < a.toNat:=UInt8.lt_iff_toNat_lt.1 h2
     have h3:(b.toNat - 48+1) * 10 ^ y.length<=(a.toNat - 48) * 10 ^ x.length:=by rw[<-hl];exact Nat.mul_le_mul_right _ (by omega)
     rw[Nat.add_mul,Nat.one_mul] at h3
     rw[compareInt_gt (by omega)]
    ·rw[if_neg h2,cmp_digits x y hx.2 hy.2 hl]
     have h3:a=b:=by
      apply UInt8.toNat_inj.1
      rw[UInt8.lt_iff_toNat_lt] at h1 h2
      omega
     subst h3
     rw[hl]
     generalize (a.toNat - 48) * 10 ^ y.length=m
     rcases Nat.lt_trichotomy (decVal x) (decVal y) with g|g|g
     ·rw[compareInt_lt g,compareInt_lt (by omega)]
     ·rw[g,compareInt_self,compareInt_self]
     ·rw[compareInt_gt g,compareInt_gt (by omega)]
theorem decVal_ge:∀ (y:Str),y.all digitB=true->1 < y.length->y.headD 0≠48->10 ^ (y.length - 1)<=decVal y
 | [],_,h,_=>by simp at h
 | b::y,h,hl,h0=>by
   simp only[List.all_cons,Bool.and_eq_true] at h
   have hb:=digit_bounds h.1
   have h1:b.toNat≠48:=fun e=>h0 (UInt8.toNat_inj.1 e)
   rw[decVal_cons]
   have:1 * 10 ^ y.length<=(b.toNat - 48) * 10 ^ y.length:=Nat.mul_le_mul_right _ (by omega)
   simp only[List.length_cons,Nat.add_sub_cancel]
   omega
def refWord (x y:Str):Int :=
 if (x.all digitB&&y.all digitB)=true then Lib.compareInt (decVal x) (decVal y) else if x.all digitB=true then -1 else if y.all digitB=true then 1 else Lib.compareBytes x y
theorem word_parts {x:Str} (h:earlyWordL x=true):x≠[]∧x.length<=10∧numeralL x=x.all digitB∧(x.all digitB=true->1 < x.length->x.headD 0≠48):=by
 rw[earlyWord_eq] at h
 simp only[Bool.not_eq_true',Bool.or_eq_false_iff,beq_eq_false_iff_ne,decide_eq_false_iff_not,Bool.not_eq_false',Bool.and_eq_false_iff] at h
 obtain⟨⟨⟨h1,h2⟩,h3⟩,h4⟩:=h
 have h5:0 < x.length:=List.length_pos_iff.2 h1
 refine⟨h1,by omega,?_,fun hd hl=>?_⟩
 ·unfold numeralL eachL
  rw[decide_eq_true h5,decide_eq_true (by omega:x.length<=10)];simp
 ·rcases h4 with (h4|h4)|h4
  ·rw[hd] at h4;cases h4
  ·exact absurd hl h4
  ·exact h4
theorem cmp_shorter {x y:Str} (hx:x.all digitB=true) (hy:y.all digitB=true) (h0:0 < x.length) (hl:x.length < y.length) (hh:y.headD 0≠48):decVal x < decVal y:=by
 have h1:=decVal_lt x hx
 have h2:=decVal_ge y hy (by omega) hh
 have h3:(10:Nat) ^ x.length<=10 ^ (y.length - 1):=Nat.pow_le_pow_right (by decide) (by omega)
 omega
theorem word_same {x y:Str} (hx:earlyWordL x=true) (hy:earlyWordL y=true):refWord x y=cmpWordL x y:=by
 obtain⟨x0,x1,x2,x3⟩:=word_parts hx
 obtain⟨y0,y1,y2,y3⟩:=word_parts hy
 have hx0:0 < x.length:=List.length_pos_iff.2 x0
 have hy0:0 < y.length:=List.length_pos_iff.2 y0
 unfold refWord cmpWordL
 rw[x2,y2]
 by_cases h:(x.all digitB&&y.all digitB)=true
 ·rw[if_pos h,if_pos h]
  simp only[Bool.and_eq_true] at h
  by_cases hl:x.length=y.length
  ·rw[if_pos hl,cmp_digits x y h.1 h.2 hl]
  ·rw[if_neg hl]
   rcases Nat.lt_or_gt_of_ne hl with hlt|hgt
   ·rw[compareInt_lt hlt,compareInt_lt (cmp_shorter h.1 h.2 hx0 hlt (y3 h.2 (by omega)))]
   ·rw[compareInt_gt hgt,compareInt_gt (cmp_shorter h.2 h.1 hy0 hgt (x3 h.1 (by omega)))]
 ·rw[if_neg h,if_neg h]
theorem cmpWord_self (x:Str):cmpWordL x x=0:=by
 unfold cmpWordL
 by_cases h:(numeralL x&&numeralL x)=true
 ·rw[if_pos h,if_pos rfl,compareBytes_self]
 ·rw[if_neg h]
  have h1:¬ numeralL x=true:=fun e=>h (by rw[e];rfl)
  rw[if_neg h1,if_neg h1,compareBytes_self]
theorem cmpWords_self:∀ l:List Str,cmpWordsL cmpWordL l l=0
 | []=>rfl
 | x::l=>by
   unfold cmpWordsL
   rw[if_pos (cmpWord_self x)]
   exact cmpWords_self l
theorem cmpEarly_both {a b:Str} (ha:a≠[]) (hb:b≠[]):cmpEarlyL a b=cmpWordsL cmpWordL (splitC 46 a) (splitC 46 b):=by
 unfold cmpEarlyL
 by_cases h:a=b
 ·rw[if_pos h,h,cmpWords_self]
 ·rw[if_neg h,if_neg ha,if_neg hb]
theorem cmpEarly_left {a b:Str} (ha:a=[]):cmpEarlyL a b=if b=[] then 0 else 1:=by
 subst ha
 cases b with
 | nil=>rfl
 | cons x r=>simp[cmpEarlyL]
theorem cmpEarly_right {a b:Str} (ha:a≠[]) (hb:b=[]):cmpEarlyL a b=-1:=by
 unfold cmpEarlyL
 rw[if_neg (by rw[hb];exact ha),if_neg ha,if_pos hb]
end
section
open Go.RowKit
theorem order_split (x y z e:Int):firstI [x,y,z,e]=if firstI [x,y,z]=0 then e else firstI [x,y,z]:=by
 simp only[firstI]
 by_cases hx:x=0
 ·by_cases hy:y=0
  ·by_cases hz:z=0
   ·by_cases he:e=0
    ·simp[hx,hy,hz,he]
    ·simp[hx,hy,hz,he]
   ·simp[hx,hy,hz]
  ·simp[hx,hy]
 ·simp[hx]
theorem early_of {a1 a2 a3:Int} {a:ByteArray} (h:checkV a1 a2 a3 (bs a)=0) (h0:0 < a.size):earlyL (bs a)=true:=by
 rcases (checkV_ok h).2.2.2 with e|e
 ·have:=bs_length a;rw[e] at this;simp at this;omega
 ·exact e
theorem words_of {a:ByteArray} {xs:List ByteArray} (h:earlyL (bs a)=true) (hx:xs.map bs=splitC 46 (bs a)) {k:Nat} (hk:k < xs.length):earlyWordL (bs xs[k])=true:=by
 unfold earlyL at h
 rw[Bool.and_eq_true] at h
 exact List.all_eq_true.1 h.1 _ (by rw[<-hx];exact List.mem_map.2 ⟨_,List.getElem_mem hk,rfl⟩)
def digL (l:Str):Bool:=l.all digitB
theorem of_digitD (s:ByteArray) (w:World) (hs:s.size<=2097152) :
 Calls Tryz.prog 71 #[.string s,.string ⟨#[48,49,50,51,52,53,54,55,56,57]⟩] w fun e w'=>e=.returned (.bool (digL (bs s)))∧Ext w w':=of_digit s w hs
theorem min_cmp (n m:Nat):Lib.compareInt (min 1 (n:Int)) (min 1 (m:Int))=if n=0 then (if m=0 then 0 else -1) else (if m=0 then 1 else 0):=by
 unfold Lib.compareInt
 by_cases hn:n=0
 ·by_cases hm:m=0
  ·subst hn hm;rfl
  ·rw[if_pos hn,if_neg hm,if_pos (by omega)]
 ·by_cases hm:m=0
  ·rw[if_neg hn,if_pos hm,if_neg (by omega),if_pos (by omega)]
  ·rw[if_neg hn,if_neg hm,if_neg (by omega),if_neg (by omega)]
set_option maxHeartbeats 4000000 in
set_option maxRecDepth 100000 in
theorem CompareOf_any (a1 a2 a3 b1 b2 b3:Int) (a b:ByteArray) (w:World) (hg:GoodN w) (ha:a.size<=2097152) (hb:b.size<=2097152) (oA:checkV a1 a2 a3 (bs a)=0) (oB:checkV b1 b2 b3 (bs b)=0) :
 Calls Tryz.prog 25 #[.agg #[.int .i64 a1,.int .i64 a2,.int .i64 a3,.string a],.agg #[.int .i64 b1,.int .i64 b2,.int .i64 b3,.string b]] w
  fun e w'=>e=.returned (.int .i64 (orderL a1 a2 a3 (bs a) b1 b2 b3 (bs b)))∧Ext w w':=by
 have os:orderL a1 a2 a3 (bs a) b1 b2 b3 (bs b)=_:=order_split _ _ _ _
 have OS:=Hy os
 have OA:=Hy oA
 have OB:=Hy oB
 clear os oA oB
 go_enter Tryz.func25,Tryz.ntmps25
 go_wp2_with fail
 refine wp_region_ext_tail 15 (by kernel_rfl) (by kernel_rfl) ?_
 simp only[List.take_succ_cons,List.take_zero,List.drop_succ_cons,List.drop_zero]
 repeat (first|go_big_quiet_skip|(refine wpQuiet_step (fun K hK=>?_);go_simp;first|(refine hK _ ?_;clear hK K)|(apply Exists.intro;refine⟨fun wq hwq=>?_,hK _ ?_⟩;(obtain⟨hqc,hqf⟩:=hwq.cells;have hqs:=hwq.size;(try go_simp);first|rfl|((first|rw[if_neg (by omega)]|rw[if_pos (by omega)]);(try go_simp);rfl)|(((go_at_call 84;exact (compareInt_any _ _ _).mono (fun e w'' h=>⟨h.1,h.2 ▸ hwq⟩)))));clear hK K)))
 refine wpQuiet_nil ?_
 intro wN hxN
 obtain⟨hcN,hfN⟩:=hxN.cells
 have hsN:=hxN.size
 go_wp2_with fail
 refine (Or_any _ _ [Lib.compareInt a1 b1,Lib.compareInt a2 b2,Lib.compareInt a3 b3] _ ?_ (by simp)).mono ?_
 ·intro k hk
  rw[World.cell?_alloc_at _ _ _ _ rfl]
  match k,hk with
  | 0,_=>rfl
  | 1,_=>rfl
  | 2,_=>rfl
 rintro e w' ⟨rfl,rfl⟩
 have hgN:GoodN wN:=hg.ext (Ext.trans Ext.au hxN)
 have hxw:Ext w wN:=Ext.trans Ext.au hxN
 have q1:w.heap.size+1 < wN.heap.size:=by simp at hsN;omega
 have q2:w.heap.size < wN.heap.size:=by omega
 clear hsN
 by_cases h0:firstI [Lib.compareInt a1 b1,Lib.compareInt a2 b2,Lib.compareInt a3 b3]=0
 rotate_left
 ·have HF:=Hy h0
  have hb2:(firstI [Lib.compareInt a1 b1,Lib.compareInt a2 b2,Lib.compareInt a3 b3] != 0)=true:=by rw[bne_iff_ne];exact h0
  have hfin:=OS.out
  rw[if_neg h0] at hfin
  have HFIN:=Hy hfin
  clear hfin h0
  generalize firstI [Lib.compareInt a1 b1,Lib.compareInt a2 b2,Lib.compareInt a3 b3]=r at *
  go_wp2
  go_ret
  exact⟨ret_int HFIN.out.symm,hxw.alloc _⟩
 have oe:=OS.out
 rw[if_pos h0] at oe
 have OE0:=Hy oe
 rw[h0]
 clear oe h0
 rcases Nat.eq_zero_or_pos a.size with za|za
 ·have hi:=emp_bool za
  have hfin:orderL a1 a2 a3 (bs a) b1 b2 b3 (bs b)=Lib.compareInt (min 1 (b.size:Int)) (min 1 (a.size:Int)):=by
   rw[OE0.out,cmpEarly_left (bs_nil za),min_cmp,if_pos za]
   by_cases zb:b.size=0
   ·rw[if_pos zb,if_pos (bs_nil zb)]
   ·rw[if_neg zb,if_neg (fun e=>zb (by rw[<-bs_length,e];rfl))];simp[za]
  have HFIN:=Hy hfin
  clear hfin za
  go_wp2_with (go_at_call 84;refine (compareInt_any _ _ _).mono ?_;rintro e w' ⟨rfl,rfl⟩)
  go_ret
  exact⟨ret_int HFIN.out.symm,hxw.alloc _⟩
 have hia:=nemp_bool za
 have na:¬ bs a=[]:=fun e=>by have:=bs_length a;rw[e] at this;simp at this;omega
 have NA:=Hy na
 clear na
 rcases Nat.eq_zero_or_pos b.size with zb|zb
 ·have hi:=emp_bool zb
  have hfin:orderL a1 a2 a3 (bs a) b1 b2 b3 (bs b)=Lib.compareInt (min 1 (b.size:Int)) (min 1 (a.size:Int)):=by
   rw[OE0.out,cmpEarly_right NA.out (bs_nil zb),min_cmp,if_pos zb,if_neg (by omega)]
  have HFIN:=Hy hfin
  clear hfin zb
  go_wp2_with (go_at_call 84;refine (compareInt_any _ _ _).mono ?_;rintro e w' ⟨rfl,rfl⟩)
  go_ret
  exact⟨ret_int HFIN.out.symm,hxw.alloc _⟩
 have hib:=nemp_bool zb
 have nb:¬ bs b=[]:=fun e=>by have:=bs_length b;rw[e] at this;simp at this;omega
 have oe:=OE0.out
 rw[cmpEarly_both NA.out nb] at oe
 have OE:=Hy oe
 have EA:=Hy (early_of OA.out za)
 have EB:=Hy (early_of OB.out zb)
 clear oe nb
 have hgM:GoodN (wN.alloc (.cells #[.int .i64 (Lib.compareInt a1 b1),.int .i64 (Lib.compareInt a2 b2),.int .i64 (Lib.compareInt a3 b3)] 3)):=hgN.ext Ext.au
 have hx6:Ext w (wN.alloc (.cells #[.int .i64 (Lib.compareInt a1 b1),.int .i64 (Lib.compareInt a2 b2),.int .i64 (Lib.compareInt a3 b3)] 3)):=hxw.alloc _
 have s1:(wN.alloc (.cells #[.int .i64 (Lib.compareInt a1 b1),.int .i64 (Lib.compareInt a2 b2),.int .i64 (Lib.compareInt a3 b3)] 3)).cell? ⟨w.heap.size,3,none⟩=some (.string a):=by
  rw[World.cell?_alloc_past _ _ _ q2,hcN _ _ (by simp<;>omega)]
  go_simp
 have s2:(wN.alloc (.cells #[.int .i64 (Lib.compareInt a1 b1),.int .i64 (Lib.compareInt a2 b2),.int .i64 (Lib.compareInt a3 b3)] 3)).cell? ⟨w.heap.size+1,3,none⟩=some (.string b):=by
  rw[World.cell?_alloc_past _ _ _ q1,hcN _ _ (by simp<;>omega)]
  go_simp
 go_wp2_with fail
 generalize (wN.alloc (.cells #[.int .i64 (Lib.compareInt a1 b1),.int .i64 (Lib.compareInt a2 b2),.int .i64 (Lib.compareInt a3 b3)] 3))=W6 at *
 clear hxN hcN hfN hxw hgN q1 q2
 go_region_held3 (fun w'=>w'.cell? ⟨w.heap.size,3,none⟩=some (.string a)∧w'.cell? ⟨w.heap.size+1,3,none⟩=some (.string b))
  (first
    | exact⟨hy1.cell s1,hy1.cell s2⟩
    | exact⟨hy2.cell (hy1.cell s1),hy2.cell (hy1.cell s2)⟩
    | go_keep)
  (first
    | (go_at_call 70;with_reducible refine (split_any 46 a _ (hgM.toGood.ext ((Ext.refl _).drew)) ha).mono ?_;rintro e w1 ⟨p1,xs,rfl,hp1,hst1,hxs,hy1⟩)
    | (go_at_call 70;with_reducible refine (split_any 46 b _ ((hgM.toGood.ext ((Ext.refl _).drew)).ext hy1) hb).mono ?_;rintro e w2 ⟨p2,ys,rfl,hp2,hst2,hys,hy2⟩))
 have hl1:=pieces_le hxs
 have hl2:=pieces_le hys
 have HXS:=Hy hxs
 have HYS:=Hy hys
 have hc1:=(hst1.ext hy2).cell
 have hc2:=hst2.cell
 have HC1:=Hy hc1
 have HC2:=Hy hc2
 have hx:Ext w w2:=(hx6.trans ((Ext.refl W6).drew.trans hy1)).trans hy2
 have hgw:GoodN w2:=hg.ext hx
 clear hxs hys hc1 hc2 hst1 hst2 s1 s2 hy1 hy2 hgM hx6 hp1 hp2
 go_wp2
 go_loopw [64] (fun i wr=>∃ k:Nat,i=.int .i64 k∧k<=xs.length∧k<=ys.length∧(∀ j (h1:j < xs.length) (h2:j < ys.length),j < k->cmpWordL (bs xs[j]) (bs ys[j])=0)∧Ext w2 wr) (fun i _=>xs.length - (intOf i).toNat)
 case atStart=>exact⟨0,rfl,Nat.zero_le _,Nat.zero_le _,fun j _ _ h=>absurd h (by omega),Ext.refl _⟩
 case round =>
  obtain⟨k,rfl,hk1,hk2,hall,hxr⟩:=hrel
  have HALL:=Hy hall
  clear hall
  by_cases hlt:k < xs.length∧k < ys.length
  ·obtain⟨hlt1,hlt2⟩:=hlt
   have hm:(k:Int) < min (xs.length:Int) (ys.length:Int):=by omega
   have d1:=hxr.cell (HC1.out k hlt1)
   have d2:=hxr.cell (HC2.out k hlt2)
   have g1:=lt_of_cell d1
   have g2:=lt_of_cell d2
   have z1:=piece_le HXS.out hlt1
   have z2:=piece_le HYS.out hlt2
   have ew1:=words_of EA.out HXS.out hlt1
   have ew2:=words_of EB.out HYS.out hlt2
   have hw:=word_same ew1 ew2
   have hmiss:=fun h:refWord (bs xs[k]) (bs ys[k])=0=>(word_same ew1 ew2).symm.trans h
   have hhit:=fun h:refWord (bs xs[k]) (bs ys[k])≠0=>cmpWords_hit HXS.out HYS.out hlt1 hlt2 (fun j hj=>HALL.out j (by omega) (by omega) hj) (by rw[<-word_same ew1 ew2];exact h)
   obtain⟨x0,x1,_,_⟩:=word_parts ew1
   obtain⟨y0,y1,_,_⟩:=word_parts ew2
   have zx:0 < xs[k].size:=by rw[<-bs_length];exact List.length_pos_iff.2 x0
   have zy:0 < ys[k].size:=by rw[<-bs_length];exact List.length_pos_iff.2 y0
   rw[bs_length] at x1 y1
   have hstep:cmpWordL (bs xs[k]) (bs ys[k])=0->∀ j (h1:j < xs.length) (h2:j < ys.length),j < k+1->cmpWordL (bs xs[j]) (bs ys[j])=0:=fun h j h1 h2 h3=>by
    by_cases hj:j=k
    ·subst hj;exact h
    ·exact HALL.out j h1 h2 (by omega)
   have HW:=Hy hw
   have HHIT:=Hy hhit
   have HSTEP:=Hy hstep
   clear hw hmiss hhit hstep ew1 ew2 x0 y0
   generalize xs[k]=x at *
   generalize ys[k]=y at *
   go_wp2_with fail
   refine wp_region_ext (by kernel_rfl) (by kernel_rfl) ?_
   repeat (first|go_big_quiet_skip|(refine wpQuiet_step (fun K hK=>?_);go_simp;first|(refine hK _ ?_;clear hK K)|(apply Exists.intro;refine⟨fun wq hwq=>?_,hK _ ?_⟩;(obtain⟨hqc,hqf⟩:=hwq.cells;have hqs:=hwq.size;(try go_simp);first|rfl|((first|rw[if_neg (by omega)]|rw[if_pos (by omega)]);(try go_simp);rfl)|((go_at_call 71;refine (of_digitD _ _ ?_).mono (fun e w'' h=>⟨h.1,hwq.trans h.2⟩);omega)));clear hK K)))
   refine wpQuiet_nil ?_
   intro wN hxN
   obtain⟨hcN,hfN⟩:=hxN.cells
   have hsN:=hxN.size
   have d3:=hxN.cell d1
   have d4:=hxN.cell d2
   go_wp2_with fail
   refine (atoi_any x _ (hgw.ext (hxr.trans hxN)) (by omega)).mono ?_
   rintro e w3 ⟨v1,ev1,rfl,hx3,hv1,_⟩
   have hv1:=Hy hv1
   have d5:=hx3.cell d3
   have d6:=hx3.cell d4
   go_wp2_with fail
   refine (atoi_any y _ ((hgw.ext (hxr.trans hxN)).ext hx3) (by omega)).mono ?_
   rintro e w4 ⟨v2,ev2,rfl,hx4,hv2,_⟩
   have hv2:=Hy hv2
   have d7:=hx4.cell d5
   have d8:=hx4.cell d6
   have g3:=lt_of_cell d7
   have g4:=lt_of_cell d8
   have hxz4:=((hxN.trans hx3).trans hx4)
   clear d1 d2 d3 d4 d5 d6 hcN hfN hsN hx3 hx4 hxN
   go_wp2_with fail
   refine wp_region_ext (by kernel_rfl) (by kernel_rfl) ?_
   repeat (first|go_big_quiet_skip|(refine wpQuiet_step (fun K hK=>?_);go_simp;first|(refine hK _ ?_;clear hK K)|(apply Exists.intro;refine⟨fun wq hwq=>?_,hK _ ?_⟩;(obtain⟨hqc,hqf⟩:=hwq.cells;have hqs:=hwq.size;(try go_simp);first|rfl|((first|rw[if_neg (by omega)]|rw[if_pos (by omega)]);(try go_simp);rfl)|((go_at_call 44;exact (compare_any x y _).mono (fun e w'' h=>⟨h.1,h.2 ▸ hwq⟩))));clear hK K)))
   refine wpQuiet_nil ?_
   intro wN hxN
   obtain⟨hcN,hfN⟩:=hxN.cells
   have hsN:=hxN.size
   have hxz:=hxz4.trans hxN
   clear hcN hfN hsN
   cases hp:digL (bs x)
   ·cases hq:digL (bs y)
    ·have HV:=Hy (show refWord (bs x) (bs y)=Lib.compareBytes (bs x) (bs y) by unfold refWord;rw[show (bs x).all digitB=_ from hp,show (bs y).all digitB=_ from hq];rfl)
     by_cases hz:Lib.compareBytes (bs x) (bs y)=0
     ·have hz2:(Lib.compareBytes (bs x) (bs y) != 0)=false:=by rw[hz];rfl
      have HZ:=Hy hz
      clear hz
      go_wp2
      go_roundw
      case rel =>
       exact⟨k+1,by go_num,by omega,by omega,HSTEP.out (by rw[<-HW.out,HV.out];exact HZ.out),hxr.trans hxz⟩
      case measure=>simp[intOf];omega
     ·have hz2:(Lib.compareBytes (bs x) (bs y) != 0)=true:=by rw[bne_iff_ne];exact hz
      have HNZ:=Hy hz
      clear hz
      go_wp2
      go_ret
      refine⟨ret_int ?_,(hx.trans hxr).trans hxz⟩
      rw[OE.out,HHIT.out (by rw[HV.out];exact HNZ.out),<-HW.out,HV.out]
    ·have HV:=Hy (show refWord (bs x) (bs y)=1 by unfold refWord;rw[show (bs x).all digitB=_ from hp,show (bs y).all digitB=_ from hq];rfl)
     have HNZ:=Hy (show (1:Int)≠0 by decide)
     go_wp2
     go_ret
     refine⟨ret_int ?_,(hx.trans hxr).trans hxz⟩
     rw[OE.out,HHIT.out (by rw[HV.out];exact HNZ.out),<-HW.out,HV.out]
   ·cases hq:digL (bs y)
    ·have HV:=Hy (show refWord (bs x) (bs y)=-1 by unfold refWord;rw[show (bs x).all digitB=_ from hp,show (bs y).all digitB=_ from hq];rfl)
     have HNZ:=Hy (show (-1:Int)≠0 by decide)
     go_wp2
     go_ret
     refine⟨ret_int ?_,(hx.trans hxr).trans hxz⟩
     rw[OE.out,HHIT.out (by rw[HV.out];exact HNZ.out),<-HW.out,HV.out]
    ·have hu1:=(hv1.out _ (atoi_digits _ hp (by rw[bs_length];exact zx) (by rw[bs_length];omega))).1
     have hu2:=(hv2.out _ (atoi_digits _ hq (by rw[bs_length];exact zy) (by rw[bs_length];omega))).1
     have HV:=Hy (show refWord (bs x) (bs y)=Lib.compareInt v1 v2 by unfold refWord;rw[show (bs x).all digitB=_ from hp,show (bs y).all digitB=_ from hq,hu1,hu2];rfl)
     clear hu1 hu2
     by_cases hz:Lib.compareInt v1 v2=0
     ·have hz2:(Lib.compareInt v1 v2 != 0)=false:=by rw[hz];rfl
      have HZ:=Hy hz
      clear hz
      go_wp2_with (go_at_call 84;refine (compareInt_any _ _ _).mono ?_;rintro e w' ⟨rfl,rfl⟩)
      go_roundw
      case rel =>
       exact⟨k+1,by go_num,by omega,by omega,HSTEP.out (by rw[<-HW.out,HV.out];exact HZ.out),hxr.trans hxz⟩
      case measure=>simp[intOf];omega
     ·have hz2:(Lib.compareInt v1 v2 != 0)=true:=by rw[bne_iff_ne];exact hz
      have HNZ:=Hy hz
      clear hz
      go_wp2_with (go_at_call 84;refine (compareInt_any _ _ _).mono ?_;rintro e w' ⟨rfl,rfl⟩)
      go_ret
      refine⟨ret_int ?_,(hx.trans hxr).trans hxz⟩
      rw[OE.out,HHIT.out (by rw[HV.out];exact HNZ.out),<-HW.out,HV.out]
  ·have hm:¬ (k:Int) < min (xs.length:Int) (ys.length:Int):=by omega
   have hfin:orderL a1 a2 a3 (bs a) b1 b2 b3 (bs b)=Lib.compareInt xs.length ys.length:=by
    rw[OE.out,cmpWords_all HXS.out HYS.out (fun j h1 h2=>HALL.out j h1 h2 (by omega))]
   have HFIN:=Hy hfin
   clear hfin
   go_wp2_with (go_at_call 84;refine (compareInt_any _ _ _).mono ?_;rintro e w' ⟨rfl,rfl⟩)
   go_ret
   exact⟨ret_int HFIN.out.symm,hx.trans hxr⟩
end
section
theorem compareInt_neg (a b:Int):Lib.compareInt b a=- Lib.compareInt a b:=by
 unfold Lib.compareInt
 (repeat' split)<;>omega
theorem compareBytes_neg:∀ a b:Str,Lib.compareBytes b a=- Lib.compareBytes a b
 | [],[]=>rfl
 | [],_::_=>rfl
 | _::_,[]=>rfl
 | x::a,y::b=>by
   unfold Lib.compareBytes
   rcases Nat.lt_trichotomy x.toNat y.toNat with h|h|h
   ·have h1:x < y:=UInt8.lt_iff_toNat_lt.2 h
    have h2:¬ y < x:=fun e=>by have:=UInt8.lt_iff_toNat_lt.1 e;omega
    rw[if_pos h1,if_neg h2,if_pos h1];rfl
   ·have h1:¬ x < y:=fun e=>by have:=UInt8.lt_iff_toNat_lt.1 e;omega
    have h2:¬ y < x:=fun e=>by have:=UInt8.lt_iff_toNat_lt.1 e;omega
    rw[if_neg h1,if_neg h2,if_neg h2,if_neg h1]
    exact compareBytes_neg a b
   ·have h1:y < x:=UInt8.lt_iff_toNat_lt.2 h
    have h2:¬ x < y:=fun e=>by have:=UInt8.lt_iff_toNat_lt.1 e;omega
    rw[if_pos h1,if_neg h2,if_pos h1]
    try rfl
theorem cmpWord_neg (a b:Str):cmpWordL b a=- cmpWordL a b:=by
 unfold cmpWordL
 cases numeralL a<;>cases numeralL b
 ·exact compareBytes_neg a b
 ·rfl
 ·rfl
 ·simp only[Bool.and_self,if_true]
  by_cases h:a.length=b.length
  ·rw[if_pos h,if_pos h.symm,compareBytes_neg]
  ·rw[if_neg h,if_neg (Ne.symm h),compareInt_neg]
theorem cmpWords_neg {f:Str->Str->Int} (hf:∀ a b,f b a=- f a b):∀ xs ys:List Str,cmpWordsL f ys xs=- cmpWordsL f xs ys
 | [],[]=>compareInt_neg _ _
 | [],_::_=>compareInt_neg _ _
 | _::_,[]=>compareInt_neg _ _
 | x::xs,y::ys=>by
   unfold cmpWordsL
   rw[hf x y]
   by_cases h:f x y=0
   ·rw[if_pos h,if_pos (by omega),cmpWords_neg hf xs ys]
   ·rw[if_neg h,if_neg (by omega)]
theorem cmpEarly_neg (a b:Str):cmpEarlyL b a=- cmpEarlyL a b:=by
 unfold cmpEarlyL
 by_cases h:a=b
 ·rw[if_pos h,if_pos h.symm];rfl
 ·rw[if_neg h,if_neg (Ne.symm h)]
  by_cases ha:a=[]
  ·by_cases hb:b=[]
   ·exact absurd (ha.trans hb.symm) h
   ·rw[if_neg hb,if_pos ha,if_pos ha]
  ·by_cases hb:b=[]
   ·rw[if_pos hb,if_neg ha,if_pos hb];rfl
   ·rw[if_neg hb,if_neg ha,if_neg ha,if_neg hb]
    exact cmpWords_neg cmpWord_neg _ _
theorem first4_neg (a b c d:Int):firstI [-a,-b,-c,-d]=- firstI [a,b,c,d]:=by
 simp only[firstI]
 by_cases h1:a=0
 ·rw[if_pos h1,if_pos (by omega)]
  by_cases h2:b=0
  ·rw[if_pos h2,if_pos (by omega)]
   by_cases h3:c=0
   ·rw[if_pos h3,if_pos (by omega)]
    by_cases h4:d=0
    ·rw[if_pos h4,if_pos (by omega)];rfl
    ·rw[if_neg h4,if_neg (by omega)]
   ·rw[if_neg h3,if_neg (by omega)]
  ·rw[if_neg h2,if_neg (by omega)]
 ·rw[if_neg h1,if_neg (by omega)]
theorem order_neg (a1 a2 a3:Int) (a:Str) (b1 b2 b3:Int) (b:Str):orderL b1 b2 b3 b a1 a2 a3 a=- orderL a1 a2 a3 a b1 b2 b3 b:=by
 unfold orderL
 rw[compareInt_neg a1,compareInt_neg a2,compareInt_neg a3,cmpEarly_neg a,first4_neg]
deriving instance DecidableEq for V4
def zeroV:V4:=⟨0,0,0,⟨#[]⟩⟩
def V4.ord (u v:V4):Int:=orderL u.a1 u.a2 u.a3 (bs u.a) v.a1 v.a2 v.a3 (bs v.a)
def V4.text (v:V4):Str:=textL v.a1 v.a2 v.a3 (bs v.a)
theorem zero_err:zeroV.err=0:=by decide
def pV (l:Str):V4 × Int:=(⟨(parseV l).1.1,(parseV l).1.2.1,(parseV l).1.2.2.1,⟨(parseV l).1.2.2.2.toArray⟩⟩,(parseV l).2)
def nV (v:V4) (part:Int):V4 × Int:=(⟨(nextV v.a1 v.a2 v.a3 (bs v.a) part).1.1,(nextV v.a1 v.a2 v.a3 (bs v.a) part).1.2.1,(nextV v.a1 v.a2 v.a3 (bs v.a) part).1.2.2,⟨#[]⟩⟩,(nextV v.a1 v.a2 v.a3 (bs v.a) part).2)
structure Sp where
 hf:Bool
 ht:Bool
 f:V4
 t:V4
deriving instance DecidableEq for Sp
def zeroS:Sp:=⟨false,false,zeroV,zeroV⟩
def spErr (s:Sp):Int :=
 if (!s.hf&&decide (s.f≠zeroV)||!s.ht&&decide (s.t≠zeroV))=true then 2
 else if s.f.err≠0 then s.f.err else if s.t.err≠0 then s.t.err
 else if (s.hf&&s.ht&&decide (0<=s.f.ord s.t))=true then 7 else 0
def gapErr (p s:Sp):Int:=if (!p.ht||!s.hf||decide (0<=p.t.ord s.f))=true then 7 else 0
def errAt (l:List Sp) (k:Nat):Int :=
 if spErr (l.getD k zeroS)≠0 then spErr (l.getD k zeroS) else if k=0 then 0 else gapErr (l.getD (k - 1) zeroS) (l.getD k zeroS)
def errsOf (l:List Sp):List Int:=(List.range l.length).map (errAt l)
def rngErr (l:List Sp):Int:=if 10 < l.length then 4 else firstI (errsOf l)
theorem errs_length (l:List Sp):(errsOf l).length=l.length:=by simp[errsOf]
theorem errs_get (l:List Sp) (k:Nat) (h:k < (errsOf l).length):(errsOf l)[k]=errAt l k:=by simp[errsOf]
theorem firstI_ne {l:List Int} (h:firstI l=0):∀ x∈l,x=0:=by
 induction l with
 | nil=>intro x hx;cases hx
 | cons e r ih =>
   unfold firstI at h
   by_cases he:e=0
   ·rw[if_pos he] at h
    intro x hx
    rcases List.mem_cons.1 hx with rfl|hx
    ·exact he
    ·exact ih h x hx
   ·rw[if_neg he] at h
    exact absurd h he
theorem rng_ok {l:List Sp} (h:rngErr l=0):l.length<=10∧∀ k,k < l.length->errAt l k=0:=by
 unfold rngErr at h
 by_cases h1:10 < l.length
 ·rw[if_pos h1] at h;cases h
 ·rw[if_neg h1] at h
  exact⟨by omega,fun k hk=>firstI_ne h _ (List.mem_map.2 ⟨k,List.mem_range.2 hk,rfl⟩)⟩
theorem err_sp {l:List Sp} {k:Nat} (hk:k < l.length) (h:errAt l k=0):spErr l[k]=0:=by
 unfold errAt at h
 have e:l.getD k zeroS=l[k]:=by simp[List.getD,List.getElem?_eq_getElem hk]
 rw[e] at h
 by_cases h1:spErr l[k]≠0
 ·rw[if_pos h1] at h;exact absurd h h1
 ·exact Classical.not_not.1 h1
def rowL (l:Str):Bool:=!l.contains 32
structure It where
 sign:UInt8
 first:Str
 last:Str
def itemL (s:Str):It × Bool :=
 if s=[42] then (⟨42,[],[]⟩,true)
 else if Lib.hasPrefix s [62,61]=true then
  (if (cutC 32 (s.drop 2)).2.2=true then
    (⟨98,(cutC 32 (s.drop 2)).1,Lib.trimPrefix (cutC 32 (s.drop 2)).2.1 [60]⟩,Lib.hasPrefix (cutC 32 (s.drop 2)).2.1 [60]&&rowL (cutC 32 (s.drop 2)).1&&rowL (Lib.trimPrefix (cutC 32 (s.drop 2)).2.1 [60]))
  else (⟨62,s.drop 2,[]⟩,rowL (s.drop 2)))
 else if (!s.isEmpty&&[60,61,94,126].contains (s.headD 0))=true then (⟨s.headD 0,s.drop 1,[]⟩,rowL (s.drop 1))
 else (⟨94,s,[]⟩,rowL s)
def early0 (v:V4) (x:Str):V4:={ v with a:=⟨x.toArray⟩ }
def behindL (v:V4) (sign:UInt8):V4 × Int :=
 if sign=61 then (if bs v.a≠[] then (early0 v (bs v.a++[46,48]),(early0 v (bs v.a++[46,48])).err) else (early0 (nV v 2).1 [48],(nV v 2).2))
 else if sign=94∧v.a1≠0 then nV v 0 else nV v 1
def spanL (it:It):Sp × Int :=
 if it.sign=42 then (zeroS,0)
 else if (pV it.first).2≠0 then (zeroS,(pV it.first).2)
 else if it.sign=62 then (⟨true,false,(pV it.first).1,zeroV⟩,0)
 else if it.sign=60 then (⟨false,true,zeroV,(pV it.first).1⟩,0)
 else if it.sign=98 then (⟨true,true,(pV it.first).1,(pV it.last).1⟩,(pV it.last).2)
 else (⟨true,true,(pV it.first).1,(behindL (pV it.first).1 it.sign).1⟩,(behindL (pV it.first).1 it.sign).2)
def wrongL (l:Str):Bool:=decide ((pV l).2=8)
def synL (s:Str):Bool:=!(itemL s).2||((itemL s).1.sign != 42&&wrongL (itemL s).1.first)||((itemL s).1.sign==98&&wrongL (itemL s).1.last)
def spansOf (q:List (Sp × Int)):List Sp × Int :=
 if firstI (q.map (·.2))≠0 then ([],firstI (q.map (·.2))) else if rngErr (q.map (·.1))≠0 then ([],rngErr (q.map (·.1))) else (q.map (·.1),0)
def parseR (s:Str):List Sp × Int :=
 if 1000 < s.length then ([],4) else if s=[110,111,110,101] then ([],0)
 else if (Lib.split s [44,32]).any synL=true then ([],8) else spansOf ((Lib.split s [44,32]).map fun p=>spanL (itemL p).1)
def shortK (w:Str):UInt8 × Str:=if (!w.isEmpty&&[61,94,126].contains (w.headD 0))=true then (w.headD 0,w.drop 1) else (94,w)
def shortL (w:Str):Sp × Int :=
 if w=[42] then (zeroS,0)
 else if (pV (shortK w).2).2≠0 then (zeroS,(pV (shortK w).2).2)
 else (⟨true,true,(pV (shortK w).2).1,(behindL (pV (shortK w).2).1 (shortK w).1).1⟩,(behindL (pV (shortK w).2).1 (shortK w).1).2)
def refItem (t:Str):Sp × Int :=
 match splitC 32 t with
 | [x] =>
   if Lib.hasPrefix x [62,61]=true then (⟨true,false,(pV (x.drop 2)).1,zeroV⟩,(pV (x.drop 2)).2)
   else if Lib.hasPrefix x [60]=true then (⟨false,true,zeroV,(pV (x.drop 1)).1⟩,(pV (x.drop 1)).2)
   else shortL x
 | [x,y] =>
   if (Lib.hasPrefix x [62,61]&&Lib.hasPrefix y [60])=true then
    (⟨true,true,(pV (x.drop 2)).1,(pV (y.drop 1)).1⟩,if (pV (x.drop 2)).2=8∨(pV (y.drop 1)).2=8 then 8 else firstI [(pV (x.drop 2)).2,(pV (y.drop 1)).2])
   else (zeroS,8)
 | _=>(zeroS,8)
def readR (s:Str):List Sp × Int :=
 if 1000 < s.length then ([],4) else if s=[110,111,110,101] then ([],0)
 else if (Lib.split s [44,32]).any (fun p=>decide ((refItem p).2=8))=true then ([],8) else spansOf ((Lib.split s [44,32]).map refItem)
theorem next_err_ne8 (v:V4) (part:Int) (h:v.err=0):(nV v part).2≠8:=by
 have h':checkV v.a1 v.a2 v.a3 (bs v.a)=0:=h
 unfold nV nextV
 rw[if_pos h']
 dsimp only
 split
 ·decide
 ·split
  ·show (0:Int)≠8
   decide
  ·decide
theorem check_ne8 (a b c:Int) (e:Str):checkV a b c e≠8:=by
 unfold checkV
 split
 ·decide
 ·split<;>decide
theorem parseV_ok' {l:Str} {r:(Int × Int × Int × Str) × Int} (hr:parseV l=r) (h:r.2=0):checkV r.1.1 r.1.2.1 r.1.2.2.1 r.1.2.2.2=0:=by
 unfold parseV at hr
 split at hr
 ·split at hr
  ·subst hr;exact absurd h (by decide)
  ·split at hr
   ·subst hr;exact absurd h (by decide)
   ·split at hr
    ·rename_i h3
     subst hr
     exact h3
    ·rename_i h3
     subst hr
     exact absurd h h3
 ·subst hr;exact absurd h (by decide)
theorem parseV_ok {l:Str} (h:(parseV l).2=0):checkV (parseV l).1.1 (parseV l).1.2.1 (parseV l).1.2.2.1 (parseV l).1.2.2.2=0:=parseV_ok' rfl h
theorem pV_err {l:Str} (h:(pV l).2=0):(pV l).1.err=0:=by
 have:=parseV_ok h
 unfold V4.err pV
 dsimp only
 rw[bs_mk]
 exact this
theorem behind_ne8 (v:V4) (s:UInt8) (h:v.err=0):(behindL v s).2≠8:=by
 unfold behindL
 split
 ·split
  ·exact check_ne8 _ _ _ _
  ·exact next_err_ne8 v 2 h
 ·split
  ·exact next_err_ne8 v 0 h
  ·exact next_err_ne8 v 1 h
theorem pV_nil:(pV []).2=8:=by decide
def Same (p:Str):Prop:=(synL p=true->(refItem p).2=8)∧(synL p=false->(refItem p).2≠8∧(refItem p).2=(spanL (itemL p).1).2∧((refItem p).2=0->(refItem p).1=(spanL (itemL p).1).1))
theorem prefix2_app {p r:Str} (h:Lib.hasPrefix p [62,61]=true):Lib.hasPrefix (p++r) [62,61]=true:=by
 match p,h with
 | [],h=>cases h
 | [_],h=>simp[Lib.hasPrefix,List.isPrefixOf] at h
 | a::b::t,h=>simpa [Lib.hasPrefix,List.isPrefixOf] using h
theorem prefix2_cons {p r:Str} (h:Lib.hasPrefix p [62,61]=false):Lib.hasPrefix (p++32::r) [62,61]=false:=by
 match p,h with
 | [],_=>rfl
 | [a],_=>simp[Lib.hasPrefix,List.isPrefixOf]
 | a::b::t,h=>simpa [Lib.hasPrefix,List.isPrefixOf] using h
theorem prefix_drop {p:Str} (h:Lib.hasPrefix p [62,61]=true):∃ t,p=62::61::t:=by
 match p,h with
 | [],h=>cases h
 | [_],h=>simp[Lib.hasPrefix,List.isPrefixOf] at h
 | a::b::t,h =>
   have h1:62=a∧61=b:=by simpa [Lib.hasPrefix,List.isPrefixOf] using h
   exact⟨t,by rw[<-h1.1,<-h1.2]⟩
theorem prefix1 {p:Str} (h:Lib.hasPrefix p [60]=true):∃ t,p=60::t:=by
 match p,h with
 | [],h=>cases h
 | a::t,h =>
   have h1:60=a:=by simpa [Lib.hasPrefix,List.isPrefixOf] using h
   exact⟨t,by rw[<-h1]⟩
theorem rowL_none {l:Str} (h:(32:UInt8) ∉ l):rowL l=true:=by simp[rowL,h]
theorem rowL_app (a r:Str):rowL (a++32::r)=false:=by simp[rowL]
theorem row_drop {l:Str} (n:Nat) (h:(32:UInt8) ∉ l):(32:UInt8) ∉ l.drop n:=fun e=>h (List.mem_of_mem_drop e)
theorem same_one (p:Str) (hp:(32:UInt8) ∉ p):Same p:=by
 have hs:splitC 32 p=[p]:=splitC_none 32 p hp
 unfold Same synL refItem
 rw[hs]
 dsimp only
 by_cases h0:p=[42]
 ·subst h0
  have:itemL [42]=(⟨42,[],[]⟩,true):=by rw[itemL,if_pos rfl]
  rw[this]
  refine⟨fun h=>by simp at h,fun _=>?_⟩
  have h1:shortL [42]=(zeroS,0):=by rw[shortL,if_pos rfl]
  rw[if_neg (by decide),if_neg (by decide),h1]
  exact⟨by decide,by rw[spanL,if_pos rfl],fun _=>by rw[spanL,if_pos rfl]⟩
 by_cases h1:Lib.hasPrefix p [62,61]=true
 ·have hc:=cutC_none 32 (p.drop 2) (row_drop 2 hp)
  have hi:itemL p=(⟨62,p.drop 2,[]⟩,true):=by
   rw[itemL,if_neg h0,if_pos h1,hc,if_neg (by simp),rowL_none (row_drop 2 hp)]
  rw[hi,if_pos h1]
  have e1:((62:UInt8)==98)=false:=by decide
  have e2:((62:UInt8) != 42)=true:=by decide
  dsimp only
  rw[e1,e2]
  simp only[Bool.not_true,Bool.false_or,Bool.true_and,Bool.false_and,Bool.or_false,wrongL,decide_eq_true_eq,decide_eq_false_iff_not]
  refine⟨fun h=>h,fun h=>⟨h,?_,?_⟩⟩
  ·unfold spanL
   dsimp only
   rw[if_neg (by decide)]
   by_cases h2:(pV (p.drop 2)).2=0
   ·rw[if_neg (by simpa using h2),if_pos rfl,h2]
   ·rw[if_pos h2]
  ·intro h2
   unfold spanL
   dsimp only
   rw[if_neg (by decide),if_neg (by simpa using h2),if_pos rfl]
 have h1f:Lib.hasPrefix p [62,61]=false:=by simpa using h1
 rw[if_neg h1]
 by_cases h2:Lib.hasPrefix p [60]=true
 ·obtain⟨t,rfl⟩:=prefix1 h2
  have hi:itemL (60::t)=(⟨60,t,[]⟩,true):=by
   rw[itemL,if_neg h0,if_neg h1,if_pos (by simp)]
   rw[show (60::t:Str).drop 1=t from rfl,rowL_none (fun e=>hp (by simp[e]))]
   rfl
  rw[hi,if_pos h2]
  have e1:((60:UInt8)==98)=false:=by decide
  have e2:((60:UInt8) != 42)=true:=by decide
  dsimp only
  rw[e1,e2]
  simp only[Bool.not_true,Bool.false_or,Bool.true_and,Bool.false_and,Bool.or_false,wrongL,decide_eq_true_eq,decide_eq_false_iff_not,List.drop_succ_cons,List.drop_zero]
  refine⟨fun h=>h,fun h=>⟨h,?_,?_⟩⟩
  ·unfold spanL
   dsimp only
   rw[if_neg (by decide)]
   by_cases h3:(pV t).2=0
   ·rw[if_neg (by simpa using h3),if_neg (by decide),if_pos rfl,h3]
   ·rw[if_pos h3]
  ·intro h3
   unfold spanL
   dsimp only
   rw[if_neg (by decide),if_neg (by simpa using h3),if_neg (by decide),if_pos rfl]
 rw[if_neg h2]
 -- a span that is one word
 have hk:itemL p=(⟨(shortK p).1,(shortK p).2,[]⟩,true)∧(shortK p).1≠42∧(shortK p).1≠62∧(shortK p).1≠60∧(shortK p).1≠98:=by
  rw[itemL,if_neg h0,if_neg h1]
  cases p with
  | nil=>exact⟨rfl,by decide,by decide,by decide,by decide⟩
  | cons c t =>
    have hc:c≠60:=fun e=>h2 (by rw[e];rfl)
    have hr:rowL t=true:=rowL_none (fun e=>hp (by simp[e]))
    have hr2:rowL (c::t)=true:=rowL_none hp
    unfold shortK
    simp only[List.isEmpty_cons,Bool.not_false,Bool.true_and,List.headD_cons,List.drop_succ_cons,List.drop_zero]
    by_cases h3:([61,94,126]:Str).contains c=true
    ·have h4:([60,61,94,126]:Str).contains c=true:=by
      simp only[List.contains_cons,List.contains_nil,Bool.or_false,Bool.or_eq_true] at h3 ⊢
      exact .inr h3
     rw[if_pos h4,if_pos h3,hr]
     have h5:c=61∨c=94∨c=126:=by simpa using h3
     refine⟨rfl,?_⟩
     rcases h5 with rfl|rfl|rfl<;>(dsimp only;decide)
    ·have h4:¬ ([60,61,94,126]:Str).contains c=true:=by
      simp only[List.contains_cons,List.contains_nil,Bool.or_false,Bool.or_eq_true,beq_iff_eq] at h3 ⊢
      exact fun e=>e.elim hc h3
     rw[if_neg h4,if_neg h3,hr2]
     dsimp only
     exact⟨rfl,by decide,by decide,by decide,by decide⟩
 obtain⟨hi,k1,k2,k3,k4⟩:=hk
 rw[hi,shortL,if_neg h0]
 generalize (shortK p).1=kc at *
 generalize (shortK p).2=kw at *
 have e1:(kc==98)=false:=by simpa using k4
 have e2:(kc != 42)=true:=by simpa using k1
 dsimp only
 rw[e1,e2]
 simp only[Bool.not_true,Bool.false_or,Bool.true_and,Bool.false_and,Bool.or_false,wrongL,decide_eq_true_eq,decide_eq_false_iff_not]
 unfold spanL
 dsimp only
 rw[if_neg k1]
 by_cases h3:(pV kw).2=0
 ·rw[if_neg (by simpa using h3),if_neg (by simpa using h3),if_neg k2,if_neg k3,if_neg k4]
  exact⟨(fun h=>by (rw[h3] at h;exact absurd h (by decide))),fun _=>⟨behind_ne8 _ _ (pV_err h3),rfl,fun _=>rfl⟩⟩
 ·rw[if_pos h3,if_pos h3]
  exact⟨fun h=>h,fun h=>⟨h,rfl,fun _=>rfl⟩⟩
theorem same_more (a r:Str) (ha:(32:UInt8) ∉ a):Same (a++32::r):=by
 have hs:splitC 32 (a++32::r)=a::splitC 32 r:=splitC_app 32 r a ha
 have hn:¬ a++32::r=[42]:=by
  intro e
  cases a with
  | nil=>simp at e
  | cons x t=>simp at e
 unfold Same synL refItem
 rw[hs]
 by_cases h1:Lib.hasPrefix a [62,61]=true
 ·obtain⟨f,rfl⟩:=prefix_drop h1
  have hf:(32:UInt8) ∉ f:=fun e=>ha (by simp[e])
  have hcut:cutC 32 ((62::61::f++32::r:Str).drop 2)=(f,r,true):=cutC_app 32 f r hf
  have hi:itemL (62::61::f++32::r)=(⟨98,f,Lib.trimPrefix r [60]⟩,Lib.hasPrefix r [60]&&rowL (Lib.trimPrefix r [60])):=by
   rw[itemL,if_neg hn,if_pos (prefix2_app h1),hcut]
   dsimp only
   rw[if_pos rfl,rowL_none hf,Bool.and_true]
  rw[hi]
  dsimp only
  have e1:((98:UInt8)==98)=true:=rfl
  have e2:((98:UInt8) != 42)=true:=by decide
  rw[e1,e2]
  simp only[Bool.true_and]
  by_cases h2:Lib.hasPrefix r [60]=true
  ·obtain⟨t,rfl⟩:=prefix1 h2
   have htr:Lib.trimPrefix (60::t) [60]=t:=by rw[Lib.trimPrefix,if_pos h2];rfl
   rw[htr,h2]
   rcases first_cut 32 t with ht|⟨u,v,hu,rfl⟩
   ·have hsr:splitC 32 (60::t)=[60::t]:=splitC_none 32 _ (by simpa using ht)
    rw[hsr,rowL_none ht]
    dsimp only
    rw[if_pos (by rw[h1];rfl)]
    simp only[List.drop_succ_cons,List.drop_zero,Bool.and_true,Bool.not_true,Bool.false_or,wrongL]
    unfold spanL
    dsimp only
    rw[if_neg (show ¬ (98:UInt8)=42 by decide)]
    refine⟨fun h=>?_,fun h=>?_⟩
    ·simp only[Bool.or_eq_true,decide_eq_true_eq] at h
     rw[if_pos h]
    ·simp only[Bool.or_eq_false_iff,decide_eq_false_iff_not] at h
     rw[if_neg (by rintro (e|e);exact h.1 e;exact h.2 e)]
     by_cases h3:(pV f).2=0
     ·have hfi:firstI [(pV f).2,(pV t).2]=(pV t).2:=by
       rw[firstI,if_pos h3,firstI]
       by_cases h4:(pV t).2=0
       ·rw[if_pos h4,h4];rfl
       ·rw[if_neg h4]
      rw[hfi,if_neg (by simpa using h3),if_neg (show ¬ (98:UInt8)=62 by decide),if_neg (show ¬ (98:UInt8)=60 by decide),if_pos rfl]
      exact⟨h.2,rfl,fun _=>rfl⟩
     ·have hfi:firstI [(pV f).2,(pV t).2]=(pV f).2:=by rw[firstI,if_neg h3]
      rw[hfi,if_pos h3]
      exact⟨h.1,rfl,fun e=>absurd e h3⟩
   ·have hsr:splitC 32 (60::(u++32::v))=(60::u)::splitC 32 v:=splitC_app 32 v (60::u) (by simpa using hu)
    rw[hsr,rowL_app]
    refine⟨fun _=>?_,fun h=>by simp at h⟩
    cases hv:splitC 32 v with
    | nil=>exact absurd hv (splitC_ne 32 v)
    | cons q qs=>rfl
  ·have h2f:Lib.hasPrefix r [60]=false:=by simpa using h2
   rw[h2f]
   refine⟨fun _=>?_,fun h=>by simp at h⟩
   cases hr:splitC 32 r with
   | nil=>exact absurd hr (splitC_ne 32 r)
   | cons q qs =>
     cases qs with
     | nil =>
       dsimp only
       have hq:q=r:=by
        rcases first_cut 32 r with h|⟨u,v,hu,rfl⟩
        ·rw[splitC_none 32 r h] at hr;injection hr with e;exact e.symm
        ·rw[splitC_app 32 v u hu] at hr
         injection hr with _ e
         exact absurd e (splitC_ne 32 v)
       rw[hq,h2f,Bool.and_false,if_neg (by decide)]
     | cons _ _=>rfl
 ·have h1f:Lib.hasPrefix a [62,61]=false:=by simpa using h1
  have hbad:(itemL (a++32::r)).2=false:=by
   rw[itemL,if_neg hn,if_neg (by rw[prefix2_cons h1f];decide)]
   cases a with
   | nil=>rw[if_neg (by simp)];exact rowL_app [] r
   | cons c t =>
     split
     ·exact rowL_app t r
     ·exact rowL_app (c::t) r
  rw[hbad]
  refine⟨fun _=>?_,fun h=>by simp at h⟩
  cases hr:splitC 32 r with
  | nil=>exact absurd hr (splitC_ne 32 r)
  | cons q qs =>
    cases qs with
    | nil =>
      dsimp only
      rw[h1f,Bool.false_and,if_neg (by decide)]
    | cons _ _=>rfl
theorem same_any (p:Str):Same p:=by
 rcases first_cut 32 p with h|⟨a,r,ha,rfl⟩
 ·exact same_one p h
 ·exact same_more a r ha
theorem syn_iff (p:Str):synL p=decide ((refItem p).2=8):=by
 obtain⟨h1,h2⟩:=same_any p
 cases h:synL p
 ·rw[decide_eq_false (h2 h).1]
 ·rw[decide_eq_true (h1 h)]
theorem spansOf_congr {ps:List Str} (f g:Str->Sp × Int) (h2:∀ p∈ps,(f p).2=(g p).2) (h1:∀ p∈ps,(f p).2=0->(f p).1=(g p).1):spansOf (ps.map f)=spansOf (ps.map g):=by
 have e2:(ps.map f).map (·.2)=(ps.map g).map (·.2):=by
  rw[List.map_map,List.map_map]
  exact List.map_congr_left h2
 unfold spansOf
 rw[e2]
 by_cases h0:firstI ((ps.map g).map (·.2))≠0
 ·rw[if_pos h0,if_pos h0]
 ·have h0':=Classical.not_not.1 h0
  have e1:(ps.map f).map (·.1)=(ps.map g).map (·.1):=by
   rw[List.map_map,List.map_map]
   refine List.map_congr_left fun p hp=>h1 p hp ?_
   rw[h2 p hp]
   exact firstI_ne h0' _ (by rw[List.map_map];exact List.mem_map.2 ⟨p,hp,rfl⟩)
  rw[if_neg h0,if_neg h0,e1]
theorem read_same (s:Str):readR s=parseR s:=by
 unfold readR parseR
 have hany:(Lib.split s [44,32]).any (fun p=>decide ((refItem p).2=8))=(Lib.split s [44,32]).any synL:=by
  congr 1
  funext p
  exact (syn_iff p).symm
 rw[hany]
 by_cases h0:1000 < s.length
 ·rw[if_pos h0,if_pos h0]
 rw[if_neg h0,if_neg h0]
 by_cases h1:s=[110,111,110,101]
 ·rw[if_pos h1,if_pos h1]
 rw[if_neg h1,if_neg h1]
 by_cases h2:(Lib.split s [44,32]).any synL=true
 ·rw[if_pos h2,if_pos h2]
 rw[if_neg h2,if_neg h2]
 have h3:∀ p∈Lib.split s [44,32],synL p=false:=fun p hp=>by
  cases h:synL p
  ·rfl
  ·exact absurd (List.any_eq_true.2 ⟨p,hp,h⟩) h2
 exact spansOf_congr _ _ (fun p hp=>((same_any p).2 (h3 p hp)).2.1) (fun p hp=>((same_any p).2 (h3 p hp)).2.2)
end
section
end
section
open Go.RowKit
abbrev verV (v:V4):Value:=.agg #[.int .i64 v.a1,.int .i64 v.a2,.int .i64 v.a3,.string v.a]
abbrev spV (s:Sp):Value:=.agg #[.bool s.hf,.bool s.ht,.int .i64 s.f.a1,.int .i64 s.f.a2,.int .i64 s.f.a3,.string s.f.a,.int .i64 s.t.a1,.int .i64 s.t.a2,.int .i64 s.t.a3,.string s.t.a]
theorem str_eq (a b:ByteArray):(a.toList=b.toList)=(a=b):=by
 rw[ByteArray.toList_eq,ByteArray.toList_eq]
 exact propext ⟨fun h=>bs_inj h,fun h=>by rw[h]⟩
theorem run_eqv (d:Nat) (u v:V4) (w:World):(Op.equalIn (d+2) 23 (verV u) (verV v)).run Tryz.prog w=.ok (decide (u=v)) w:=by
 obtain⟨u1,u2,u3,u⟩:=u
 obtain⟨v1,v2,v3,v⟩:=v
 dsimp only[verV]
 rw[run_equalIn_agg w (d+1) 23 _ _ (by kernel_rfl) (by kernel_rfl)]
 go_simp
 simp only[str_eq]
 by_cases h1:u1=v1<;>by_cases h2:u2=v2<;>by_cases h3:u3=v3<;>by_cases h4:u=v<;>simp[h1,h2,h3,h4]
theorem run_neqv (u v:V4) (w:World):(binOp .neq 23 (verV u) (verV v)).run Tryz.prog w=.ok (.bool (!decide (u=v))) w:=by
 rw[run_neq_struct,run_eqv 9998]
 rfl
theorem run_eqs (d:Nat) (u v:Sp) (w:World):(Op.equalIn (d+3) 130 (spV u) (spV v)).run Tryz.prog w=.ok (decide (u=v)) w:=by
 obtain⟨uf,ut,⟨u1,u2,u3,ua⟩,⟨u4,u5,u6,ub⟩⟩:=u
 obtain⟨vf,vt,⟨v1,v2,v3,va⟩,⟨v4,v5,v6,vb⟩⟩:=v
 dsimp only[spV]
 rw[run_equalIn_agg w (d+2) 130 _ _ (by kernel_rfl) (by kernel_rfl)]
 simp only[Sp.mk.injEq,V4.mk.injEq]
 go_simp
 simp only[str_eq]
 repeat' split
 all_goals simp_all
theorem run_neqs (u v:Sp) (w:World):(binOp .neq 130 (spV u) (spV v)).run Tryz.prog w=.ok (.bool (!decide (u=v))) w:=by
 rw[run_neq_struct,run_eqs 9997]
 rfl
structure SpS (w:World) (b o:Nat) (l:List Sp):Prop where
 c0:∀ k (h:k < l.length),w.cell? ⟨b,o+k * 10,none⟩=some (.bool l[k].hf)
 c1:∀ k (h:k < l.length),w.cell? ⟨b,o+k * 10+1,none⟩=some (.bool l[k].ht)
 c2:∀ k (h:k < l.length),w.cell? ⟨b,o+k * 10+2,none⟩=some (.int .i64 l[k].f.a1)
 c3:∀ k (h:k < l.length),w.cell? ⟨b,o+k * 10+3,none⟩=some (.int .i64 l[k].f.a2)
 c4:∀ k (h:k < l.length),w.cell? ⟨b,o+k * 10+4,none⟩=some (.int .i64 l[k].f.a3)
 c5:∀ k (h:k < l.length),w.cell? ⟨b,o+k * 10+5,none⟩=some (.string l[k].f.a)
 c6:∀ k (h:k < l.length),w.cell? ⟨b,o+k * 10+6,none⟩=some (.int .i64 l[k].t.a1)
 c7:∀ k (h:k < l.length),w.cell? ⟨b,o+k * 10+7,none⟩=some (.int .i64 l[k].t.a2)
 c8:∀ k (h:k < l.length),w.cell? ⟨b,o+k * 10+8,none⟩=some (.int .i64 l[k].t.a3)
 c9:∀ k (h:k < l.length),w.cell? ⟨b,o+k * 10+9,none⟩=some (.string l[k].t.a)
theorem SpS.ext {w w':World} {b o:Nat} {l:List Sp} (h:SpS w b o l) (hx:Ext w w'):SpS w' b o l :=
 ⟨fun k hk=>hx.cell (h.c0 k hk),fun k hk=>hx.cell (h.c1 k hk),fun k hk=>hx.cell (h.c2 k hk),fun k hk=>hx.cell (h.c3 k hk),fun k hk=>hx.cell (h.c4 k hk),
   fun k hk=>hx.cell (h.c5 k hk),fun k hk=>hx.cell (h.c6 k hk),fun k hk=>hx.cell (h.c7 k hk),fun k hk=>hx.cell (h.c8 k hk),fun k hk=>hx.cell (h.c9 k hk)⟩
def RdS (w:World) (A:Option Addr) (l:List Sp):Prop:=l≠[]->∃ b o,A=some ⟨b,o,none⟩∧SpS w b o l
theorem RdS.ext {w w':World} {A:Option Addr} {l:List Sp} (h:RdS w A l) (hx:Ext w w'):RdS w' A l:=fun hn=>by
 obtain⟨b,o,e,k⟩:=h hn
 exact⟨b,o,e,k.ext hx⟩
set_option maxHeartbeats 4000000 in
theorem EqualS_any (A B:Option Addr) (n m c d:Nat) (xs ys:List Sp) (w:World) (hn:xs.length=n) (hm:ys.length=m) (hx:RdS w A xs) (hy:RdS w B ys) (hl:n<=2097152) (hl2:m<=2097152) :
 Calls Tryz.prog 95 #[.slice A n c,.slice B m d] w fun e w'=>e=.returned (.bool (decide (xs=ys)))∧Ext w w':=by
 by_cases hnm:n=m
 rotate_left
 ·have h1:¬ (n:Int)=(m:Int):=by omega
  have hne:¬ xs=ys:=fun e=>hnm (by rw[<-hn,<-hm,e])
  have HNE:=Hy hne
  clear hne hnm hn hm
  go_enter Tryz.func95,Tryz.ntmps95
  go_wp2
  go_ret
  exact⟨ret_bool (decide_eq_false HNE.out).symm,Ext.refl _⟩
 subst hnm
 have HN:=Hy hn
 have HM:=Hy hm
 clear hn hm
 rcases Nat.eq_zero_or_pos n with h0|h0
 ·subst h0
  have he:xs=ys:=by rw[List.eq_nil_of_length_eq_zero HN.out,List.eq_nil_of_length_eq_zero HM.out]
  have HE:=Hy he
  clear he
  go_enter Tryz.func95,Tryz.ntmps95
  go_wp2
  go_loop [13] (fun i=>i=.int .i64 0) (fun i=>0)
  case atStart=>rfl
  case round =>
   subst hrel
   go_wp2
   go_ret
   exact⟨ret_bool (decide_eq_true HE.out).symm,Ext.refl _⟩
 obtain⟨b1,o1,rfl,hX⟩:=hx (fun e=>by have:=HN.out;rw[e] at this;simp at this;omega)
 obtain⟨b2,o2,rfl,hY⟩:=hy (fun e=>by have:=HM.out;rw[e] at this;simp at this;omega)
 go_enter Tryz.func95,Tryz.ntmps95
 go_wp2
 go_loopw [13] (fun i wr=>∃ k:Nat,k<=n∧i=.int .i64 k∧(∀ j (h1:j < xs.length) (h2:j < ys.length),j < k->xs[j]=ys[j])∧Ext w wr) (fun i _=>n - (intOf i).toNat)
 case atStart=>exact⟨0,Nat.zero_le _,rfl,fun j _ _ h=>absurd h (by omega),Ext.refl _⟩
 case round =>
  obtain⟨k,hk,rfl,hall,hxr⟩:=hrel
  have HALL:=Hy hall
  clear hall
  by_cases hlt:k < n
  ·have hk1:k < xs.length:=by rw[HN.out];exact hlt
   have hk2:k < ys.length:=by rw[HM.out];exact hlt
   have X:=hX.ext hxr
   have Y:=hY.ext hxr
   have x0:=X.c0 k hk1;have x1:=X.c1 k hk1;have x2:=X.c2 k hk1;have x3:=X.c3 k hk1;have x4:=X.c4 k hk1
   have x5:=X.c5 k hk1;have x6:=X.c6 k hk1;have x7:=X.c7 k hk1;have x8:=X.c8 k hk1;have x9:=X.c9 k hk1
   have y0:=Y.c0 k hk2;have y1:=Y.c1 k hk2;have y2:=Y.c2 k hk2;have y3:=Y.c3 k hk2;have y4:=Y.c4 k hk2
   have y5:=Y.c5 k hk2;have y6:=Y.c6 k hk2;have y7:=Y.c7 k hk2;have y8:=Y.c8 k hk2;have y9:=Y.c9 k hk2
   clear X Y
   have hone:xs[k]=ys[k]->∀ j (h1:j < xs.length) (h2:j < ys.length),j < k+1->xs[j]=ys[j]:=fun e j h1 h2 h3=>by
    by_cases hj:j=k
    ·subst hj;exact e
    ·exact HALL.out j h1 h2 (by omega)
   have hno:¬ xs[k]=ys[k]->decide (xs=ys)=false:=fun e=>decide_eq_false fun e2=>e (by subst e2;rfl)
   have HONE:=Hy hone
   have HNO:=Hy hno
   clear hone hno
   generalize xs[k]=x at *
   generalize ys[k]=y at *
   have hq:=run_neqs x y
   obtain⟨xf,xt,⟨xa,xb,xc,xd⟩,⟨xe,xg,xh,xi⟩⟩:=x
   obtain⟨yf,yt,⟨ya,yb,yc,yd⟩,⟨ye,yg,yh,yi⟩⟩:=y
   dsimp only[spV] at hq x0 x1 x2 x3 x4 x5 x6 x7 x8 x9 y0 y1 y2 y3 y4 y5 y6 y7 y8 y9
   generalize hX:(⟨xf,xt,⟨xa,xb,xc,xd⟩,⟨xe,xg,xh,xi⟩⟩:Sp)=X at *
   generalize hY:(⟨yf,yt,⟨ya,yb,yc,yd⟩,⟨ye,yg,yh,yi⟩⟩:Sp)=Y at *
   clear hX hY
   by_cases hz:X=Y
   ·rw[decide_eq_true hz] at hq
    have HZ:=Hy hz
    clear hz
    go_wp2
    go_quiet (fail)
    go_wp2
    go_roundw
    case rel=>exact⟨k+1,by omega,by go_num,HONE.out HZ.out,hxr.drewN _⟩
    case measure=>simp[intOf];omega
   ·rw[decide_eq_false hz] at hq
    have HZ:=Hy hz
    clear hz
    go_wp2
    go_quiet (fail)
    go_wp2
    go_ret
    exact⟨ret_bool (HNO.out HZ.out).symm,hxr.drewN _⟩
  ·obtain rfl:k=n:=by omega
   go_wp2
   go_ret
   refine⟨ret_bool (decide_eq_true ?_).symm,hxr⟩
   refine List.ext_getElem (by rw[HN.out,HM.out]) fun j h1 h2=>HALL.out j h1 h2 (by have:=HN.out;omega)
end
section
open Go.RowKit
theorem spans_len (q:List (Sp × Int)):(spansOf q).1.length<=10:=by
 unfold spansOf
 split
 ·exact Nat.zero_le _
 ·split
  ·exact Nat.zero_le _
  ·rename_i h
   exact (rng_ok (Classical.not_not.1 h)).1
theorem parse_len (s:Str):(parseR s).1.length<=10:=by
 unfold parseR
 split
 ·exact Nat.zero_le _
 ·split
  ·exact Nat.zero_le _
  ·split
   ·exact Nat.zero_le _
   ·exact spans_len _
end
section
open Go.ChangeShapes Go.WideShapes Go.ChangeAt Go.RowKit Go.WideElems Go.Joins
set_option maxRecDepth 100000 in
theorem opens_ver:Opens 23 (fun _ (v:V4) cs=>cs=[.int .i64 v.a1,.int .i64 v.a2,.int .i64 v.a3,.string v.a]) (fun v=>v.a.size+4):=fun H enc W fuel cs x h=>by
 obtain⟨y0,y1,y2,y3,n,rfl,hl,h0,h1,h2,h3⟩:=trod_struct4 Tryz.underlying23 h
 have hc:Tryz.prog.cellsOf 23=4:=by kernel_rfl
 have ci:Tryz.prog.cellsOf 3=1:=by kernel_rfl
 have cst:Tryz.prog.cellsOf 9=1:=by kernel_rfl
 rw[hc] at hl
 match cs,hl with
 | [c0,c1,c2,c3],_ =>
   dsimp only at h0 h1 h2 h3
   rw[ci] at h0 h1 h2
   rw[cst] at h3
   obtain⟨a1,e1,b1⟩:=opens_int Tryz.underlying3 H enc W n _ _ h0
   obtain⟨a2,e2,b2⟩:=opens_int Tryz.underlying3 H enc W n _ _ h1
   obtain⟨a3,e3,b3⟩:=opens_int Tryz.underlying3 H enc W n _ _ h2
   obtain⟨a,e4,b4⟩:=opens_string Tryz.underlying9 H enc W n _ _ h3
   simp at e1 e2 e3 e4
   subst e1 e2 e3 e4
   exact⟨⟨a1,a2,a3,a⟩,rfl,by dsimp only at b1 b2 b3 b4 ⊢;simp only[Rows.uptoBulk,Rows.uptoBulkAll];omega⟩
set_option maxRecDepth 100000 in
theorem opens_span:Opens 130 (fun _ (s:Sp) cs=>cs=[.bool s.hf,.bool s.ht,.int .i64 s.f.a1,.int .i64 s.f.a2,.int .i64 s.f.a3,.string s.f.a,.int .i64 s.t.a1,.int .i64 s.t.a2,.int .i64 s.t.a3,.string s.t.a]) (fun s=>s.f.a.size+s.t.a.size+10):=fun H enc W fuel cs x h=>by
 obtain⟨y0,y1,y2,y3,n,rfl,hl,h0,h1,h2,h3⟩:=trod_struct4 Tryz.underlying130 h
 have hc:Tryz.prog.cellsOf 130=10:=by kernel_rfl
 have cb:Tryz.prog.cellsOf 4=1:=by kernel_rfl
 have cv:Tryz.prog.cellsOf 23=4:=by kernel_rfl
 rw[hc] at hl
 match cs,hl with
 | [c0,c1,c2,c3,c4,c5,c6,c7,c8,c9],_ =>
   dsimp only at h0 h1 h2 h3
   rw[cb] at h0 h1
   rw[cv] at h2 h3
   obtain⟨hf,e1,b1⟩:=opens_bool Tryz.underlying4 H enc W n _ _ h0
   obtain⟨ht,e2,b2⟩:=opens_bool Tryz.underlying4 H enc W n _ _ h1
   obtain⟨f,e3,b3⟩:=opens_ver H enc W n _ _ h2
   obtain⟨t,e4,b4⟩:=opens_ver H enc W n _ _ h3
   simp at e1 e2 e3 e4
   obtain⟨rfl,rfl,rfl,rfl⟩:=e3
   obtain⟨rfl,rfl,rfl,rfl⟩:=e4
   subst e1 e2
   exact⟨⟨hf,ht,f,t⟩,rfl,by dsimp only at b1 b2 b3 b4 ⊢;simp only[Rows.uptoBulk,Rows.uptoBulkAll];omega⟩
instance:Inhabited V4:=⟨⟨0,0,0,⟨#[]⟩⟩⟩
instance:Inhabited Sp:=⟨⟨false,false,default,default⟩⟩
theorem rowOf_spans {W:World} {A:Option Addr} {l:List Sp} (h:RowOf (fun _ (s:Sp) cs=>cs=[.bool s.hf,.bool s.ht,.int .i64 s.f.a1,.int .i64 s.f.a2,.int .i64 s.f.a3,.string s.f.a,.int .i64 s.t.a1,.int .i64 s.t.a2,.int .i64 s.t.a3,.string s.t.a]) 10 W A l):RdS W A l:=fun hne=>by
 obtain⟨b,o,rfl,hc⟩:=h hne
 refine⟨b,o,rfl,?_,?_,?_,?_,?_,?_,?_,?_,?_,?_⟩<;>intro k hk<;>obtain⟨ecs,rfl,_,hj⟩:=hc k hk
 ·exact hj 0 (by omega)
 ·exact hj 1 (by omega)
 ·exact hj 2 (by omega)
 ·exact hj 3 (by omega)
 ·exact hj 4 (by omega)
 ·exact hj 5 (by omega)
 ·exact hj 6 (by omega)
 ·exact hj 7 (by omega)
 ·exact hj 8 (by omega)
 ·exact hj 9 (by omega)
set_option maxRecDepth 100000 in
theorem opens_range:Opens 42 (fun W (l:List Sp) cs=>∃ A c,cs=[.slice A l.length c]∧RdS W A l) (fun l=>(l.map fun s=>s.f.a.size+s.t.a.size+10).sum+1):=fun H enc W fuel cs x h=>by
 obtain⟨l,⟨A,c,e,hr⟩,hb⟩:=opens_struct1 Tryz.underlying42 rfl (by kernel_rfl) (opens_slice (sz:=10) Tryz.underlying40 (by kernel_rfl) (by decide) opens_span) H enc W fuel cs x h
 exact⟨l,⟨A,c,e,rowOf_spans hr⟩,hb⟩
end
section
open Go.RowKit
structure Se where
 k:ByteArray
 v:ByteArray
deriving DecidableEq
def zeroSe:Se:=⟨⟨#[]⟩,⟨#[]⟩⟩
def seOne (is:Str->Bool) (s:Se):Int:=if is (bs s.k)=false then 5 else if valueL (bs s.v)=false then 2 else 0
def seGap (p s:Se):Int:=if (Op.bytesLess s.k.toList p.k.toList||s.k.toList==p.k.toList)=true then 7 else 0
def seAt (is:Str->Bool) (l:List Se) (i:Nat):Int :=
 if seOne is (l.getD i zeroSe)≠0 then seOne is (l.getD i zeroSe) else if i=0 then 0 else seGap (l.getD (i - 1) zeroSe) (l.getD i zeroSe)
def seErrs (is:Str->Bool) (l:List Se):List Int:=(List.range l.length).map (seAt is l)
def seErr (is:Str->Bool) (l:List Se):Int:=firstI (seErrs is l)
theorem seErrs_length (is:Str->Bool) (l:List Se):(seErrs is l).length=l.length:=by simp[seErrs]
theorem seErrs_get (is:Str->Bool) (l:List Se) (k:Nat) (h:k < (seErrs is l).length):(seErrs is l)[k]=seAt is l k:=by simp[seErrs]
theorem seAt_0 {is:Str->Bool} {l:List Se} (h:0 < l.length):seAt is l 0=seOne is l[0]:=by
 unfold seAt
 have e:l.getD 0 zeroSe=l[0]:=by simp[List.getD,List.getElem?_eq_getElem h]
 rw[e]
 by_cases h1:seOne is l[0]=0
 ·rw[if_neg (by simpa using h1),if_pos rfl,h1]
 ·rw[if_pos h1]
theorem seAt_bad {is:Str->Bool} {l:List Se} {k:Nat} (h:k < l.length) (h1:¬ seOne is l[k]=0):seAt is l k=seOne is l[k]:=by
 unfold seAt
 have e:l.getD k zeroSe=l[k]:=by simp[List.getD,List.getElem?_eq_getElem h]
 rw[e,if_pos h1]
theorem seAt_gap {is:Str->Bool} {l:List Se} {k:Nat} (h:k+1 < l.length) (h1:seOne is l[k+1]=0):seAt is l (k+1)=seGap l[k] l[k+1]:=by
 unfold seAt
 have e:l.getD (k+1) zeroSe=l[k+1]:=by simp[List.getD,List.getElem?_eq_getElem h]
 have e2:l.getD k zeroSe=l[k]:=by simp[List.getD,List.getElem?_eq_getElem (by omega:k < l.length)]
 rw[Nat.add_sub_cancel,e,e2,if_neg (by simpa using h1),if_neg (by omega)]
theorem seErr_at {is:Str->Bool} {l:List Se} {k:Nat} (h:k < l.length) (h0:∀ x∈(seErrs is l).take k,x=0) (h1:¬ seAt is l k=0):seErr is l=seAt is l k:=by
 have hk:k < (seErrs is l).length:=by rw[seErrs_length];exact h
 rw[seErr,firstI_at hk h0 (by rw[seErrs_get];exact h1),seErrs_get]
theorem seErr_next {is:Str->Bool} {l:List Se} {k:Nat} (h:k < l.length) (h0:∀ x∈(seErrs is l).take k,x=0) (h1:seAt is l k=0):∀ x∈(seErrs is l).take (k+1),x=0:=by
 have hk:k < (seErrs is l).length:=by rw[seErrs_length];exact h
 exact take_zero_succ hk h0 (by rw[seErrs_get];exact h1)
theorem seErr_all {is:Str->Bool} {l:List Se} (h0:∀ x∈(seErrs is l).take l.length,x=0):seErr is l=0:=by
 rw[List.take_of_length_le (by rw[seErrs_length];exact Nat.le_refl _)] at h0
 exact firstI_zero h0
theorem seOne_name {is:Str->Bool} {s:Se} (h:is (bs s.k)=false):seOne is s=5:=by rw[seOne,if_pos h]
theorem seOne_value {is:Str->Bool} {s:Se} (h:is (bs s.k)=true) (h2:valueL (bs s.v)=false):seOne is s=2:=by rw[seOne,if_neg (by rw[h];decide),if_pos h2]
theorem seOne_ok {is:Str->Bool} {s:Se} (h:is (bs s.k)=true) (h2:valueL (bs s.v)=true):seOne is s=0:=by rw[seOne,if_neg (by rw[h];decide),if_neg (by rw[h2];decide)]
structure SeS (w:World) (b o:Nat) (l:List Se):Prop where
 c0:∀ k (h:k < l.length),w.cell? ⟨b,o+k * 2,none⟩=some (.string l[k].k)
 c1:∀ k (h:k < l.length),w.cell? ⟨b,o+k * 2+1,none⟩=some (.string l[k].v)
theorem SeS.ext {w w':World} {b o:Nat} {l:List Se} (h:SeS w b o l) (hx:Ext w w'):SeS w' b o l:=⟨fun k hk=>hx.cell (h.c0 k hk),fun k hk=>hx.cell (h.c1 k hk)⟩
def RdE (w:World) (A:Option Addr) (l:List Se):Prop:=l≠[]->∃ b o,A=some ⟨b,o,none⟩∧SeS w b o l
theorem RdE.ext {w w':World} {A:Option Addr} {l:List Se} (h:RdE w A l) (hx:Ext w w'):RdE w' A l:=fun hn=>by
 obtain⟨b,o,e,k⟩:=h hn
 exact⟨b,o,e,k.ext hx⟩
def SmallE (l:List Se):Prop:=∀ s∈l,s.k.size<=2097152∧s.v.size<=2097152
end
section
open Go.RowKit
open Go.Maps (Keyed)
theorem str_under:Tryz.prog.underlying 9=some .string:=by kernel_rfl
theorem str_zero (w:World):(zeroValue 9).run Tryz.prog w=.ok (.string ⟨#[]⟩) w:=by go_simp
def StrMap (w:World) (b n:Nat) (f:Str->Option Str):Prop :=
 ∃ D:DataW PUnit,w.ownsMap Tryz.prog 9 (plainElem Tryz.prog 9) b n D∧(∀ s,f s=none->Maps.has D (.string s)=false)∧∀ s v,f s=some v->Maps.has D (.string s)=true∧∀ z,D.atKey (.string s) z=.lit (.string v)
namespace StrMap
variable {w w':World} {b n:Nat} {f:Str->Option Str}
theorem made (w:World):StrMap (w.alloc (.map #[] 0)) w.heap.size 0 (fun _=>none) :=
 ⟨.map [],World.ownsMap_made w _ _ _,fun _ _=>rfl,fun _ _ h=>by cases h⟩
theorem ext (h:StrMap w b n f) (hx:Ext w w'):StrMap w' b n f:=by
 obtain⟨D,h,r⟩:=h
 exact⟨D,h.kept (row:=none) ⟨hx.os,hx.tape,hx.output,hx.size,fun k hk _=>hx.block k hk⟩ (by simp),r⟩
theorem lt (h:StrMap w b n f):b < w.heap.size:=by
 obtain⟨D,h,_⟩:=h
 exact h.lt
theorem mono (h:StrMap w b n f) {m:Nat} (hm:n<=m):StrMap w b m f:=by
 obtain⟨D,h,r⟩:=h
 exact⟨D,h.mono hm,r⟩
theorem look (h:StrMap w b n f) {t:TypeId} (ht:Tryz.prog.underlying t=some (.map 9 9)) (k:ByteArray) (hk:k.size<=2097152) :
 (Instr.lookup t (.map (some b)) (.string k) true).run Tryz.prog w=.ok (.tuple #[S ((f (bs k)).getD []),.bool (f (bs k)).isSome]) w:=by
 obtain⟨D,h,r1,r2⟩:=h
 obtain⟨v,ps,hrun,hv⟩:=h.look_ok (Maps.string_keyed str_under) ht (str_zero w) (plainElem_string str_under (by decide)) (WideMaps.keyOf_string_mk str_under (s:=k) (by simp only[maxLen];omega))
 rw[hrun]
 obtain⟨s,rfl,hs,_⟩:=plainElem_string_inv str_under hv
 have hs:=congrArg Prod.fst hs
 cases hf:f (bs k) with
 | none =>
   have h0:=r1 _ hf
   have e:(DataW.lit (.string []):DataW PUnit)=.lit (.string s.data.toList):=(Maps.atKey_of_not_has h0 _).symm.trans hs
   have e:=Lit.string.inj (DataW.lit.inj e)
   have e2:s=⟨#[]⟩:=bs_inj (show bs s=bs ⟨#[]⟩ from e.symm)
   subst e2
   have h0:Maps.has D (Lit.string k.data.toList)=false:=h0
   simp only[h0]
   rfl
 | some u =>
   obtain⟨h0,h1⟩:=r2 _ _ hf
   have e:(DataW.lit (.string u):DataW PUnit)=.lit (.string s.data.toList):=(h1 _).symm.trans hs
   have e:=Lit.string.inj (DataW.lit.inj e)
   have h0:Maps.has D (Lit.string k.data.toList)=true:=h0
   have e2:S u=.string s:=by rw[show u=bs s from e,S_bs]
   simp only[h0,Option.getD_some,Option.isSome_some,e2]
theorem upd (h:StrMap w b n f) {t:TypeId} (ht:Tryz.prog.underlying t=some (.map 9 9)) (k v:ByteArray) (hk:k.size<=2097152) (hv:v.size<=2097152) (hn:n<=2097152) :
 ∃ w',(Instr.mapUpdate t (.map (some b)) (.string k) (.string v)).run Tryz.prog w=.ok () w'∧StrMap w' b (n+1) (fun x=>if x=bs k then some (bs v) else f x)∧w.grownBy w' (some b):=by
 obtain⟨D,h,r1,r2⟩:=h
 have hkey:keyOf Tryz.prog 9 (.string k)=some (.string (bs k)):=WideMaps.keyOf_string_mk str_under (by simp only[maxLen];omega)
 have hval:plainElem (H:=PUnit) Tryz.prog 9 (.string v)=some (.lit (.string (bs v)),[]):=plainElem_string str_under (by simp only[maxLen];omega)
 obtain⟨w',hrun,h',hg⟩:=h.update (Maps.string_keyed str_under) ht (by simp only[maxLen];omega) hkey hval
 refine⟨w',hrun,⟨_,h',fun s hs=>?_,fun s u hs=>?_⟩,hg⟩<;>dsimp only at hs
 ·by_cases e:s=bs k
  ·rw[if_pos e] at hs;cases hs
  ·rw[if_neg e] at hs
   rw[Maps.has_put_other (by intro e2;injection e2 with e2;exact e e2)]
   exact r1 s hs
 ·by_cases e:s=bs k
  ·rw[if_pos e] at hs
   cases hs
   subst e
   exact⟨Maps.has_put_same h.isMap (by trivial) _,fun z=>Maps.atKey_put_same h.isMap (by trivial) _ _⟩
  ·rw[if_neg e] at hs
   have hne:(Lit.string s:Lit)≠.string (bs k):=by intro e2;injection e2 with e2;exact e e2
   obtain⟨h1,h2⟩:=r2 s u hs
   exact⟨by rw[Maps.has_put_other hne];exact h1,fun z=>by rw[Maps.atKey_put_other hne];exact h2 z⟩
end StrMap
def tblN (l:List Se) (k:Nat):Str->Option Str:=(l.take k).foldl (fun f s x=>if x=bs s.k then some (bs s.v) else f x) (fun _=>none)
def tbl (l:List Se):Str->Option Str:=tblN l l.length
theorem tblN_zero (l:List Se):tblN l 0=fun _=>none:=rfl
theorem tblN_succ {l:List Se} {k:Nat} (h:k < l.length):tblN l (k+1)=fun x=>if x=bs l[k].k then some (bs l[k].v) else tblN l k x:=by
 unfold tblN
 rw[List.take_add_one,List.getElem?_eq_getElem h,Option.toList_some,List.foldl_append]
 rfl
end
section
open Go.RowKit
set_option maxHeartbeats 4000000 in
theorem Facts_any (A:Option Addr) (n c:Nat) (l:List Se) (w:World) (hn:l.length=n) (hr:RdE w A l) (hs:SmallE l) (hl:n<=2097152) :
 Calls Tryz.prog 138 #[.slice A n c] w fun e w'=>e=.returned (.map (some w.heap.size))∧StrMap w' w.heap.size n (tbl l)∧Ext w w':=by
 have HN:=Hy hn
 have hmm:=@run_makeMap Tryz.prog
 have hmade:=StrMap.made w
 have hxm:Ext w (w.alloc (.map #[] 0)):=(Ext.refl w).alloc _
 rcases Nat.eq_zero_or_pos n with h0|h0
 ·subst h0
  have he:l=[]:=List.eq_nil_of_length_eq_zero hn
  have hT:tbl l=fun _=>none:=by rw[he];rfl
  have HT:=Hy hT
  clear he hT hr hs hn
  go_enter Tryz.func138,Tryz.ntmps138
  go_wp2
  go_loop [9] (fun i=>i=.int .i64 0) (fun i=>0)
  case atStart=>rfl
  case round =>
   subst hrel
   go_wp2
   go_ret
   exact⟨rfl,by rw[HT.out];exact hmade,hxm⟩
 obtain⟨b,o,rfl,hX⟩:=hr (fun e=>by rw[e] at hn;simp at hn;omega)
 clear hr hn
 go_enter Tryz.func138,Tryz.ntmps138
 go_wp2
 go_loopw [9] (fun i wr=>∃ k:Nat,k<=n∧i=.int .i64 k∧StrMap wr w.heap.size k (tblN l k)∧Ext w wr) (fun i _=>n - (intOf i).toNat)
 case atStart=>exact⟨0,Nat.zero_le _,rfl,by rw[tblN_zero];exact hmade,hxm⟩
 case round =>
  obtain⟨k,hk,rfl,hM,hxr⟩:=hrel
  by_cases hlt:k < n
  ·have hk1:k < l.length:=by rw[HN.out];exact hlt
   have X:=hX.ext hxr
   have x0:=X.c0 k hk1
   have x1:=X.c1 k hk1
   have hz1:=hs l[k] (List.getElem_mem hk1)
   have HS:=Hy (tblN_succ hk1)
   generalize l[k]=s at *
   obtain⟨sk,sv⟩:=s
   dsimp only at x0 x1 hz1 HS
   obtain⟨hz1,hz2⟩:=hz1
   clear X
   obtain⟨w',hrun,hM',hg⟩:=(hM.ext ((Ext.refl wr).alloc (.cells #[.string sk,.string sv] 227))).upd (t:=189) Tryz.underlying189 sk sv hz1 hz2 (by omega)
   have hxn:Ext w w':=Below.grown (hxr.alloc (.cells #[.string sk,.string sv] 227)) hg (Nat.le_trans hxr.size (by rw[World.size_alloc];omega)) (fun j hj=>by simp only[Option.some.injEq] at hj;omega)
   have HX:=Hy hxn
   have HM:=Hy hM'
   clear hM hM' hg hxn
   go_wp2
   go_roundw
   case rel=>exact⟨k+1,by omega,by go_num,by rw[HS.out];exact HM.out,HX.out⟩
   case measure=>simp[intOf];omega
  ·obtain rfl:k=n:=by omega
   have HT:=Hy (show tblN l k=tbl l from by rw[tbl,HN.out])
   go_wp2
   go_ret
   exact⟨rfl,by rw[<-HT.out];exact hM,hxr⟩
end
section
open Go.ChangeShapes Go.WideShapes Go.ChangeAt Go.RowKit Go.WideElems Go.Joins
instance:Inhabited Se:=⟨zeroSe⟩
set_option maxRecDepth 100000 in
theorem opens_setting:Opens 227 (fun _ (s:Se) cs=>cs=[.string s.k,.string s.v]) (fun s=>s.k.size+s.v.size+2):=fun H enc W fuel cs x h=>by
 obtain⟨y0,y1,n,rfl,hl,h0,h1⟩:=trod_struct2 Tryz.underlying227 h
 have hc:Tryz.prog.cellsOf 227=2:=by kernel_rfl
 have cst:Tryz.prog.cellsOf 9=1:=by kernel_rfl
 rw[hc] at hl
 match cs,hl with
 | [c0,c1],_ =>
   dsimp only at h0 h1
   rw[cst] at h0 h1
   obtain⟨a,e1,b1⟩:=opens_string Tryz.underlying9 H enc W n _ _ h0
   obtain⟨b,e2,b2⟩:=opens_string Tryz.underlying9 H enc W n _ _ h1
   simp at e1 e2
   subst e1 e2
   exact⟨⟨a,b⟩,rfl,by dsimp only at b1 b2 ⊢;simp only[Rows.uptoBulk,Rows.uptoBulkAll];omega⟩
theorem rowOf_settings {W:World} {A:Option Addr} {l:List Se} (h:RowOf (fun _ (s:Se) cs=>cs=[.string s.k,.string s.v]) 2 W A l):RdE W A l:=fun hne=>by
 obtain⟨b,o,rfl,hc⟩:=h hne
 refine⟨b,o,rfl,?_,?_⟩<;>intro k hk<;>obtain⟨ecs,rfl,_,hj⟩:=hc k hk
 ·exact hj 0 (by omega)
 ·exact hj 1 (by omega)
end
section
structure Pre {α:Type} (f:α->α->Int):Prop where
 anti:∀ a b,f a b < 0↔0 < f b a
 le:∀ a b c,f a b<=0->f b c<=0->f a c<=0
namespace Pre
variable {α:Type} {f:α->α->Int}
theorem zero (h:Pre f) {a b:α} (e:f a b=0):f b a=0:=by have:=h.anti a b;have:=h.anti b a;omega
theorem lt_le (h:Pre f) {a b c:α} (h1:f a b < 0) (h2:f b c<=0):f a c < 0:=by
 have h3:=h.le a b c (by omega) h2
 rcases Int.lt_or_eq_of_le h3 with h4|h4
 ·exact h4
 ·have h5:=h.le c a b (by have:=h.zero h4;omega) (by omega)
  have h6:=h.le b c b h2 h5
  have:=h.anti a b
  have h7:=h.le b c a h2 (by have:=h.zero h4;omega)
  omega
theorem lt (h:Pre f) {a b c:α} (h1:f a b < 0) (h2:f b c < 0):f a c < 0:=h.lt_le h1 (by omega)
theorem on {β:Type} (h:Pre f) (p:β->α):Pre fun x y=>f (p x) (p y):=⟨fun _a _b=>h.anti _ _,fun _a _b _c=>h.le _ _ _⟩
end Pre
end
section
def insideL (s:Sp) (v:V4):Bool:=!(s.hf&&decide (v.ord s.f < 0))&&!(s.ht&&decide (0<=v.ord s.t))
section
variable (E:List V4)
def enc (s:Sp):Iv:=⟨if s.hf=true then E.idxOf s.f+1 else 0,if s.ht=true then E.idxOf s.t+1 else E.length+1⟩
structure FitE (s:Sp):Prop where
 f1:s.hf=true->s.f∈E
 f0:s.hf=false->s.f=zeroV
 t1:s.ht=true->s.t∈E
 t0:s.ht=false->s.t=zeroV
variable {E}
end
theorem spErr_parts {s:Sp} (h:spErr s=0):(s.hf=false->s.f=zeroV)∧(s.ht=false->s.t=zeroV)∧s.f.err=0∧s.t.err=0∧(s.hf=true->s.ht=true->s.f.ord s.t < 0):=by
 unfold spErr at h
 by_cases h1:(!s.hf&&decide (s.f≠zeroV)||!s.ht&&decide (s.t≠zeroV))=true
 ·rw[if_pos h1] at h;cases h
 rw[if_neg h1] at h
 by_cases h2:s.f.err=0
 ·rw[if_neg (by simpa using h2)] at h
  by_cases h3:s.t.err=0
  ·rw[if_neg (by simpa using h3)] at h
   by_cases h4:(s.hf&&s.ht&&decide (0<=s.f.ord s.t))=true
   ·rw[if_pos h4] at h;cases h
   ·refine⟨fun e=>?_,fun e=>?_,h2,h3,fun e1 e2=>?_⟩
    ·rw[e] at h1
     simp at h1
     exact h1.1
    ·rw[e] at h1
     simp at h1
     exact h1.2
    ·rw[e1,e2] at h4
     simpa using h4
  ·rw[if_pos h3] at h;exact absurd h h3
 ·rw[if_pos h2] at h;exact absurd h h2
theorem rng_each {l:List Sp} (h:rngErr l=0) {k:Nat} (hk:k < l.length):spErr l[k]=0:=by
 have h1:=(rng_ok h).2 k hk
 unfold errAt at h1
 have e:l.getD k zeroS=l[k]:=by simp[List.getD,List.getElem?_eq_getElem hk]
 rw[e] at h1
 by_cases h2:spErr l[k]=0
 ·exact h2
 ·rw[if_pos h2] at h1;exact absurd h1 h2
end
section
open Go.RowKit
theorem ge_not (x:Int):(!decide (0<=x))=decide (x < 0):=by
 rw[Bool.eq_iff_iff];simp
set_option maxHeartbeats 4000000 in
theorem within_any (s:Sp) (v:V4) (w:World) (hg:Good w) (h1:s.f.a.size<=2097152) (h2:s.t.a.size<=2097152) (h3:v.a.size<=2097152) :
 Calls Tryz.prog 277 #[spV s,verV v] w fun e w'=>e=.returned (.bool (insideL s v))∧Ext w w':=by
 obtain⟨hf,ht,⟨f1,f2,f3,fa⟩,⟨t1,t2,t3,ta⟩⟩:=s
 obtain⟨v1,v2,v3,va⟩:=v
 dsimp only at h1 h2 h3
 have cF:=fun W (h:Ext w W)=>Order_any v1 v2 v3 f1 f2 f3 va fa W (hg.ext h) h3 h1
 have cT:=fun W (h:Ext w W)=>Order_any v1 v2 v3 t1 t2 t3 va ta W (hg.ext h) h3 h2
 have hi:insideL ⟨hf,ht,⟨f1,f2,f3,fa⟩,⟨t1,t2,t3,ta⟩⟩ ⟨v1,v2,v3,va⟩=(!(hf&&decide (orderL v1 v2 v3 (bs va) f1 f2 f3 (bs fa) < 0))&&!(ht&&decide (0<=orderL v1 v2 v3 (bs va) t1 t2 t3 (bs ta)))):=rfl
 rw[hi]
 generalize orderL v1 v2 v3 (bs va) f1 f2 f3 (bs fa)=OF at *
 generalize orderL v1 v2 v3 (bs va) t1 t2 t3 (bs ta)=OT at *
 have CF:=Hy cF;have CT:=Hy cT
 clear cF cT hi
 cases hf
 ·cases ht
  ·go_enter Tryz.func277,Tryz.ntmps277
   go_wp2
   go_ret
   exact⟨rfl,Ext.au⟩
  ·go_enter Tryz.func277,Tryz.ntmps277
   go_wp2_with fail
   refine (CT.out _ Ext.au).mono ?_
   rintro e w1 ⟨rfl,hx1⟩
   go_wp2
   go_ret
   refine⟨ret_bool ?_,Ext.trans Ext.au hx1⟩
   simp[ge_not]
 ·by_cases hF:0<=OF
  ·have hF2:¬ OF < 0:=by omega
   have HF:=Hy hF2
   clear hF2
   cases ht
   ·go_enter Tryz.func277,Tryz.ntmps277
    go_wp2_with fail
    refine (CF.out _ Ext.au).mono ?_
    rintro e w1 ⟨rfl,hx1⟩
    have b1:=((Blk.new w 130 #[.bool true,.bool false,.int .i64 f1,.int .i64 f2,.int .i64 f3,.string fa,.int .i64 t1,.int .i64 t2,.int .i64 t3,.string ta]).alloc (.cells #[.int .i64 v1,.int .i64 v2,.int .i64 v3,.string va] 23)).ext hx1
    have c1:=b1.cell
    have l1:=b1.lt
    go_wp2
    go_ret
    refine⟨ret_bool ?_,Ext.trans Ext.au hx1⟩
    simp[HF.out]
   ·go_enter Tryz.func277,Tryz.ntmps277
    go_wp2_with fail
    refine (CF.out _ Ext.au).mono ?_
    rintro e w1 ⟨rfl,hx1⟩
    have b1:=((Blk.new w 130 #[.bool true,.bool true,.int .i64 f1,.int .i64 f2,.int .i64 f3,.string fa,.int .i64 t1,.int .i64 t2,.int .i64 t3,.string ta]).alloc (.cells #[.int .i64 v1,.int .i64 v2,.int .i64 v3,.string va] 23)).ext hx1
    have b2:=(Blk.new (w.alloc (.cells #[.bool true,.bool true,.int .i64 f1,.int .i64 f2,.int .i64 f3,.string fa,.int .i64 t1,.int .i64 t2,.int .i64 t3,.string ta] 130)) 23 #[.int .i64 v1,.int .i64 v2,.int .i64 v3,.string va]).ext hx1
    rw[World.size_alloc] at b2
    have c1:=b1.cell;have c2:=b2.cell
    have l1:=b1.lt;have l2:=b2.lt
    have hxa:Ext w w1:=Ext.trans Ext.au hx1
    go_wp2_with fail
    refine (CT.out _ hxa).mono ?_
    rintro e w2 ⟨rfl,hx2⟩
    go_wp2
    go_ret
    refine⟨ret_bool ?_,hxa.trans hx2⟩
    have e:decide (OF < 0)=false:=decide_eq_false (by have:=HF.out;omega)
    simp[e,ge_not]
  ·have hF2:OF < 0:=by omega
   have HF:=Hy hF2
   clear hF2
   go_enter Tryz.func277,Tryz.ntmps277
   go_wp2_with fail
   refine (CF.out _ Ext.au).mono ?_
   rintro e w1 ⟨rfl,hx1⟩
   go_wp2
   go_ret
   refine⟨ret_bool ?_,Ext.trans Ext.au hx1⟩
   simp
def nearL (h:Bool) (e v:V4):Bool:=h&&!decide (e.a.size=0)&&decide (e.a1=v.a1)&&decide (e.a2=v.a2)&&decide (e.a3=v.a3)
set_option maxHeartbeats 4000000 in
theorem names_any (h:Bool) (e v:V4) (w:World) :
 Calls Tryz.prog 278 #[.bool h,verV e,verV v] w fun r w'=>r=.returned (.bool (nearL h e v))∧Ext w w':=by
 obtain⟨e1,e2,e3,ea⟩:=e
 obtain⟨v1,v2,v3,va⟩:=v
 have hN:nearL h ⟨e1,e2,e3,ea⟩ ⟨v1,v2,v3,va⟩=(h&&!decide (ea.size=0)&&decide (e1=v1)&&decide (e2=v2)&&decide (e3=v3)):=rfl
 rw[hN]
 clear hN
 cases h
 ·go_enter Tryz.func278,Tryz.ntmps278
  go_wp2
  go_ret
  exact⟨rfl,Ext.au⟩
 rcases Nat.eq_zero_or_pos ea.size with h0|h0
 ·have hl:=emp_of_size h0
  have hb:=emp_bool h0
  have H0:=Hy h0
  clear h0
  go_enter Tryz.func278,Tryz.ntmps278
  go_wp2
  go_ret
  refine⟨ret_bool ?_,Ext.au⟩
  simp[H0.out]
 ·have hl:=nemp_of_size h0
  have hb:=nemp_bool h0
  have H0:=Hy (show ¬ ea.size=0 by omega)
  by_cases q1:e1=v1
  ·subst q1
   by_cases q2:e2=v2
   ·subst q2
    go_enter Tryz.func278,Tryz.ntmps278
    go_wp2
    go_ret
    refine⟨ret_bool ?_,Ext.au⟩
    simp[H0.out]
    by_cases q3:e3=v3<;>simp[q3]
   ·go_enter Tryz.func278,Tryz.ntmps278
    go_wp2
    go_ret
    refine⟨ret_bool ?_,Ext.au⟩
    simp[q2]
  ·go_enter Tryz.func278,Tryz.ntmps278
   go_wp2
   go_ret
   refine⟨ret_bool ?_,Ext.au⟩
   simp[q1]
end
section
theorem cmpB_lt:∀ a b:Str,Lib.compareBytes a b < 0↔a < b
 | [],[]=>by simp[Lib.compareBytes]
 | [],b::rb=>by simp[Lib.compareBytes]
 | a::ra,[]=>by simp[Lib.compareBytes]
 | a::ra,b::rb=>by
   unfold Lib.compareBytes
   rw[List.cons_lt_cons_iff]
   by_cases h:a < b
   ·simp[h]
   ·by_cases h2:b < a
    ·rw[if_neg h,if_pos h2]
     constructor
     ·intro h3;omega
     ·rintro (h3|⟨rfl,_⟩)
      ·exact absurd h3 h
      ·exact absurd h2 (UInt8.lt_irrefl _)
    ·rw[if_neg h,if_neg h2,cmpB_lt ra rb]
     obtain rfl:a=b:=UInt8.le_antisymm (UInt8.not_lt.1 h2) (UInt8.not_lt.1 h)
     constructor
     ·intro h3;exact .inr ⟨rfl,h3⟩
     ·rintro (h3|⟨_,h3⟩)
      ·exact absurd h3 h
      ·exact h3
theorem cmpB_zero:∀ a b:Str,Lib.compareBytes a b=0↔a=b
 | [],[]=>by simp[Lib.compareBytes]
 | [],b::rb=>by simp[Lib.compareBytes]
 | a::ra,[]=>by simp[Lib.compareBytes]
 | a::ra,b::rb=>by
   unfold Lib.compareBytes
   by_cases h:a < b
   ·rw[if_pos h]
    constructor
    ·intro h3;omega
    ·intro h3;injection h3 with h3 _;subst h3;exact absurd h (UInt8.lt_irrefl _)
   ·by_cases h2:b < a
    ·rw[if_neg h,if_pos h2]
     constructor
     ·intro h3;omega
     ·intro h3;injection h3 with h3 _;subst h3;exact absurd h2 (UInt8.lt_irrefl _)
    ·rw[if_neg h,if_neg h2,cmpB_zero ra rb]
     obtain rfl:a=b:=UInt8.le_antisymm (UInt8.not_lt.1 h2) (UInt8.not_lt.1 h)
     simp
theorem strLt_irrefl (a:Str):¬ a < a:=List.lt_irrefl a
theorem strLt_trans {a b c:Str} (h:a < b) (h2:b < c):a < c:=List.lt_trans h h2
theorem strLt_of {a b:Str} (h:¬ b < a) (hne:b≠a):a < b:=by
 by_cases h1:a < b
 ·exact h1
 ·exact absurd (List.le_antisymm (List.not_lt.1 h1) (List.not_lt.1 h)) hne
def Asc (l:List Se):Prop:=∀ i j (hj:j < l.length) (hi:i < j),bs (l[i]'(Nat.lt_trans hi hj)).k < bs l[j].k
theorem firstI_all:∀ {l:List Int},firstI l=0->∀ x∈l,x=0
 | [],_=>by simp
 | y::l,h=>by
   unfold firstI at h
   by_cases hy:y=0
   ·rw[if_pos hy] at h
    intro x hx
    rcases List.mem_cons.1 hx with rfl|hx
    ·exact hy
    ·exact firstI_all h x hx
   ·rw[if_neg hy] at h;exact absurd h hy
theorem seErr_asc {is:Str->Bool} {l:List Se} (h:seErr is l=0):Asc l:=by
 have h1:∀ k (hk:k+1 < l.length),bs (l[k]'(by omega)).k < bs l[k+1].k:=fun k hk=>by
  have h0:=firstI_all h (seAt is l (k+1)) (by
   rw[<-seErrs_get is l (k+1) (by rw[seErrs_length];exact hk)]
   exact List.getElem_mem _)
  have h2:seOne is l[k+1]=0:=by
   by_cases e:seOne is l[k+1]=0
   ·exact e
   ·rw[seAt_bad hk e] at h0;exact h0
  rw[seAt_gap hk h2,seGap] at h0
  by_cases hb:(Op.bytesLess l[k+1].k.toList l[k].k.toList||l[k+1].k.toList==l[k].k.toList)=true
  ·rw[if_pos hb] at h0;cases h0
  ·simp only[ByteArray.toList_eq,Proofs.bytesLess_eq,Bool.or_eq_true,decide_eq_true_eq,beq_iff_eq,not_or] at hb
   exact strLt_of hb.1 hb.2
 suffices ∀ d i (hd:i+(d+1) < l.length),bs (l[i]'(by omega)).k < bs l[i+(d+1)].k from fun i j hj hi=>by
  obtain⟨d,rfl⟩:∃ d,j=i+(d+1):=⟨j - i - 1,by omega⟩
  exact this d i hj
 intro d
 induction d with
 | zero=>exact fun i hd=>h1 i hd
 | succ d ih=>exact fun i hd=>strLt_trans (ih i (by omega)) (h1 (i+(d+1)) hd)
theorem tbl_some {l:List Se} (ha:Asc l):∀ N,N<=l.length->∀ i (_h:i < N) (hl:i < l.length),tblN l N (bs l[i].k)=some (bs l[i].v)
 | 0,_,_,h,_=>absurd h (Nat.not_lt_zero _)
 | N+1,hN,i,h,hl=>by
   rw[tblN_succ (show N < l.length by omega)]
   dsimp only
   by_cases e:i=N
   ·subst e;rw[if_pos rfl]
   ·have:=ha i N (by omega) (by omega)
    rw[if_neg (fun e2=>by rw[e2] at this;exact strLt_irrefl _ this)]
    exact tbl_some ha N (by omega) i (by omega) hl
theorem tbl_none {l:List Se} {x:Str}:∀ N (hN:N<=l.length),(∀ i (h:i < N),x≠bs (l[i]'(by omega)).k)->tblN l N x=none
 | 0,_,_=>rfl
 | N+1,hN,h=>by
   rw[tblN_succ (show N < l.length by omega)]
   dsimp only
   rw[if_neg (h N (by omega))]
   exact tbl_none N (by omega) fun i hi=>h i (by omega)
def Below_ (l:List Se) (x:Str) (i:Nat):Prop:=∀ k (hk:k < l.length),k < i->bs l[k].k < x
def Above_ (l:List Se) (x:Str) (j:Nat):Prop:=∀ k (hk:k < l.length),j<=k->¬ bs l[k].k < x
theorem below_next {l:List Se} (ha:Asc l) {x:Str} {h:Nat} (hh:h < l.length) (hx:bs l[h].k < x):Below_ l x (h+1):=fun k hk hkh=>by
 by_cases e:k=h
 ·subst e;exact hx
 ·exact strLt_trans (ha k h hh (by omega)) hx
theorem above_next {l:List Se} (ha:Asc l) {x:Str} {h:Nat} (hh:h < l.length) (hx:¬ bs l[h].k < x):Above_ l x h:=fun k hk hkh=>by
 by_cases e:k=h
 ·subst e;exact hx
 ·exact fun h2=>hx (strLt_trans (ha h k hk (by omega)) h2)
theorem search_hit {l:List Se} (ha:Asc l) {x:Str} {i:Nat} (hi:i < l.length) (he:bs l[i].k=x):tbl l x=some (bs l[i].v):=by
 subst he
 exact tbl_some ha l.length (Nat.le_refl _) i hi hi
theorem search_miss {l:List Se} (ha:Asc l) {x:Str} {i:Nat} (hb:Below_ l x i) (hab:Above_ l x i) (he:∀ h:i < l.length,bs l[i].k≠x):tbl l x=none:=by
 refine tbl_none l.length (Nat.le_refl _) fun k hk e=>?_
 by_cases h1:k < i
 ·have:=hb k hk h1
  rw[<-e] at this
  exact strLt_irrefl _ this
 ·by_cases h2:k=i
  ·subst h2;exact he hk e.symm
  ·have:=ha i k hk (by omega)
   rw[<-e] at this
   exact hab i (by omega) (Nat.le_refl _) this
end
end Go.Proofs.YtmnafaaijglnfaaGreatDoor
