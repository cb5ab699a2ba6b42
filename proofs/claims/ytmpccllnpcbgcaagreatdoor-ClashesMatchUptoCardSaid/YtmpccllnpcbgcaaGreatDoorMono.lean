/- A run of the machine never takes a draw back: the count of draws behind a call is at least the one ahead of it. Of every program, by the machine's own definition. -/
import Derived.Test.YtmpccllnpcbgcaaGreatDoorPk02
import Derived.Test.YtmpccllnpcbgcaaGreatDoorProg
import Derived.Lib.Split
import Derived.Lib.IndexBytes
import Derived.Lib.ItoaLen
import Derived.WalkKit
import Derived.WalkSpells
import Derived.WalkLawsBesides
import Derived.LoopTactic
import Derived.Outline
import Derived.Lib.Hide
import Derived.Lib.LaidTab
import Derived.Lib.ConvBytes
import Derived.Lib.ItoaNum
import Derived.WalkSmall
import Derived.Sort.Grow
import Derived.Deep.QuietTactic
import Derived.BigQuiet
import GoSem.Step
import Derived.Calls
namespace Go.Proofs.YtmpccllnpcbgcaaGreatDoor.Mono
open Go
theorem ask_mono {α:Type}:∀ (a:Ask α) (w:World),w.drawn<=(w.ask a).2.drawn
 | .done a,w=>Nat.le_refl _
 | .ask what range k,w=>by
   unfold World.ask
   dsimp only
   split
   ·exact ask_mono _ w
   ·exact Nat.le_trans (Nat.le_succ _) (ask_mono (k _) { w with drawn:=w.drawn+1 })
theorem sys_mono (w:World) (c:Sys):w.drawn<=(w.sys c).2.drawn:=by
 unfold World.sys
 have h:=ask_mono (Kernel.perform c w.os) w
 revert h
 generalize w.ask (Kernel.perform c w.os)=x
 intro h
 obtain⟨⟨r,os⟩,w1⟩:=x
 split
 ·exact Nat.le_refl _
 ·rename_i e
  injection e with e1 e2
  subst e2
  exact h
theorem freeze_drawn (w:World) (a:Addr) (n:Nat):(w.freeze a n).drawn=w.drawn:=by
 unfold World.freeze
 split<;>rfl
theorem viewStore_drawn {p:Program} {w w':World} {at_:Addr} {u:TypeId} {k:Addr} {v:Value} {b:Bool} {l:List Addr} (h:w.viewStore p at_ u k v b=.ok (w',l)):w'.drawn=w.drawn:=by
 unfold World.viewStore at h
 simp only[bind,Except.bind,pure,Except.pure] at h
 repeat' split at h
 all_goals first|(cases h;done)|(injection h with h;injection h with h1 h2;subst h1;rfl)
theorem farStore_drawn {p:Program} {w w':World} {a:Addr} {v:Value} {b:Bool} {l:List Addr} (h:w.farStore p a v b=.ok (w',l)):w'.drawn=w.drawn:=by
 unfold World.farStore at h
 repeat' split at h
 all_goals first|(cases h;done)|(rename_i hv;injection h with h;subst h;exact viewStore_drawn hv)|skip
def world {α:Type}:Result α->World
 | .ok _ w=>w
 | .halt _ w=>w
theorem run_mono {α:Type} (p:Program):∀ (s:Sem α) (w:World),w.drawn<=(world (s.run p w)).drawn:=by
 intro s
 induction s with
 | pure a=>intro w;exact Nat.le_refl _
 | load m a k ih =>
   intro w
   unfold Sem.run
   repeat' split
   all_goals first|exact ih _ _|exact Nat.le_refl _
 | store m a v k ih =>
   intro w
   have key:w.drawn<=(world (match w.cell? a with
    | some _=>if w.frozen? a then .halt (.unsupported (.unsafePointer "a write to bytes that a string shares")) w else k.run p (w.setCell a v)
    | none=>match w.farStore p a v (m==.atomic) with
      | .ok (w,_)=>k.run p w
      | .error h=>.halt h w)).drawn:=by
    split
    ·split
     ·exact Nat.le_refl _
     ·exact ih (w.setCell a v)
    ·split
     ·rename_i h
      rw[<-farStore_drawn h]
      exact ih _
     ·exact Nat.le_refl _
   cases v<;>first|exact Nat.le_refl _|exact key
 | new o k ih =>
   intro w
   unfold Sem.run
   exact ih _ { w with heap:=w.heap.push o }
 | shape r k ih =>
   intro w
   unfold Sem.run
   exact ih _ _
 | freeze a n k ih =>
   intro w
   unfold Sem.run
   rw[<-freeze_drawn w a n]
   exact ih _
 | frozen a k ih =>
   intro w
   unfold Sem.run
   exact ih _ _
 | getObj r k ih =>
   intro w
   unfold Sem.run
   repeat' split
   all_goals first|exact ih _ _|exact Nat.le_refl _
 | setObj r o k ih =>
   intro w
   unfold Sem.run
   repeat' split
   all_goals first|exact Nat.le_refl _|exact ih { w with heap:=w.heap.setIfInBounds r o }
 | choose q k ih =>
   intro w
   unfold Sem.run
   split
   ·exact ih _ _
   ·exact Nat.le_trans (Nat.le_succ _) (ih _ { w with drawn:=w.drawn+1 })
 | sys c k ih =>
   intro w
   unfold Sem.run
   exact Nat.le_trans (sys_mono w c) (ih _ _)
 | program k ih =>
   intro w
   unfold Sem.run
   exact ih _ _
 | mark m k ih =>
   intro w
   unfold Sem.run
   exact ih _
 | halt h=>intro w;exact Nat.le_refl _
theorem runT_mono {α:Type} (p:Program):∀ (s:Sem α) (w:World) (es:Array Event),w.drawn<=(world (s.runT p w es).1).drawn:=by
 intro s
 induction s with
 | pure a=>intro w es;exact Nat.le_refl _
 | load m a k ih =>
   intro w es
   unfold Sem.runT
   repeat' split
   all_goals first|exact ih _ _ _|exact Nat.le_refl _
 | store m a v k ih =>
   intro w es
   have key:w.drawn<=(world (match w.cell? a with
    | some _ =>
      if w.frozen? a then (.halt (.unsupported (.unsafePointer "a write to bytes that a string shares")) w,es)
      else k.runT p (w.setCell a v) (es.push ⟨.cell a,true,m==.atomic⟩)
    | none=>match w.farStore p a v (m==.atomic) with
      | .ok (w,touched)=>k.runT p w (es++touched.toArray.map (⟨.cell ·,true,m==.atomic⟩))
      | .error h=>(.halt h w,es):Result α × Array Event).1).drawn:=by
    split
    ·split
     ·exact Nat.le_refl _
     ·exact ih (w.setCell a v) _
    ·split
     ·rename_i h
      rw[<-farStore_drawn h]
      exact ih _ _
     ·exact Nat.le_refl _
   cases v<;>first|exact Nat.le_refl _|exact key
 | new o k ih =>
   intro w es
   unfold Sem.runT
   exact ih _ { w with heap:=w.heap.push o } _
 | shape r k ih =>
   intro w es
   unfold Sem.runT
   exact ih _ _ _
 | freeze a n k ih =>
   intro w es
   unfold Sem.runT
   rw[<-freeze_drawn w a n]
   exact ih _ _
 | frozen a k ih =>
   intro w es
   unfold Sem.runT
   exact ih _ _ _
 | getObj r k ih =>
   intro w es
   unfold Sem.runT
   repeat' split
   all_goals first|exact ih _ _ _|exact Nat.le_refl _
 | setObj r o k ih =>
   intro w es
   unfold Sem.runT
   repeat' split
   all_goals first|exact Nat.le_refl _|exact ih { w with heap:=w.heap.setIfInBounds r o } _
 | choose q k ih =>
   intro w es
   unfold Sem.runT
   split
   ·exact ih _ _ _
   ·exact Nat.le_trans (Nat.le_succ _) (ih _ { w with drawn:=w.drawn+1 } _)
 | sys c k ih =>
   intro w es
   unfold Sem.runT
   exact Nat.le_trans (sys_mono w c) (ih _ _ _)
 | program k ih =>
   intro w es
   unfold Sem.runT
   exact ih _ _ _
 | mark m k ih =>
   intro w es
   unfold Sem.runT
   exact ih _ _
 | halt h=>intro w es;exact Nat.le_refl _
theorem run_ok {α:Type} {p:Program} {s:Sem α} {w w':World} {a:α} (h:s.run p w=.ok a w'):w.drawn<=w'.drawn:=by
 have:=run_mono p s w
 rw[h] at this
 exact this
theorem run_halt {α:Type} {p:Program} {s:Sem α} {w w':World} {a:Halt} (h:s.run p w=.halt a w'):w.drawn<=w'.drawn:=by
 have:=run_mono p s w
 rw[h] at this
 exact this
def GD (d:Nat):GStep->Prop
 | .go _ w _=>d<=w.drawn
 | .comm _ _ _ _ w _=>d<=w.drawn
 | .spawn _ _ w _=>d<=w.drawn
 | .count _ w _=>d<=w.drawn
 | .timer _ _ w _=>d<=w.drawn
 | .alone _ _ w _=>d<=w.drawn
 | .newcoro _ _ _ w _=>d<=w.drawn
 | .coroswitch _ _ _ w _=>d<=w.drawn
 | .collect _ w _=>d<=w.drawn
 | .watch _ w _=>d<=w.drawn
 | .ended _ _ _=>True
theorem gd_after {d:Nat} {es:Array Event} {s:GStep} (h:GD d s):GD d (s.after es):=by
 cases s<;>exact h
theorem gd_dieOf (fr:Frame) (l:List ByteArray) (m:String) (b:Bool) (w:World):GD w.drawn (dieOf fr l m b w):=Nat.le_refl _
theorem gd_throw (fr:Frame) (m:String) (w:World):GD w.drawn (endThrow fr m w):=Nat.le_refl _
theorem gd_endWith (w:World) (fd:Nat) (t:ByteArray) (o:Outcome):GD w.drawn (endWith w fd t o):=by
 unfold endWith
 dsimp only
 repeat' split
 all_goals trivial
theorem gd_endPrinting (p:Program) (fr:Frame) (v:Value) (w:World):GD w.drawn (endPrinting p fr v w):=by
 unfold endPrinting
 dsimp only
 split
 ·exact gd_throw _ _ _
 ·trivial
theorem gd_endFatal (p:Program) (fr:Frame) (cs:List Frame) (dy:Option Dying) (m:String) (w:World):GD w.drawn (endFatal p fr cs dy m w):=by
 unfold endFatal
 extract_lets
 split
 ·rename_i h;exact run_ok h
 ·trivial
 ·trivial
theorem runT_is {α:Type} {p:Program} {s:Sem α} {w:World} {es es':Array Event} {r:Result α} (h:s.runT p w es=(r,es')):w.drawn<=(world r).drawn:=by
 have:=runT_mono p s w es
 rw[h] at this
 exact this
theorem runT_fst {α:Type} {p:Program} {s:Sem α} {w:World} {es:Array Event} {r:Result α} (h:(s.runT p w es).1=r):w.drawn<=(world r).drawn:=h ▸ runT_mono p s w es
theorem gd_writeOn (p:Program) (fr:Frame) (d:Dying) (f:Fatal) (w:World):GD w.drawn (writeOn p fr d f w):=by
 unfold writeOn
 extract_lets on
 split
 ·trivial
 ·dsimp only
  split<;>first|trivial|(rename_i h;exact runT_is h)
theorem gd_le {d e:Nat} {s:GStep} (h:d<=e) (hs:GD e s):GD d s:=by
 cases s<;>first|trivial|exact Nat.le_trans h hs
theorem gd_die (p:Program) (fr:Frame) (d:Dying) (w:World):GD w.drawn (die p fr d w):=by
 unfold die
 split
 ·exact gd_writeOn _ _ _ _ _
 ·split
  ·split
   ·exact Nat.le_refl _
   ·exact gd_endWith _ _ _ _
  ·dsimp only
   split
   ·exact Nat.le_refl _
   ·split
    ·rename_i h;exact run_ok h
    ·trivial
   ·refine gd_after ?_
    split<;>first|trivial|(rename_i h;first|exact runT_fst h|exact gd_le (runT_fst h) (gd_endPrinting _ _ _ _))
   ·trivial
theorem gd_ite {d:Nat} {c:Prop} [Decidable c] {a b:GStep} (ha:GD d a) (hb:GD d b):GD d (if c then a else b):=by
 split
 ·exact ha
 ·exact hb
theorem gd_doReturn (p:Program) (main:Bool) (fr:Frame) (cs:List Frame) (dy:Option Dying) (v:Value) (w:World):GD w.drawn (doReturn p main fr cs dy v w):=by
 unfold doReturn
 dsimp only
 split
 ·split<;>exact Nat.le_refl _
 ·split
  ·exact Nat.le_refl _
  ·trivial
  ·split
   ·exact Nat.le_refl _
   ·split
    ·exact Nat.le_refl _
    ·trivial
theorem gd_callDeferred (p:Program) (fr:Frame) (cs:List Frame) (dy:Option Dying) (d:Deferred) (w:World):GD w.drawn (callDeferred p fr cs dy d w):=by
 unfold callDeferred
 refine gd_ite ?_ ?_
 ·trivial
 ·split
  rename_i h
  have hm:=runT_is h
  clear h
  extract_lets es
  refine gd_after ?_
  revert hm
  split<;>intro hm<;>first|trivial|exact hm|exact gd_le hm (gd_endFatal _ _ _ _ _ _)|exact gd_le hm (gd_throw _ _ _)|skip
  all_goals (split<;>exact hm)
theorem gd_unwind (p:Program) (main:Bool) (fr:Frame) (cs:List Frame) (dy:Option Dying) (w:World):GD w.drawn (unwind p main fr cs dy w):=by
 unfold unwind
 split
 ·split
  rename_i h
  have hm:=runT_is h
  clear h
  refine gd_after ?_
  revert hm
  split<;>intro hm<;>first|trivial|exact hm
 ·exact gd_callDeferred _ _ _ _ _ _
 ·split
  ·trivial
  ·split
   ·trivial
   ·split
    ·exact Nat.le_refl _
    ·split
     ·split
      ·exact Nat.le_refl _
      ·split
       ·rename_i h;exact run_ok h
       ·trivial
       ·trivial
     ·split
      ·exact gd_endPrinting _ _ _ _
      ·trivial
  ·split
   ·exact gd_doReturn _ _ _ _ _ _ _
   ·split
    rename_i h
    have hm:=runT_is h
    clear h
    refine gd_after ?_
    revert hm
    split<;>intro hm<;>first|trivial|exact gd_le hm (gd_doReturn _ _ _ _ _ _ _)
theorem gd_early (p:Program) (fr:Frame) (cs:List Frame) (dy:Option Dying) (g:Nat) (w:World):GD w.drawn (early p fr cs dy g w):=by
 have hn:∀ W:World,GD W.drawn (match W.heap[g]? with
  | some (.pending c elem)=>.go { frame:=fr,callers:=cs,status:=.running,dying:=dy } { W with heap:=W.heap.setIfInBounds g (.cells c elem) }
  | _=>.ended (.stuck "early: the variable does not wait" (fr.pos p)) W):=fun W=>by
  split
  ·exact Nat.le_refl _
  ·trivial
 unfold early
 extract_lets refuse notYet
 have hn:∀ W,GD W.drawn (notYet W):=hn
 split
 ·exact hn _
 ·split
  ·trivial
  ·extract_lets there
   have ht:∀ W,GD W.drawn (there W):=fun W=>Nat.le_refl _
   clear_value notYet there
   repeat' split
   all_goals first|exact hn _|exact ht _|trivial|(rename_i h;first|exact gd_le (run_ok h) (hn _)|exact gd_le (run_ok h) (ht _))|skip
theorem gd_apply (p:Program) (li:Bool) (fr:Frame) (cs:List Frame) (dy:Option Dying) (s:Sem Next) (w:World):GD w.drawn (stepG.apply p li fr cs dy s w):=by
 unfold stepG.apply
 extract_lets go kind
 have hg:∀ (f:Frame) (W:World),GD W.drawn (go f W):=fun _ _=>Nat.le_refl _
 clear_value go kind
 have key:w.drawn<=(world (if li=true then s.runT p w #[] else (s.run p w,#[])).1).drawn:=by
  split
  ·exact runT_mono p s w #[]
  ·exact run_mono p s w
 generalize (if li=true then s.runT p w #[] else (s.run p w,#[]))=x at key
 obtain⟨r,es⟩:=x
 dsimp only at key
 simp only
 refine gd_after ?_
 revert key
 split<;>intro hm<;>first|trivial|exact hm|exact gd_le hm (hg _ _)|exact gd_le hm (gd_endFatal _ _ _ _ _ _)|exact gd_le hm (gd_throw _ _ _)|exact gd_le hm (gd_early _ _ _ _ _ _)|exact gd_ite (gd_le hm (gd_throw _ _ _)) hm|skip
 all_goals (repeat' split)<;>first|exact hm|exact gd_le hm (hg _ _)
theorem gd_oper (p:Program) (li:Bool) (fr:Frame) (cs:List Frame) (dy:Option Dying) (w:World):GD w.drawn (stepG.oper p li fr cs dy w):=by
 unfold stepG.oper
 split
 ·trivial
 ·split<;>exact gd_apply _ _ _ _ _ _ _
theorem gd_exec (p:Program) (main li:Bool) (fr:Frame) (cs:List Frame) (dy:Option Dying) (w:World):GD w.drawn (stepG.exec p main li fr cs dy w):=by
 unfold stepG.exec
 extract_lets go onw lost leave
 have hg:∀ (f:Frame) (W:World),GD W.drawn (go f W):=fun _ _=>Nat.le_refl _
 have ht:∀ l,GD w.drawn (onw l):=fun _=>Nat.le_refl _
 have hl:∀ s,GD w.drawn (lost s):=fun _=>trivial
 have hv:∀ j,GD w.drawn (leave j):=fun j=>by
  show GD w.drawn (match fr.roundOf with
   | none=>_
   | some l=>_)
  split
  ·exact gd_ite (hg _ _) (hl _)
  ·split
   rename_i h
   have hm:=runT_is h
   clear h
   refine gd_after ?_
   revert hm
   split<;>intro hm<;>first|trivial|exact gd_le hm (gd_doReturn _ _ _ _ _ _ _)
 clear_value go onw lost leave
 split<;>first|trivial|exact hv _|exact ht _|exact gd_apply _ _ _ _ _ _ _|skip
 ·split
  ·exact ht _
  ·exact hl _
 ·cases h:exitTo _ _<;>simp only[Option.elim]<;>first|exact hv _|exact ht _
 ·cases h:gotoIn _ _<;>simp only[Option.elim]<;>first|exact hv _|exact ht _
 ·split
  rename_i h
  have hm:=runT_is h
  clear h
  refine gd_after ?_
  revert hm
  split<;>intro hm<;>first|trivial|exact gd_le hm (gd_apply _ _ _ _ _ _ _)
 ·split
  rename_i h
  have hm:=runT_is h
  clear h
  refine gd_after ?_
  revert hm
  split<;>intro hm<;>first|trivial|exact gd_le hm (hg _ _)
 ·cases h:Extern.next _<;>simp only[Option.elim]<;>first|exact hl _|exact gd_apply _ _ _ _ _ _ _
 ·refine gd_ite (ht _) ?_
  split
  ·rename_i h;exact gd_le (run_ok h) (hg _ _)
  ·trivial
 ·exact gd_ite (gd_oper _ _ _ _ _ _) (hg _ _)
theorem gd_stepG (p:Program) (main:Bool) (g:Goroutine) (w:World) (li:Bool):GD w.drawn (Go.stepG p main g w li):=by
 unfold Go.stepG
 obtain⟨fr,cs,st,dy,of⟩:=g
 dsimp only
 split
 ·exact gd_die _ _ _ _
 ·exact gd_exec _ _ _ _ _ _ _
 ·exact gd_unwind _ _ _ _ _ _
def SD (d:Nat):Stepped->Prop
 | .next m=>d<=m.world.drawn
 | .ended _ _=>True
theorem sd_le {d e:Nat} {s:Stepped} (h:d<=e) (hs:SD e s):SD d s:=by
 cases s
 ·exact Nat.le_trans h hs
 ·trivial
theorem sd_look (p:Program) (gs:Array Goroutine) (rest:Rest) (w:World):SD w.drawn (look p gs rest w):=by
 unfold look
 split
 ·split
  dsimp only
  split
  ·trivial
  ·split
   ·trivial
   ·split
    ·rename_i h
     have hm:=run_ok h
     exact hm
    ·trivial
    ·trivial
 ·trivial
theorem sd_serve (p:Program) (m:Machine) (k:Nat):SD m.world.drawn (serve p m k):=by
 unfold serve
 split
 ·trivial
 ·exact Nat.le_refl _
 ·dsimp only
  split
  ·trivial
  ·exact Nat.le_refl _
theorem waiting_drawn {rest:Rest} {cs:Array CommCase} {w w':World} (h:waitingAt rest cs w=some w'):w'.drawn=w.drawn:=by
 unfold waitingAt at h
 repeat' split at h
 ·injection h with h;subst h;rfl
 ·cases h
 ·injection h with h;subst h;rfl
theorem sd_communicate (p:Program) (rest:Rest) (gs:Array Goroutine) (i:Nat) (g:Goroutine) (cases:Array CommCase) (bl:Bool) (sh:CommShape) (w:World) :
 SD w.drawn (communicate p rest gs i g cases bl sh w).1:=by
 unfold communicate
 extract_lets put ill me other ready pick
 have hp:∀ (g:Goroutine) (gs:Array Goroutine) (W:World) (o:Array MemOp),SD W.drawn (put g gs W o).1:=fun _ _ _ _=>Nat.le_refl _
 clear_value put ill me other ready pick
 split
 ·trivial
 ·split
  ·split
   ·split
    ·rename_i h;show _<=_;rw[waiting_drawn h];exact Nat.le_refl _
    ·trivial
   ·exact hp _ _ _ _
  ·split
   ·trivial
   ·rename_i h
    have hm:=run_ok h
    clear h
    extract_lets r
    clear_value r
    split
    ·split
     ·rename_i h;exact sd_le (Nat.le_trans hm (run_halt h)) (hp _ _ _ _)
     ·trivial
    ·exact sd_le hm (hp _ _ _ _)
    ·refine sd_le hm ?_;exact hp _ _ _ _
    ·extract_lets v buf
     split
     ·refine sd_le hm ?_;exact hp _ _ _ _
     ·split
      ·rename_i h;refine sd_le (Nat.le_trans hm (run_ok h)) ?_;exact hp _ _ _ _
      ·trivial
    ·refine sd_le hm ?_;exact hp _ _ _ _
    ·refine sd_le hm ?_;exact hp _ _ _ _
    ·trivial
theorem drain_drawn (w:World) (c:Nat):(drain w c).2.drawn=w.drawn:=by
 unfold drain
 split<;>rfl
theorem retime_drawn (m:Machine) (k:Nat) (t:Timer) (a b:Nat):(retime m k t a b).2.world.drawn=m.world.drawn:=by
 unfold retime
 cases t.chan with
 | none=>rfl
 | some c=>exact drain_drawn _ _
theorem named_drawn {d:Nat} {M m':Machine} {var:Addr} {f:Nat->Timer->Value × Machine} {v:Value} (hf:∀ k t,(f k t).2.world.drawn=d) (h:timerOp.named M var f=.ok (v,m')):m'.world.drawn=d:=by
 unfold timerOp.named at h
 split at h
 ·injection h with h
  have:=hf (_) (_) |>.symm.trans (congrArg (fun x=>x.2.world.drawn) h)
  exact this.symm
 ·cases h
theorem opened_drawn {m m':Machine} {var:Addr} (h:timerOp.opened m var=some m'):m'.world.drawn=m.world.drawn:=by
 unfold timerOp.opened at h
 repeat' split at h
 ·injection h with h;subst h;rfl
 ·cases h
 ·injection h with h;subst h;rfl
theorem timerOp_drawn {m m':Machine} {op:TimerOp} {v:Value} (h:timerOp m op=.ok (v,m')):m'.world.drawn=m.world.drawn:=by
 unfold timerOp at h
 split at h
 ·split at h
  ·injection h with h;injection h with h1 h2;subst h2;rfl
  ·split at h
   ·split at h
    ·cases h
    ·injection h with h;injection h with h1 h2;subst h2;rfl
   ·cases h
 ·exact named_drawn (fun _ _=>retime_drawn _ _ _ _ _) h
 ·split at h
  ·rename_i ho
   have:=named_drawn (fun _ _=>retime_drawn _ _ _ _ _) h
   exact this.trans (opened_drawn ho)
  ·cases h
 ·injection h with h;injection h with h1 h2;subst h2;rfl
theorem sd_runT (p:Program) (m:Machine) (i:Nat) (li:Bool):SD m.world.drawn (runT p m i li).1:=by
 unfold runT
 extract_lets rest world
 split
 rename_i g gs hsw
 extract_lets wake fn pos s ops done
 have hs:GD m.world.drawn s:=gd_stepG _ _ _ _ _
 have hd:∀ r,(done r).1=r:=fun _=>rfl
 clear_value done wake fn pos ops rest
 revert hs
 generalize s=s'
 split<;>intro hs<;>(try rw[hd])
 ·trivial
 ·split
  rename_i h
  exact sd_le hs (Eq.mp (congrArg (fun x=>SD _ x.1) h) (sd_communicate p rest gs i _ _ _ _ _))
 ·exact hs
 ·exact hs
 ·extract_lets f c n
  split
  ·trivial
  ·exact hs
 ·exact hs
 ·exact sd_le hs (sd_look _ _ _ _)
 ·exact hs
 ·exact hs
 ·split
  ·exact hs
  ·exact hs
  ·trivial
 ·split
  ·rename_i h
   show _<=_
   rw[timerOp_drawn h]
   exact hs
  ·exact hs
  ·trivial
  ·trivial
def MD (d:Nat):Move->Prop
 | .goroutine m _=>d<=m.world.drawn
 | .machine s _=>SD d s
theorem md_le {d e:Nat} {s:Move} (h:d<=e) (hs:MD e s):MD d s:=by
 cases s
 ·exact Nat.le_trans h hs
 ·exact sd_le h hs
theorem md_askOn (p:Program) (m:Machine):MD m.world.drawn (askOn p m):=by
 unfold askOn
 extract_lets mono rs ds pick
 have hp:∀ M:Machine,MD M.world.drawn (pick M):=fun M=>by
  show MD M.world.drawn (match (choose (.sched rs.length)).run p M.world with
   | .halt _ w=>_
   | .ok k world=>_)
  split
  ·trivial
  ·rename_i h
   have hm:=run_ok h
   split
   ·exact hm
   ·split
    ·trivial
    ·rename_i h2
     exact Nat.le_trans hm (run_ok h2)
 clear_value pick mono rs ds
 split
 ·trivial
 ·rename_i h
  have hm:=run_ok h
  clear h
  extract_lets m2
  have e2:m2.world.drawn=_:=rfl
  rw[<-e2] at hm
  split
  ·exact md_le hm (sd_serve p m2 _)
  ·split
   ·split
    ·exact hm
    ·split
     ·exact hm
     ·split
      ·trivial
      ·trivial
   ·split
    ·exact md_le hm (hp _)
    ·split
     ·trivial
     ·rename_i h2;have h3:=run_ok h2;refine md_le (Nat.le_trans hm h3) ?_;exact hp _
     ·rename_i h2;have h3:=run_ok h2;exact Nat.le_trans hm h3
     ·rename_i h2;have h3:=run_ok h2;refine md_le (Nat.le_trans hm h3) ?_;exact hp _
theorem md_ask (p:Program) (m:Machine):MD m.world.drawn (ask p m):=by
 unfold ask
 split
 ·split
  ·trivial
  ·rename_i h
   have hm:=run_ok h
   split
   ·rename_i h2
    refine md_le ?_ (md_askOn _ _)
    exact Nat.le_trans hm (Eq.mp (congrArg (fun x=>SD _ x) h2) (sd_look p m.gs m.rest _))
   ·exact sd_le hm (sd_look p m.gs m.rest _)
  ·rename_i h
   have hm:=run_ok h
   refine md_le hm ?_
   exact md_askOn p _
 ·exact md_askOn _ _
theorem md_move (p:Program) (m:Machine):MD m.world.drawn (move p m):=by
 unfold move
 split
 ·split
  ·exact Nat.le_refl _
  ·trivial
 ·split
  ·split
   ·exact Nat.le_refl _
   ·exact md_ask p _
  ·exact md_ask _ _
theorem sd_step (p:Program) (m:Machine):SD m.world.drawn (step p m):=by
 unfold step stepT
 have h:=md_move p m
 split
 ·rename_i e
  rw[e] at h
  exact sd_le h (sd_runT _ _ _ _)
 ·rename_i e
  rw[e] at h
  exact h
theorem sd_runN (p:Program):∀ (n:Nat) (m:Machine),SD m.world.drawn (Go.runN p n m)
 | 0,m=>Nat.le_refl _
 | n+1,m=>by
   unfold Go.runN
   have h:=sd_step p m
   split
   ·rename_i e
    rw[e] at h
    exact sd_le h (sd_runN p n _)
   ·rename_i e
    exact h
theorem steps_drawn {P:Program} {m m':Machine} (h:Steps P m m'):m.world.drawn<=m'.world.drawn:=by
 obtain⟨n,h⟩:=h
 have:=sd_runN P n m
 rw[h] at this
 exact this
theorem calls_drawn {P:Program} {f:FuncId} {args:Array Value} {w:World} {R:Ending->World->Prop} (h:Calls P f args w R) (hr:∀ e w',R e w'->∃ v,e=.returned v):Calls P f args w fun e w'=>R e w'∧w.drawn<=w'.drawn:=by
 intro cs
 obtain⟨e,w',fr,h1,h2,h3,h4⟩:=h cs
 obtain⟨v,rfl⟩:=hr e w' h1
 exact⟨_,w',fr,⟨h1,steps_drawn h2⟩,h2,h3,h4⟩
end Go.Proofs.YtmpccllnpcbgcaaGreatDoor.Mono
namespace Go.Proofs.YtmpccllnpcbgcaaGreatDoor
open Go Go.RowKit
theorem Ext.asGrown {w w':World} (h:Ext w w') (hd:w.drawn<=w'.drawn):∃ q os,w'=Sort.grow (w.drewN q) os:=by
 refine⟨w'.drawn - w.drawn,w'.heap.extract w.heap.size,?_⟩
 obtain⟨h1,t1,d1,o1,u1⟩:=w
 obtain⟨h2,t2,d2,o2,u2⟩:=w'
 obtain⟨e1,e2,e3,hs,hb⟩:=h
 dsimp only at e1 e2 e3 hs hb hd
 subst e1 e2 e3
 have eh:h2=h1++h2.extract h1.size:=by
  refine Array.ext_getElem? fun i=>?_
  rw[Array.getElem?_append]
  split
  ·rename_i hi;exact hb i hi
  ·rename_i hi
   rw[Array.getElem?_extract]
   by_cases hi2:i < h2.size
   ·rw[if_pos (by omega),show h1.size+(i - h1.size)=i by omega]
   ·rw[if_neg (by omega),Array.getElem?_eq_none (by omega)]
 have ed:d2=d1+(d2 - d1):=by omega
 show World.mk h2 _ d2 _ _=World.mk (h1++h2.extract h1.size) _ (d1+(d2 - d1)) _ _
 rw[World.mk.injEq]
 exact⟨eh,rfl,ed,rfl,rfl⟩
theorem calls_grown {P:Program} {f:FuncId} {args:Array Value} {w:World} {v:Value} (h:Calls P f args w fun e w'=>e=.returned v∧Ext w w') :
 Calls P f args w fun e w'=>e=.returned v∧∃ q os,w'=Sort.grow (w.drewN q) os :=
 (Mono.calls_drawn h fun _ _ h=>⟨v,h.1⟩).mono fun _ _ h=>⟨h.1.1,h.1.2.asGrown h.2⟩
end Go.Proofs.YtmpccllnpcbgcaaGreatDoor
