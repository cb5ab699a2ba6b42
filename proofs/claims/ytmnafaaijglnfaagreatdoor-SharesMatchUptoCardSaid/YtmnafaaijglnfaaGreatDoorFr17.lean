/- Contract of the program's reading of conditions, all levels. -/
import Derived.Test.YtmnafaaijglnfaaGreatDoorFr16
namespace Go.Proofs.YtmnafaaijglnfaaGreatDoor
open Go.RowKit
theorem cond_all (g:Nat) (s:ByteArray) (hs:s.size<=2097152):∀ (n lev:Nat),lev+n=100->∀ (σ:St) (w:World),Rd w g s σ->OkS s σ ->
 Calls Tryz.prog 99 #[.pointer (some ⟨g,0,none⟩),.int .i64 lev] w (CdPost g s w (condF s n σ))
 | 0,lev,hl,σ,w,h,ho=>by
   obtain rfl:lev=100:=by omega
   exact cond_step g s hs 100 none (Nat.le_refl _) (fun _=>rfl) (fun f e=>by cases e) (fun τ W hr _=>list_none g s τ W hr) (fun f e=>by cases e) σ w h ho
 | n+1,lev,hl,σ,w,h,ho=>by
   have ih:=cond_all g s hs n (lev+1) (by omega)
   exact cond_step g s hs lev (some (condF s n)) (by omega) (fun e=>by cases e) (fun f _=>by omega)
    (fun τ W hr hok=>list_some g s hs lev (by omega) n ih τ W hr hok) (fun f e=>by cases e;exact ih) σ w h ho
end Go.Proofs.YtmnafaaijglnfaaGreatDoor
