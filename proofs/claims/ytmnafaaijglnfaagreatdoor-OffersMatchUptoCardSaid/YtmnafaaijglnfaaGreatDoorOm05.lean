/- The condition reader of the program: 'advance'. -/
import Derived.Test.YtmnafaaijglnfaaGreatDoorOm04
namespace Go.Proofs.YtmnafaaijglnfaaGreatDoor
open Go.RowKit
def runN (f:UInt8->Bool):Str->Nat
 | []=>0
 | c::l=>if f c=true then runN f l+1 else 0
theorem runN_le (f:UInt8->Bool):∀ l,runN f l<=l.length
 | []=>Nat.le_refl _
 | c::l=>by
   rw[runN]
   split
   ·have:=runN_le f l;simpa using this
   ·exact Nat.zero_le _
theorem runN_yes (f:UInt8->Bool) (s:ByteArray) {k:Nat} (h:k < s.size) (hf:f s[k]=true):k+runN f ((bs s).drop k)=k+1+runN f ((bs s).drop (k+1)):=by
 rw[drop_cons s k h,runN,if_pos hf];omega
theorem runN_no (f:UInt8->Bool) (s:ByteArray) {k:Nat} (h:k < s.size) (hf:f s[k]=false):k+runN f ((bs s).drop k)=k:=by
 rw[drop_cons s k h,runN,if_neg (by rw[hf];decide)];omega
theorem runN_out (f:UInt8->Bool) (s:ByteArray) {k:Nat} (h:s.size<=k):k+runN f ((bs s).drop k)=k:=by
 rw[List.drop_of_length_le (by rw[bs_length];exact h)];rfl
theorem run_le (f:UInt8->Bool) (s:ByteArray) {k:Nat} (h:k<=s.size):k+runN f ((bs s).drop k)<=s.size:=by
 have:=runN_le f ((bs s).drop k)
 rw[List.length_drop,bs_length] at this
 omega
def signB (c:UInt8):Bool:=c==40||c==41||c==61
def tokB (c:UInt8):Bool:=!blankB c&&!signB c&&!(c==34)
def tokF (s:ByteArray) (σ:St) (i:Nat):St :=
 if h:i < s.size then
  if signB s[i]=true then { σ with p:=i+1,k:=3,a:=i,t:=⟨#[s[i]]⟩ }
  else if s[i]=34 then
   if (qat (bs s) i).2.2=true then { σ with p:=(qat (bs s) i).2.1,k:=2,a:=i,t:=⟨(qat (bs s) i).1.toArray⟩ } else { σ with p:=i,k:=4,a:=i,t:=⟨#[]⟩ }
  else { σ with p:=i+runN tokB ((bs s).drop i),k:=1,a:=i,t:=s.extract i (i+runN tokB ((bs s).drop i)) }
 else { σ with p:=i,k:=0,a:=i,t:=⟨#[]⟩ }
def advF (s:ByteArray) (σ:St):St:=tokF s σ (σ.p+runN blankB ((bs s).drop σ.p))
end Go.Proofs.YtmnafaaijglnfaaGreatDoor
