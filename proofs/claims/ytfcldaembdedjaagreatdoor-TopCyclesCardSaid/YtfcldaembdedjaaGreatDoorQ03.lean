/-
  Parts of the proof of TopCycles: BodyP, AllP, BodyQ, Ref09n, SlotG, Slot, ExC, Law09a, Own, Law09g, Ref09o, PopP, BitsP, ArenaP, GreyP, CapaP, Row, Bits, Made, Bits2, Bits3, Next, NextP, Next2.
-/
import Derived.Test.YtfcldaembdedjaaGreatDoorQ02
import Derived.Deep.RegionHeld
import Derived.RegionTactic
import Derived.BigRegion
import Derived.Laws.Bits128
import Derived.Lib.TrailingZeros
import Derived.RangeFuncNested
import Derived.RangeFuncBound
import Derived.RangeFuncCalls
import Derived.RangeFuncLeaves
import Derived.Shelf.RegionOpen
import Derived.OwnWalkIn
import Derived.TacticsInMore
import Derived.LoopNIn
import Derived.LoopIn
import Derived.Stop.RegionWithIn
set_option linter.unusedVariables false
set_option linter.unusedSimpArgs false
set_option maxRecDepth 100000
set_option maxHeartbeats 16000000
namespace Go.Proofs.YtfcldaembdedjaaGreatDoor
open Go.RowKit Tryz
section
def WOk(ws:List Int):Prop:=∀i,0≤nth ws i∧nth ws i<18446744073709551616
theorem WOk.set{ws:List Int}(h:WOk ws)(i:Nat){x:Int}(hx:0≤x∧x<18446744073709551616):WOk (ws.set i x):=by
 intro j;by_cases hi:i<ws.length
 ·rw[Dj hi];split
  ·exact hx
  ·exact h j
 ·rw[List.set_eq_of_length_le (by omega)];exact h j
theorem WOk.zero{ws:List Int}(h:WOk ws){a n:Nat}(hl:a+n≤ws.length):WOk (Sg ws a n):=by
 intro j;rw[Nt hl];split
 ·omega
 ·exact h j
theorem WOk.rep(n:Nat):WOk (List.replicate n 0):=by
 intro j;by_cases h:j<n
 ·simp[nth,List.getD,h]
 ·simp[nth,List.getD,h]
variable{c:Zh}{t:Nat}{ws ws':List Int}{s:Int}
def bIn(c:Zh)(t:Nat)(s:Int):Prop:=0≤s∧s<(nS c t:Int)
instance(c:Zh)(t:Nat)(s:Int):Decidable (bIn c t s):=by unfold bIn;infer_instance
def bSz(c:Zh)(t:Nat)(s:Int):Int:=nth c.cl (kOf c t s)
def bAd(c:Zh)(t:Nat)(s:Int):Int:=On c t s (kOf c t s)
def bAt(c:Zh)(t:Nat)(s:Int)(i:Nat):Nat:=Yw c t+((bAd c t s).toNat+i)
def bwd(c:Zh)(t:Nat)(ws:List Int)(s:Int)(i:Nat):Int:=nth ws (bAt c t s i)
def Lg(c:Zh)(t:Nat)(s:Int)(h:Hd):Prop:=Rt h∧h.c=(kOf c t s:Int)∧h.r+h.w+1≤bSz c t s
instance(c:Zh)(t:Nat)(s:Int)(h:Hd):Decidable (Lg c t s h):=by unfold Lg;infer_instance
def Zz(c:Zh)(t:Nat)(ws:List Int)(s:Int):Hd × Int:=
 if bIn c t s then (if Zjx (bwd c t ws s 0)∧Lg c t s (Mz (bwd c t ws s 0)) then (Mz (bwd c t ws s 0),0) else (Sw,5)) else (Sw,2)
def Uu(c:Zh)(t:Nat)(ws:List Int)(s:Int):List Int × Int:=
 if bIn c t s then (Sg ws (bAt c t s 0) (bSz c t s).toNat,0) else (ws,2)
def Ug(c:Zh)(t:Nat)(ws:List Int)(s:Int)(h:Hd):List Int × Int:=
 if bIn c t s∧Lg c t s h then (if (Zz c t ws s).2=0 then (ws,8) else ((Sg ws (bAt c t s 0) (bSz c t s).toNat).set (bAt c t s 0) (Uq h),0)) else (ws,2)
def Wq(c:Zh)(t:Nat)(ws:List Int)(s i:Int)(ref:Bool):Int:=
 if (Zz c t ws s).2=0 then (if U5 (Zz c t ws s).1 i=(ref,0) then 0 else 110) else (Zz c t ws s).2
def Ra(c:Zh)(t:Nat)(ws:List Int)(s i:Int)(ref:Bool):Int × Int:=
 if Wq c t ws s i ref=0 then (bwd c t ws s (1+i.toNat),0) else (0,Wq c t ws s i ref)
def Wk(c:Zh)(t:Nat)(ws:List Int)(s i:Int)(ref:Bool)(x:Int):List Int × Int:=
 if Wq c t ws s i ref=0 then (ws.set (bAt c t s (1+i.toNat)) x,0) else (ws,Wq c t ws s i ref)
def U2(c:Zh)(t:Nat)(ws:List Int)(s i:Int):Int × Int:=
 if (Ra c t ws s i true).2=0 then (if (nS c t:Int)<(Ra c t ws s i true).1 then (0,5) else ((Ra c t ws s i true).1-1,0)) else (0,(Ra c t ws s i true).2)
def Ry(c:Zh)(t:Nat)(ws:List Int)(s i to:Int):List Int × Int:=
 if bIn c t s∧-1≤to∧to<(nS c t:Int) then Wk c t ws s i true (to+1) else (ws,2)
def Zhh(c:Zh)(t:Nat)(ws:List Int)(s i:Int):Int × Int:=Ra c t ws s i false
def Jf(c:Zh)(t:Nat)(ws:List Int)(s i x:Int):List Int × Int:=Wk c t ws s i false x
structure Ia(c:Zh)(t:Nat)(s:Int)(k:Nat):Prop where
 at_:Yk c t s k
 kof:kOf c t s=k
 a0:0≤bAd c t s
 s2:2≤bSz c t s
 s64:bSz c t s≤64
 fit:bAd c t s+bSz c t s≤(Z0 c t:Int)
theorem Tv(ho:KOk c)(ht:t<c.ts.length):(Z0 c t:Int)=sG c t c.cl.length*c.page:=by
 rw[ho.wordsN_eq ht];exact Di t _
theorem Xt(ho:KOk c)(ht:t<c.ts.length)(h:bIn c t s):Ia c t s (kOf c t s):=by
 have hn:=ho.nS_eq ht;obtain⟨k,hk⟩:=Qv (c:=c) (t:=t) (s:=s) h.1 (by have:=h.2;omega);have e:=hk.kOf ho ht;have bd:=ho.bounds ht hk.lt;have w:=Aw ho ht hk;have wp:=Tv ho ht;rw[←e] at hk;refine⟨hk,rfl,?_,?_,?_,?_⟩
 ·unfold bAd;rw[e];exact w.1
 ·unfold bSz;rw[e];exact bd.c2
 ·unfold bSz;rw[e];exact bd.c64
 ·unfold bAd bSz;rw[e,wp];exact w.2
theorem Zko(ho:KOk c)(ht:t<c.ts.length)(h:¬bIn c t s):s<0∨sS c t c.cl.length≤s:=by
 have hn:=ho.nS_eq ht;unfold bIn at h;omega
theorem Ia.at_lt{k:Nat}(h:Ia c t s k)(ho:KOk c)(ht:t<c.ts.length)(hl:ws.length=Zo c){i:Nat}(hi:(i:Int)<bSz c t s):bAt c t s i<ws.length:=by
 have:=ho.region_in ht;have:=h.fit;have:=h.a0;unfold bAt;omega
theorem Ia.load{k:Nat}(h:Ia c t s k)(ht:t<c.ts.length){i:Nat}(hi:(i:Int)<bSz c t s):Zc1 c ws t (bAd c t s+i)=(bwd c t ws s i,0):=by
 have f:=h.fit;have a:=h.a0;obtain⟨A,hA⟩:∃A:Nat,bAd c t s=A:=⟨(bAd c t s).toNat,by omega⟩;have e:Xo c t (bAd c t s+i) 1=0:=by
  rw[hA];exact Le (c:=c) (i:=t) (j:=A+i) (m:=1) ht (by omega)
 unfold Zc1;rw[if_pos e];unfold bwd bAt;rw[hA];rw[show(t:Int).toNat=t from rfl,show((A:Int)+i).toNat=A+i by omega,show((A:Int)).toNat=A by omega]
theorem Ia.store{k:Nat}(h:Ia c t s k)(ht:t<c.ts.length){i:Nat}(hi:(i:Int)<bSz c t s)(x:Int):Ke c ws t (bAd c t s+i) x=(ws.set (bAt c t s i) x,0):=by
 have f:=h.fit;have a:=h.a0;obtain⟨A,hA⟩:∃A:Nat,bAd c t s=A:=⟨(bAd c t s).toNat,by omega⟩;have e:Xo c t (bAd c t s+i) 1=0:=by
  rw[hA];exact Le (c:=c) (i:=t) (j:=A+i) (m:=1) ht (by omega)
 unfold Ke;rw[if_pos e];unfold bAt;rw[hA];rw[show(t:Int).toNat=t from rfl,show((A:Int)+i).toNat=A+i by omega,show((A:Int)).toNat=A by omega]
theorem Ia.zero{k:Nat}(h:Ia c t s k)(ht:t<c.ts.length):Zg6 c ws t (bAd c t s) (bSz c t s)=(Sg ws (bAt c t s 0) (bSz c t s).toNat,0):=by
 have f:=h.fit;have a:=h.a0;have s2:=h.s2;obtain⟨A,hA⟩:∃A:Nat,bAd c t s=A:=⟨(bAd c t s).toNat,by omega⟩;obtain⟨S,hS⟩:∃S:Nat,bSz c t s=S:=⟨(bSz c t s).toNat,by omega⟩;have e:Xo c t (bAd c t s) (bSz c t s)=0:=by
  rw[hA,hS];exact Le (c:=c) (i:=t) (j:=A) (m:=S) ht (by omega)
 unfold Zg6;rw[if_pos e];unfold bAt;rw[show(t:Int).toNat=t from rfl,Nat.add_zero]
theorem Ia.is64{k:Nat}(h:Ia c t s k)(ho:KOk c)(ht:t<c.ts.length):-9223372036854775808≤bAd c t s∧bAd c t s+100≤9223372036854775807:=by
 have f:=h.fit;have a:=h.a0;have:=h.s2;have r:=ho.region_in ht;have:=ho.total_le;omega
theorem Ax(h:¬bIn c t s):Zz c t ws s=(Sw,2):=by unfold Zz;rw[if_neg h]
theorem Yd(h:(Zz c t ws s).2=0):bIn c t s∧Zjx (bwd c t ws s 0)∧Lg c t s (Zz c t ws s).1∧(Zz c t ws s).1=Mz (bwd c t ws s 0):=by
 unfold Zz at h ⊢;split at h
 ·rename_i h1;split at h
  ·rename_i h2;rw[if_pos h1,if_pos h2];exact⟨h1,h2.1,h2.2,rfl⟩
  ·exact absurd h (by simp)
 ·exact absurd h (by simp)
theorem Zkp:(Zz c t ws s).2=0∨Zz c t ws s=(Sw,5)∨Zz c t ws s=(Sw,2):=by
 unfold Zz;split
 ·split
  ·exact .inl rfl
  ·exact .inr (.inl rfl)
 ·exact .inr (.inr rfl)
theorem Uh{h:Hd}{i:Int}{r:Bool}(hf:U5 h i=(r,0)):Rt h∧0≤i∧i<h.r+h.w∧r=decide (i<h.r):=by
 unfold U5 at hf;split at hf
 ·rename_i h1;split at hf
  ·simp at hf
  ·rename_i h2;simp at hf;exact⟨h1,by omega,by omega,by rw[←hf]⟩
 ·simp at hf
theorem Qz{i:Int}{r:Bool}(h:Wq c t ws s i r=0):(Zz c t ws s).2=0∧U5 (Zz c t ws s).1 i=(r,0):=by
 unfold Wq at h;split at h
 ·rename_i h1;split at h
  ·rename_i h2;exact⟨h1,h2⟩
  ·exact absurd h (by decide)
 ·rename_i h1;exact absurd h h1
theorem Ws{i:Int}{r:Bool}(h:Wq c t ws s i r=0):bIn c t s∧∃j:Nat,i=j∧(1:Int)+j<bSz c t s:=by
 obtain⟨h1,h2⟩:=Qz h;obtain⟨i1,i2,i3,i4⟩:=Yd h1;obtain⟨f1,f2,f3,f4⟩:=Uh h2;have:=i3.2.2;exact⟨i1,i.toNat,by omega,by omega⟩
theorem Ib:(ws.length=Zo c)→KOk c→t<c.ts.length→(Uu c t ws s).1.length=Zo c:=by
 intro hl ho ht;unfold Uu;split
 ·rename_i h;have sb:=Xt ho ht h;have f:=sb.fit;have a:=sb.a0;have s2:=sb.s2;have r:=ho.region_in ht;rw[Ns (by unfold bAt;omega)];exact hl
 ·exact hl
theorem Zhi{i x:Int}{r:Bool}:(Wk c t ws s i r x).1.length=ws.length:=by
 unfold Wk;split
 ·exact List.length_set
 ·rfl
theorem Ay{i x:Int}{r:Bool}(h:WOk ws)(hx:0≤x∧x<18446744073709551616):WOk (Wk c t ws s i r x).1:=by
 unfold Wk;split
 ·exact h.set _ hx
 ·exact h
theorem Jg(h:WOk ws)(hl:ws.length=Zo c)(ho:KOk c)(ht:t<c.ts.length):WOk (Uu c t ws s).1:=by
 unfold Uu;split
 ·rename_i h1;have sb:=Xt ho ht h1;have f:=sb.fit;have a:=sb.a0;have s2:=sb.s2;have r:=ho.region_in ht;exact h.zero (by unfold bAt;omega)
 ·exact h
end
section
def U3(F:Nat→Int × Int):Nat→List Int × Int
 | 0=>([],0)
 | n+1=>if (U3 F n).2=0 then (if (F n).2=0 then ((U3 F n).1++[(F n).1],0) else ([],(F n).2)) else ([],(U3 F n).2)
variable{F G:Nat→Int × Int}{n m:Nat}{ys:List Int}{v q:Int}
theorem Az(h:U3 F n=(ys,0))(hv:F n=(v,0)):U3 F (n+1)=(ys++[v],0):=by
 show(if (U3 F n).2=0 then (if (F n).2=0 then ((U3 F n).1++[(F n).1],0) else ([],(F n).2)) else ([],(U3 F n).2))=_
 rw[h,hv];simp
theorem Zhj(h:U3 F n=(ys,0))(hv:F n=(v,q))(hq:q≠0):U3 F (n+1)=([],q):=by
 show(if (U3 F n).2=0 then (if (F n).2=0 then ((U3 F n).1++[(F n).1],0) else ([],(F n).2)) else ([],(U3 F n).2))=_
 rw[h,hv];simp[hq]
theorem A7(h:U3 F n=([],q))(hq:q≠0):∀d,U3 F (n+d)=([],q)
 | 0=>h
 | d+1=>by
  show(if (U3 F (n+d)).2=0 then (if (F (n+d)).2=0 then ((U3 F (n+d)).1++[(F (n+d)).1],0) else ([],(F (n+d)).2)) else ([],(U3 F (n+d)).2))=_
  rw[A7 h hq d];simp[hq]
theorem Zaa(h:U3 F n=(ys,0))(hv:F n=(v,q))(hq:q≠0)(hm:n<m):U3 F m=([],q):=by
 have:=A7 (Zhj h hv hq) hq (m-(n+1))
 rwa [show n+1+(m-(n+1))=m by omega] at this
theorem Du:∀n,(U3 F n).2=0→(U3 F n).1.length=n
 | 0,_=>rfl
 | n+1,h=>by
  have e:U3 F (n+1)=(if (U3 F n).2=0 then (if (F n).2=0 then ((U3 F n).1++[(F n).1],0) else ([],(F n).2)) else ([],(U3 F n).2)):=rfl;by_cases h1:(U3 F n).2=0
  ·by_cases h2:(F n).2=0
   ·rw[e,if_pos h1,if_pos h2];simp[Du n h1]
   ·rw[e,if_pos h1,if_neg h2] at h;exact absurd h h2
  ·rw[e,if_neg h1] at h;exact absurd h h1
theorem Zfj:∀n,(U3 F n).2=0→∀j,j<n→F j=(nth (U3 F n).1 j,0)
 | 0,_,j,hj=>absurd hj (Zzb _)
 | n+1,h,j,hj=>by
  have e:U3 F (n+1)=(if (U3 F n).2=0 then (if (F n).2=0 then ((U3 F n).1++[(F n).1],0) else ([],(F n).2)) else ([],(U3 F n).2)):=rfl;by_cases h1:(U3 F n).2=0
  ·by_cases h2:(F n).2=0
   ·have l:=Du n h1;rw[e,if_pos h1,if_pos h2];by_cases hj2:j=n
    ·subst hj2;have:nth ((U3 F j).1++[(F j).1]) j=(F j).1:=by
      unfold nth;simp[List.getD,l]
     rw[this,←h2]
    ·have hlt:j<n:=by omega
     rw[Zfj n h1 j hlt];have:nth ((U3 F n).1++[(F n).1]) j=nth (U3 F n).1 j:=by
      unfold nth;simp[List.getD,List.getElem?_append,l,hlt]
     rw[this]
   ·rw[e,if_pos h1,if_neg h2] at h;exact absurd h h2
  ·rw[e,if_neg h1] at h;exact absurd h h1
theorem Zfk:∀n,(∀j,j<n→(F j).2=0)→(U3 F n).2=0
 | 0,_=>rfl
 | n+1,h=>by
  have h1:=Zfk n fun j hj=>h j (by omega)
  show(if (U3 F n).2=0 then (if (F n).2=0 then ((U3 F n).1++[(F n).1],0) else ([],(F n).2)) else ([],(U3 F n).2)).2=0
  rw[if_pos h1,if_pos (h n (by omega))]
variable{c:Zh}{t:Nat}{ws:List Int}{s:Int}
def Zab(c:Zh)(t:Nat)(ws:List Int)(s:Int):List Int × Int:=
 if (Zz c t ws s).2=0 then U3 (fun j=>U2 c t ws s j) (Zz c t ws s).1.r.toNat else ([],(Zz c t ws s).2)
def Zkq(c:Zh)(t:Nat)(ws:List Int)(s:Int):List Int × Int:=
 if (Zz c t ws s).2=0 then U3 (fun j=>Zhh c t ws s ((Zz c t ws s).1.r+j)) (Zz c t ws s).1.w.toNat else ([],(Zz c t ws s).2)
end
section
variable{c:Zh}{t:Nat}{ws ws':List Int}{s s':Int}
theorem Zs6(ho:KOk c)(ht:t<c.ts.length)(h:bIn c t s)(h':bIn c t s')(hne:s≠s'){i j:Nat}(hi:(i:Int)<bSz c t s)(hj:(j:Int)<bSz c t s'):bAt c t s i≠bAt c t s' j:=by
 have sb:=Xt ho ht h;have sb':=Xt ho ht h';have a:=sb.a0;have a':=sb'.a0;unfold bAt;rcases Int.lt_or_gt_of_ne hne with q|q
 ·have e1:bAd c t s+bSz c t s≤bAd c t s':=J9 ho ht sb.at_ sb'.at_ q;omega
 ·have e1:bAd c t s'+bSz c t s'≤bAd c t s:=J9 ho ht sb'.at_ sb.at_ q;omega
theorem Ic(ho:KOk c)(ht:t<c.ts.length)(hl:ws.length=Zo c)(h:bIn c t s)(h':bIn c t s'){i j:Nat}(hi:(i:Int)<bSz c t s)(hj:(j:Int)<bSz c t s')(x:Int) :
  bwd c t (ws.set (bAt c t s i) x) s' j=if s'=s∧j=i then x else bwd c t ws s' j:=by
 unfold bwd;rw[Dj ((Xt ho ht h).at_lt ho ht hl hi)];by_cases e:s'=s
 ·subst e;by_cases e2:j=i
  ·rw[if_pos (by rw[e2]),if_pos ⟨rfl,e2⟩]
  ·rw[if_neg (by unfold bAt;omega),if_neg (by omega)]
 ·rw[if_neg (Zs6 ho ht h' h e hj hi),if_neg (by omega)]
theorem Dv(ho:KOk c)(ht:t<c.ts.length)(hl:ws.length=Zo c)(h:bIn c t s):bAt c t s 0+(bSz c t s).toNat≤ws.length:=by
 have sb:=Xt ho ht h;have f:=sb.fit;have a:=sb.a0;have s2:=sb.s2;have r:=ho.region_in ht;unfold bAt;omega
theorem Ti(ho:KOk c)(ht:t<c.ts.length)(hl:ws.length=Zo c)(h:bIn c t s)(h':bIn c t s'){j:Nat}(hj:(j:Int)<bSz c t s') :
  bwd c t (Sg ws (bAt c t s 0) (bSz c t s).toNat) s' j=if s'=s then 0 else bwd c t ws s' j:=by
 have s2:=(Xt ho ht h).s2;unfold bwd;rw[Nt (Dv ho ht hl h)];by_cases e:s'=s
 ·subst e;rw[if_pos rfl,if_pos (by unfold bAt;omega)]
 ·rw[if_neg e,if_neg];intro q;have sb:=Xt ho ht h;have n:=Zs6 ho ht h' h e (i:=j) (j:=bAt c t s' j-bAt c t s 0) hj (by omega);have:bAt c t s (bAt c t s' j-bAt c t s 0)=bAt c t s 0+(bAt c t s' j-bAt c t s 0):=by unfold bAt;omega
  omega
theorem Xj(h:bwd c t ws' s 0=bwd c t ws s 0):Zz c t ws' s=Zz c t ws s:=by unfold Zz;rw[h]
theorem Q3:¬Zjx 0:=by unfold Zjx;intro h;have:=h.2.1;omega
def Q7(c:Zh)(t:Nat)(ws:List Int):Prop:=∀s,(Zz c t ws s).2=0→∀j:Nat,(j:Int)<(Zz c t ws s).1.r→bwd c t ws s (1+j)≤(nS c t:Int)
theorem Zkr(c:Zh)(t n:Nat):Q7 c t (List.replicate n 0):=by
 intro s hs;have h:=(Yd hs).2.1;have e:bwd c t (List.replicate n 0) s 0=0:=by
  unfold bwd nth;by_cases q:bAt c t s 0<n
  ·simp[List.getD,q]
  ·simp[List.getD,q]
 rw[e] at h;exact absurd h Q3
theorem Q7.store(ho:KOk c)(ht:t<c.ts.length)(hl:ws.length=Zo c)(h:Q7 c t ws){i x:Int}{ref:Bool}(hx:ref=true→x≤(nS c t:Int)):Q7 c t (Wk c t ws s i ref x).1:=by
 unfold Wk;split
 ·rename_i hf;obtain⟨hin,j,rfl,hj⟩:=Ws hf;obtain⟨q1,q2⟩:=Qz hf;obtain⟨f1,f2,f3,f4⟩:=Uh q2;rw[Zy4];intro s' hs' m hm;have in':=(Yd hs').1;have s2:=(Xt ho ht in').s2;have e0:bwd c t (ws.set (bAt c t s (1+j)) x) s' 0=bwd c t ws s' 0:=by
   rw[Ic ho ht hl hin in' (by omega) (by omega),if_neg (by omega)]
  have eh:=Xj e0;simp only[eh] at hs' hm;have li:=(Yd hs').2.2.1.2.2;have lw:=(Yd hs').2.2.1.1.2.2.1;rw[Ic ho ht hl hin in' (by omega) (by omega)];split
  ·rename_i q;obtain⟨rfl,q⟩:=q;have:m=j:=by omega
   subst this;exact hx (by rw[f4];simpa using hm)
  ·exact h s' hs' m hm
 ·exact h
theorem Q7.wipe(ho:KOk c)(ht:t<c.ts.length)(hl:ws.length=Zo c)(h:Q7 c t ws):Q7 c t (Uu c t ws s).1:=by
 unfold Uu;split
 ·rename_i hin;intro s' hs' m hm;have in':=(Yd hs').1;have s2:=(Xt ho ht in').s2;by_cases e:s'=s
  ·subst e;have q:=(Yd hs').2.1;rw[Ti ho ht hl hin in' (by omega),if_pos rfl] at q;exact absurd q Q3
  ·have eh:=Xj (c:=c) (t:=t) (ws:=ws) (s:=s') (ws':=Sg ws (bAt c t s 0) (bSz c t s).toNat) (by rw[Ti ho ht hl hin in' (by omega),if_neg e]);simp only[eh] at hs' hm;have li:=(Yd hs').2.2.1.2.2;have lw:=(Yd hs').2.2.1.1.2.2.1;rw[Ti ho ht hl hin in' (by omega),if_neg e];exact h s' hs' m hm
 ·exact h
theorem Lh(ho:KOk c)(ht:t<c.ts.length)(hl:ws.length=Zo c){h:Hd}(hin:bIn c t s)(in':bIn c t s'){j:Nat}(hj:(j:Int)<bSz c t s') :
  bwd c t ((Sg ws (bAt c t s 0) (bSz c t s).toNat).set (bAt c t s 0) (Uq h)) s' j=if s'=s then (if j=0 then Uq h else 0) else bwd c t ws s' j:=by
 have s2:=(Xt ho ht hin).s2;rw[Ic ho ht (by rw[Ns (Dv ho ht hl hin)];exact hl) hin in' (by omega) hj,Ti ho ht hl hin in' hj];by_cases e:s'=s
 ·rw[if_pos e,if_pos e];by_cases e2:j=0
  ·rw[if_pos ⟨e,e2⟩,if_pos e2]
  ·rw[if_neg (by omega),if_neg e2]
 ·rw[if_neg (by omega),if_neg e,if_neg e]
theorem Q7.make(ho:KOk c)(ht:t<c.ts.length)(hl:ws.length=Zo c){hd:Hd}(h:Q7 c t ws):Q7 c t (Ug c t ws s hd).1:=by
 unfold Ug;split
 ·rename_i hin;obtain⟨hin,hli⟩:=hin;split
  ·exact h
  ·intro s' hs' m hm;have in':=(Yd hs').1;have s2:=(Xt ho ht in').s2;have li:=(Yd hs').2.2.1.2.2;have lw:=(Yd hs').2.2.1.1.2.2.1;by_cases e:s'=s
   ·subst e;show bwd c t _ s' (1+m)≤_
    rw[Lh ho ht hl hin in' (by simp only at li lw hm ⊢;omega),if_pos rfl,if_neg (by omega)];omega
   ·have eh:=Xj (c:=c) (t:=t) (ws:=ws) (s:=s') (ws':=(Sg ws (bAt c t s 0) (bSz c t s).toNat).set (bAt c t s 0) (Uq hd)) (by rw[Lh ho ht hl hin in' (by omega),if_neg e]);simp only[eh] at hs' hm li lw;show bwd c t _ s' (1+m)≤_
    rw[Lh ho ht hl hin in' (by omega),if_neg e];exact h s' hs' m hm
 ·exact h
variable{hd:Hd}
theorem Zac(hh:Zz c t ws s=(hd,0)):bIn c t s∧Rt hd∧hd.r+hd.w+1≤bSz c t s:=by
 have k:=Yd (c:=c) (t:=t) (ws:=ws) (s:=s) (by rw[hh]);rw[hh] at k;exact⟨k.1,k.2.2.1.1,k.2.2.1.2.2⟩
theorem Zad(hh:Zz c t ws s=(hd,0))(i:Int)(ref:Bool):Wq c t ws s i ref=if (0≤i∧i<hd.r+hd.w∧ref=decide (i<hd.r)) then 0 else 110:=by
 have k:=(Zac hh).2.1;unfold Wq;rw[hh,if_pos rfl];unfold U5;rw[if_pos k];by_cases h1:i<0∨hd.r+hd.w≤i
 ·rw[if_pos h1,if_neg (by simp),if_neg (by omega)]
 ·rw[if_neg h1];by_cases h2:ref=decide (i<hd.r)
  ·rw[if_pos (by rw[h2]),if_pos ⟨by omega,by omega,h2⟩]
  ·rw[if_neg (by intro q;exact h2 (congrArg Prod.fst q).symm),if_neg (by rintro ⟨_,_,q⟩;exact h2 q)]
theorem Zpi(hh:Zz c t ws s=(hd,0)){j:Nat}{ref:Bool}(hj:(j:Int)<hd.r+hd.w)(hr:ref=decide ((j:Int)<hd.r)):Ra c t ws s j ref=(bwd c t ws s (1+j),0):=by
 unfold Ra;rw[if_pos (by rw[Zad hh,if_pos ⟨by omega,hj,hr⟩]),Zy4]
theorem Zpj(hh:Zz c t ws s=(hd,0)){i:Int}{ref:Bool}(h:¬(0≤i∧i<hd.r+hd.w∧ref=decide (i<hd.r))):Ra c t ws s i ref=(0,110):=by
 have e:Wq c t ws s i ref=110:=by rw[Zad hh,if_neg h]
 unfold Ra;rw[e];rfl
theorem Zks(hh:Zz c t ws s=(hd,0))(hr:Q7 c t ws){j:Nat}(hj:(j:Int)<hd.r):U2 c t ws s j=(bwd c t ws s (1+j)-1,0):=by
 have k:=(Zac hh).2.1;have w0:=k.2.2.1;have q:=hr s (by rw[hh]) j (by rw[hh];exact hj);unfold U2;rw[Zpi hh (by omega) (by simp[hj])];simp only[if_pos];rw[if_neg (by omega)]
theorem Zt0(hh:Zz c t ws s=(hd,0)){i:Int}(h:i<0∨hd.r≤i):U2 c t ws s i=(0,110):=by
 unfold U2;rw[Zpj hh (by
  rintro ⟨h1,h2,h3⟩;have:i<hd.r:=by simpa using h3.symm
  omega)]
 rfl
theorem Zhk(hh:Zz c t ws s=(hd,0))(hr:Q7 c t ws):∃xs,Zab c t ws s=(xs,0)∧xs.length=hd.r.toNat∧∀j:Nat,j<hd.r.toNat→U2 c t ws s j=(nth xs j,0):=by
 have a:=Zfk (F:=fun j=>U2 c t ws s j) hd.r.toNat fun j hj=>by show(U2 c t ws s j).2=0;rw[Zks hh hr (by omega)]
 refine⟨(U3 (fun j=>U2 c t ws s j) hd.r.toNat).1,?_,Du _ a,fun j hj=>Zfj _ a j hj⟩;unfold Zab;rw[hh,if_pos rfl];exact Prod.ext rfl a
end
theorem Id:(prog.info? 3).map (fun i=>(i.zero,i.size,i.bytes))=some (some (.int .i64 0),1,8):=by kernel_rfl
section
open Go.RowKit Go.Shelf
attribute [local go_sem] Oper.semAt_some
theorem Zae{b gp:Nat}{c:Zh}{t:Nat}{s:Int}{w:World}(h:Zt w b gp c t)(hk:s<0∨sS c t c.cl.length≤s) :
  Calls prog 382 #[b,.int .i64 s] w fun e w'=>e=.returned (.tuple #[(0:Int),(2:Int)])∧Ext w w':=by
 have H:=Za h;have HK:=Za hk;clear h hk;go_enter func382,ntmps382;go_wp2_with fail;refine(Kh H.out HK.out).ze fun w1 x=>?_;go_wp2;go_ret2;exact⟨rfl,x⟩
theorem Zc6{b gp:Nat}{k:Int}{c:Zh}{t:Nat}{w:World}(h:Zt w b gp c t)(hk:k<0):Calls prog 316 #[b,.int .i64 k] w fun e w'=>e=.returned (.tuple #[(0:Int),(0:Int),(2:Int)])∧Ext w w':=by
 have H:=Za h;have t0:decide (k<0)=true:=by simpa using hk
 clear h hk;go_enter func316,ntmps316;go_wp2_with fail;refine(Wp H.out).zz ?_;go_wp2
 go_ret3
 exact⟨rfl,Zy2 _⟩
end
theorem Li{W:World}{b i j:Nat}{u v:Value}(h:i≠j)(hc:W.cell? ⟨b,j,none⟩=some v):(W.setCell ⟨b,i,none⟩ u).cell? ⟨b,j,none⟩=some v:=by
 have:=Zy0 W ⟨b,i,none⟩ ⟨b,j,none⟩ u (by intro e;cases e;exact h rfl);rw[this];exact hc
structure Q8(w0:World)(c:Zh)(t b k:Nat)(sv:Value)(wr:World):Prop where
 c0:wr.cell? b=some sv
 own:wr.ownsRow (b+1) 128 5 sv k (pcs c t k)
 c1:wr.cell? ⟨b,1,none⟩=some (.int .i64 (sS c t k))
 c2:wr.cell? ⟨b,2,none⟩=some (.int .i64 (sG c t k))
 c3:wr.cell? ⟨b,3,none⟩=some (.int .i64 c.page)
 fz:∀o,wr.frozen? ⟨b,o,none⟩=false
 lo:w0.heap.size≤b
 ext:Ext w0 wr
theorem Q8.go{w0 wr w':World}{c:Zh}{t b k:Nat}{sv:Value}(h:Q8 w0 c t b k sv wr)(hx:Ext wr w'):Q8 w0 c t b k sv w':=
 ⟨hx.cell h.c0,Xe h.own hx,hx.cell h.c1,hx.cell h.c2,hx.cell h.c3,fun o=>by rw[hx.frozen (p:=⟨b,o,none⟩) (show b<wr.heap.size from Zj h.c0)];exact h.fz o,h.lo,h.ext.trans hx⟩
theorem Q8.ne{w0 wr:World}{c:Zh}{t b k:Nat}{sv:Value}(h:Q8 w0 c t b k sv wr):some b≠sv.ownBlock:=fun e=>by
 have:=(h.own.lt b e.symm).1;omega
theorem Q8.ne'{w0 wr:World}{c:Zh}{t b k x:Nat}{sv:Value}(h:Q8 w0 c t b k sv wr)(hx:x<w0.heap.size):some x≠sv.ownBlock:=fun e=>by
 have:=(h.own.lt x e.symm).1;have:=h.lo;omega
theorem Q8.grown{w0 w3 W w4:World}{c:Zh}{t b k:Nat}{sv:Value}(h:Q8 w0 c t b k sv w3)(hx:Ext w3 W)(hg:W.grownBy w4 sv.ownBlock) :
  w4.cell? b=some sv∧w4.cell? ⟨b,1,none⟩=some (.int .i64 (sS c t k))∧w4.cell? ⟨b,2,none⟩=some (.int .i64 (sG c t k))∧w4.cell? ⟨b,3,none⟩=some (.int .i64 c.page)∧(∀o,w4.frozen? ⟨b,o,none⟩=false)∧Ext w0 w4:=by
 have hl:b<w3.heap.size:=Zj h.c0;refine⟨Us hg hx h.c0 h.ne,Us hg hx h.c1 h.ne,Us hg hx h.c2 h.ne,Us hg hx h.c3 h.ne,fun o=>?_,(h.ext.trans hx).grown hg fun k' e=>?_⟩
 ·rw[hg.frozen_far _ (Zy5 hl hx.size) h.ne,hx.frozen (p:=⟨b,o,none⟩) hl];exact h.fz o
 ·have:=(h.own.lt k' e).1;have:=h.lo;omega
theorem Zkt{W:World}{b j:Nat}{u v:Value}(hc:W.cell? ⟨b,j,none⟩=some v):(W.setCell ⟨b,j,none⟩ u).cell? ⟨b,j,none⟩=some u:=Zyz W _ _ hc
theorem Q8.step{w0 w4:World}{c:Zh}{t b k:Nat}{sv V:Value}{S G S' G':Int}(q0:w4.cell? b=some sv)(q1:w4.cell? ⟨b,1,none⟩=some (.int .i64 S))(q2:w4.cell? ⟨b,2,none⟩=some (.int .i64 G))(q3:w4.cell? ⟨b,3,none⟩=some (.int .i64 c.page))
  (qf:∀o,w4.frozen? ⟨b,o,none⟩=false) (h4:Ext w0 w4) (lo:w0.heap.size≤b) (hown:w4.ownsRow (b+1) 128 5 V (k+1) (pcs c t (k+1))) (hS:sS c t (k+1)=S') (hG:sG c t (k+1)=G') :
  Q8 w0 c t b (k+1) V (((w4.setCell b V).setCell ⟨b,1,none⟩ (.int .i64 S')).setCell ⟨b,2,none⟩ (.int .i64 G')):=by
 subst hS hG;exact⟨Li (by decide) (Li (by decide) (Zkt q0)),Va (Va (Va hown (p:=⟨b,0,none⟩) (Nat.lt_succ_self b) _) (p:=⟨b,1,none⟩) (Nat.lt_succ_self b) _) (p:=⟨b,2,none⟩) (Nat.lt_succ_self b) _,Li (by decide) (Zkt (Li (by decide) q1)),Zkt (Li (by decide) (Li (by decide) q2)),Li (by decide) (Li (by decide) (Li (by decide) q3)),fun o=>by simpa using qf o,lo,
  ((h4.setCell (p:=⟨b,0,none⟩) lo _).setCell (p:=⟨b,1,none⟩) lo _).setCell (p:=⟨b,2,none⟩) lo _⟩
theorem Zku:(prog.info? 128).map (fun i=>(i.zero,i.size,i.bytes))=some (some (.agg #[(0:Int),(0:Int),(0:Int),(0:Int),(0:Int)]),5,40):=by kernel_rfl
theorem La.newb(w:World)(ts:List Ten)(vs:Array Value)(t:TypeId)(b:Nat)(hb:w.heap.size=b)(h:∀i,i<ts.length→vs[i*4]?=some (.int .i64 (Vg ts i).q)∧vs[i*4+1]?=some (.int .i64 (Vg ts i).tr)∧vs[i*4+2]?=some (.int .i64 (Vg ts i).cp)∧vs[i*4+3]?=some (.int .i64 (Vg ts i).sst)) :
  La (w.alloc (.cells vs t)) (some ⟨b,0,none⟩) ts:=by
 subst hb;intro i hi;obtain⟨h0,h1,h2,h3⟩:=h i hi;refine⟨_,0,rfl,?_,?_,?_,?_⟩
 ·rw[Nat.zero_add,Zg];exact h0
 ·rw[Nat.zero_add,Zg];exact h1
 ·rw[Nat.zero_add,Zg];exact h2
 ·rw[Nat.zero_add,Zg];exact h3
section
open Go.RowKit Go.Shelf
theorem Ki{b gp:Nat}{c:Zh}{t:Nat}{s:Int}{w:World}(h:Zt w b gp c t)(hk:s<0∨sS c t c.cl.length≤s) :
  Calls prog 21 #[b,.int .i64 s] w fun e w'=>e=.returned (.tuple #[(0:Int),(2:Int)])∧Ext w w':=by
 have H:=Za h;have HK:=Za hk;clear h hk;go_enter func21,ntmps21;go_wp2_with fail;refine(Kh H.out HK.out).ze fun w1 x=>?_;go_wp2;go_ret2;exact⟨rfl,x⟩
end
def tcs:List Ten→List Value
 | []=>[]
 | t :: r=>.int .i64 t.q :: .int .i64 t.tr :: .int .i64 t.cp :: .int .i64 t.sst :: tcs r
theorem Ie:∀ts:List Ten,(tcs ts).length=ts.length*4
 | []=>rfl
 | t :: r=>by unfold tcs;simp[Ie r];omega
theorem Zkv:∀ts:List Ten,∀u∈tcs ts,u.oneCell'=true
 | [],u,h=>by simp[tcs] at h
 | t :: r,u,h=>by
  unfold tcs at h;simp only[List.mem_cons] at h;rcases h with rfl|rfl|rfl|rfl|h
  ·rfl
  ·rfl
  ·rfl
  ·rfl
  ·exact Zkv r u h
theorem Zkw:∀(ts:List Ten) (i:Nat),i<ts.length →
  (tcs ts)[i*4]?=some (.int .i64 (Vg ts i).q)∧(tcs ts)[i*4+1]?=some (.int .i64 (Vg ts i).tr)∧(tcs ts)[i*4+2]?=some (.int .i64 (Vg ts i).cp)∧(tcs ts)[i*4+3]?=some (.int .i64 (Vg ts i).sst)
 | [],i,h=>absurd h (Zzb _)
 | t :: r,0,_=>⟨rfl,rfl,rfl,rfl⟩
 | t :: r,i+1,h=>by
  have ih:=Zkw r i (by simpa using h);have e:(i+1)*4=i*4+4:=by omega
  rw[e];exact ih
theorem Zpk {w:World} {b o:Nat} {ts:List Ten} (h:∀i,i<ts.length→w.cell? ⟨b,o+i*4,none⟩=some (.int .i64 (Vg ts i).q)∧w.cell? ⟨b,o+i*4+1,none⟩=some (.int .i64 (Vg ts i).tr) ∧
  w.cell? ⟨b,o+i*4+2,none⟩=some (.int .i64 (Vg ts i).cp)∧w.cell? ⟨b,o+i*4+3,none⟩=some (.int .i64 (Vg ts i).sst)) :
  ∀j u,(tcs ts)[j]?=some u→w.cell? ((⟨b,o,none⟩:Addr).add j)=some u:=by
 intro j u hj;have hl:j<(tcs ts).length:=(List.getElem?_eq_some_iff.1 hj).1;rw[Ie] at hl;have hi:j / 4<ts.length:=by omega
 obtain⟨a0,a1,a2,a3⟩:=Zkw ts (j / 4) hi;obtain⟨c0,c1,c2,c3⟩:=h (j / 4) hi;rw[Addr.add_lit];have hr:j % 4=0∨j % 4=1∨j % 4=2∨j % 4=3:=by omega
 rcases hr with hr|hr|hr|hr
 ·have e:j=j / 4*4:=by omega
  rw[←e] at a0 c0;rw[a0] at hj;cases hj;exact c0
 ·have e:j=j / 4*4+1:=by omega
  rw[←e] at a1;rw[a1] at hj;cases hj;rw[show o+j=o+j / 4*4+1 by omega];exact c1
 ·have e:j=j / 4*4+2:=by omega
  rw[←e] at a2;rw[a2] at hj;cases hj;rw[show o+j=o+j / 4*4+2 by omega];exact c2
 ·have e:j=j / 4*4+3:=by omega
  rw[←e] at a3;rw[a3] at hj;cases hj;rw[show o+j=o+j / 4*4+3 by omega];exact c3
theorem Zpl{w:World}{base e:Nat}{v:Value}{n:Nat}{ts:List Ten}(h:w.ownsRow base e 4 v n (tcs ts))(h0:0<n) :
  ∃g cap,v=.slice (some ⟨g,0,none⟩) n cap∧base≤g∧g<w.heap.size∧n=ts.length∧n≤cap∧cap≤maxLen∧La w (some ⟨g,0,none⟩) ts∧∀o,w.frozen? ⟨g,o,none⟩=false:=by
 have hn:n=ts.length:=by have:=h.1;rw[Ie] at this;omega
 have h':=h;obtain⟨_,⟨rfl,rfl⟩|⟨g,cap,cur,rfl,hb,hh,hc,hm,hs,ht⟩⟩:=h
 ·exact absurd h0 (Nat.lt_irrefl 0)
 ·refine⟨g,cap,rfl,hb,(Array.getElem?_eq_some_iff.1 hh).1,hn,hc,hm,?_,fun o=>h'.frozenAt o⟩;intro i hi;obtain⟨a0,a1,a2,a3⟩:=Zkw ts i hi;refine⟨g,0,rfl,?_,?_,?_,?_⟩
  ·rw[Nat.zero_add,h'.cellAt _ (by omega)];exact a0
  ·rw[Nat.zero_add,h'.cellAt _ (by omega)];exact a1
  ·rw[Nat.zero_add,h'.cellAt _ (by omega)];exact a2
  ·rw[Nat.zero_add,h'.cellAt _ (by omega)];exact a3
theorem Yx{b gp:Nat}{c:Zh}{t:Nat}(n:Int){w:World}(hn:sS c t c.cl.length=n)(h:Zt w b gp c t):Calls prog 81 #[b] w fun e w'=>e=.returned (.int .i64 n)∧w=w':=by
 subst hn;exact Ff h
theorem Zc7{b gp:Nat}{c:Zh}{t:Nat}(n:Int){w:World}(hn:sG c t c.cl.length=n)(h:Zt w b gp c t):Calls prog 221 #[b] w fun e w'=>e=.returned (.int .i64 n)∧w=w':=by
 subst hn;exact Zha h
theorem If{b gp:Nat}{c:Zh}{t:Nat}(n:Int){w:World}(hn:sG c t c.cl.length*c.page=n)(h:Zt w b gp c t):Calls prog 16 #[b] w fun e w'=>e=.returned (.int .i64 n)∧Ext w w':=by
 subst hn;exact Zhb h
theorem Zhl{b gp k:Nat}{c:Zh}{t:Nat}{s:Int}(a:Int){w:World}(ha:On c t s k=a)(h:Zt w b gp c t)(hk:Yk c t s k) :
  Calls prog 21 #[b,.int .i64 s] w fun e w'=>e=.returned (.tuple #[.int .i64 a,(0:Int)])∧Ext w w':=by
 subst ha;exact J6 h hk
theorem Zhm{b gp k:Nat}{c:Zh}{t:Nat}{s:Int}(a:Int){w:World}(ha:Nz c t s k=a)(h:Zt w b gp c t)(hk:Yk c t s k) :
  Calls prog 382 #[b,.int .i64 s] w fun e w'=>e=.returned (.tuple #[.int .i64 a,(0:Int)])∧Ext w w':=by
 subst ha;exact Zkl h hk
theorem Fi{b gp k:Nat}{c:Zh}{t:Nat}{s:Int}(a:Int){w:World}(ha:nth c.cl k=a)(h:Zt w b gp c t)(hk:Yk c t s k) :
  Calls prog 194 #[b,.int .i64 s] w fun e w'=>e=.returned (.tuple #[.int .i64 a,(0:Int)])∧Ext w w':=by
 subst ha;exact Zkk h hk
section
variable{lb lc fb fc mb mc cc t:Nat}{ca:Option Addr}{c:Zh}{w:World}
theorem KOk.nS_le(h:KOk c)(ht:t<c.ts.length):nS c t≤16384:=by
 have h1:=h.nS_eq ht;have h2:=(h.sS_le ht (k:=c.cl.length) (Zy1 _)).2;have h3:=h.cl.most;omega
def Zow(c:Zh)(t k i:Nat):Int:=if (i:Int)≤sS c t k then 0 else if (i:Int)≤sS c t (k+1) then i-sS c t k else Zl c t k
theorem Zkx{k i:Nat}(ho:KOk c)(ht:t<c.ts.length)(hk:k<c.cl.length)(hi:i<nS c t):kOf c t (i:Int)=k ↔ (sS c t k≤(i:Int)∧(i:Int)<sS c t (k+1)):=by
 have hn:=ho.nS_eq ht;obtain⟨j,hj⟩:=Qv (c:=c) (t:=t) (s:=(i:Int)) (Int.natCast_nonneg _) (by omega);rw[hj.kOf ho ht]
 constructor
 ·rintro rfl;exact⟨hj.lo,hj.hi⟩
 ·intro h;exact hj.uniq ho ht ⟨hk,h.1,h.2⟩
theorem Zc8(ho:KOk c)(ht:t<c.ts.length){s:Nat}(h:s<nS c t):Yk c t (s:Int) (kOf c t (s:Int)):=by
 have hn:=ho.nS_eq ht;obtain⟨j,hj⟩:=Qv (c:=c) (t:=t) (s:=(s:Int)) (Int.natCast_nonneg _) (by omega);rw[hj.kOf ho ht];exact hj
end
def Wt:Nat→Nat→Nat
 | 0,_=>0
 | n+1,x=>x % 2+Wt n (x / 2)
theorem N2(n x:Nat):Wt (n+1) x=x % 2+Wt n (x / 2):=rfl
theorem Xk:∀n x,Wt n x≤n
 | 0,_=>Zy1 0
 | n+1,x=>by have:=Xk n (x / 2);unfold Wt;omega
theorem Lj:∀(n m x:Nat),Wt (n+m) x=Wt n x+Wt m (x / 2 ^ n)
 | 0,m,x=>by simp[Wt]
 | n+1,m,x=>by
  have e:n+1+m=(n+m)+1:=by omega
  rw[e,N2,N2,Lj n m (x / 2),Nat.div_div_eq_div_mul,show 2*2 ^ n=2 ^ (n+1) by rw[Nat.pow_succ];omega];omega
theorem Dw:∀(n x y:Nat),Wt n (x+2 ^ n*y)=Wt n x
 | 0,_,_=>rfl
 | n+1,x,y=>by
  rw[N2,N2];have e:x+2 ^ (n+1)*y=x+2*(2 ^ n*y):=by rw[Nat.pow_succ,Nat.mul_comm (2 ^ n) 2,Nat.mul_assoc]
  rw[e,show(x+2*(2 ^ n*y)) / 2=x / 2+2 ^ n*y by omega,Dw n (x / 2) y];omega
def Sd:List Nat→Nat
 | []=>0
 | b :: r=>b+256*Sd r
theorem N3(b:Nat)(r:List Nat):Sd (b :: r)=b+256*Sd r:=rfl
def s1(b:Nat):Nat:=(b / 2 &&& 85)+(b &&& 85)
def s2(b:Nat):Nat:=(b / 4 &&& 51)+(b &&& 51)
def s3(b:Nat):Nat:=(b / 16+b) &&& 15
def rep(c:Nat):Nat→Nat
 | 0=>0
 | n+1=>c+256*rep c n
theorem Q9(y b m c:Nat)(hb:b<256)(hc:c<256):(b+256*y) &&& (c+256*m)=(b &&& c)+256*(y &&& m):=by
 have h:(b &&& c)<2 ^ 8:=Nat.lt_of_le_of_lt Nat.and_le_left hb
 apply Nat.eq_of_testBit_eq
 intro i;rw[Nat.testBit_and,Nat.add_comm b,Nat.add_comm c,Nat.add_comm (b &&& c),show 256=2 ^ 8 from rfl,Nat.testBit_two_pow_mul_add _ hb,Nat.testBit_two_pow_mul_add _ hc,Nat.testBit_two_pow_mul_add _ h];split
 ·rw[Nat.testBit_and]
 ·rw[Nat.testBit_and]
theorem Zxg:∀(r:Fin 2) (b:Fin 256),(128*r.val+b.val / 2) &&& 85=b.val / 2 &&& 85:=by decide +kernel
theorem Zxh:∀(r:Fin 4) (b:Fin 256),(64*r.val+b.val / 4) &&& 51=b.val / 4 &&& 51:=by decide +kernel
theorem Zxi:∀(r:Fin 5) (a b:Fin 5),(16*r.val+(16*a.val+b.val) / 16+(16*a.val+b.val)) &&& 15=s3 (16*a.val+b.val):=by decide +kernel
theorem Zv1:∀b:Fin 256,s2 (s1 b.val) / 16≤4∧s2 (s1 b.val) % 16≤4:=by decide +kernel
theorem Zxj:∀b:Fin 256,s3 (s2 (s1 b.val))=Wt 8 b.val:=by decide +kernel
theorem Zxk:∀b:Fin 256,s1 b.val<256:=by decide +kernel
theorem Zxl(bs:List Nat)(h:∀b∈bs,b<256):(Sd bs / 2 &&& rep 85 bs.length)+(Sd bs &&& rep 85 bs.length)=Sd (bs.map s1):=by
 induction bs with
 | nil=>rfl
 | cons b r ih=>
  have hb:b<256:=h b (by simp);have ih:=ih fun x hx=>h x (by simp[hx])
  have e:Sd (b :: r) / 2=(128*(Sd r % 2)+b / 2)+256*(Sd r / 2):=by rw[N3];omega
  rw[e];show((128*(Sd r % 2)+b / 2)+256*(Sd r / 2) &&& (85+256*rep 85 r.length))+((b+256*Sd r) &&& (85+256*rep 85 r.length))=s1 b+256*Sd (r.map s1)
  rw[Q9 _ _ _ _ (by omega) (by omega),Q9 _ _ _ _ hb (by omega),←ih];have:=Zxg ⟨Sd r % 2,by omega⟩ ⟨b,hb⟩;simp only at this;rw[this];unfold s1;omega
theorem Zxm(bs:List Nat)(h:∀b∈bs,b<256):(Sd bs / 4 &&& rep 51 bs.length)+(Sd bs &&& rep 51 bs.length)=Sd (bs.map s2):=by
 induction bs with
 | nil=>rfl
 | cons b r ih=>
  have hb:b<256:=h b (by simp);have ih:=ih fun x hx=>h x (by simp[hx])
  have e:Sd (b :: r) / 4=(64*(Sd r % 4)+b / 4)+256*(Sd r / 4):=by rw[N3];omega
  rw[e];show((64*(Sd r % 4)+b / 4)+256*(Sd r / 4) &&& (51+256*rep 51 r.length))+((b+256*Sd r) &&& (51+256*rep 51 r.length))=s2 b+256*Sd (r.map s2)
  rw[Q9 _ _ _ _ (by omega) (by omega),Q9 _ _ _ _ hb (by omega),←ih];have:=Zxh ⟨Sd r % 4,by omega⟩ ⟨b,hb⟩;simp only at this;rw[this];unfold s2;omega
theorem Zxn(bs:List Nat)(h:∀b∈bs,b / 16≤4∧b % 16≤4):(Sd bs / 16+Sd bs) &&& rep 15 bs.length=Sd (bs.map s3):=by
 induction bs with
 | nil=>rfl
 | cons b r ih=>
  have hb:=h b (by simp);have hr:Sd r % 16≤4:=by
   cases r with
   | nil=>decide
   | cons c q=>have:=h c (by simp);rw[N3];omega
  have ih:=ih fun x hx=>h x (by simp[hx])
  have e:Sd (b :: r) / 16+Sd (b :: r)=(16*(Sd r % 16)+b / 16+b)+256*(Sd r / 16+Sd r):=by rw[N3];omega
  rw[e];show((16*(Sd r % 16)+b / 16+b)+256*(Sd r / 16+Sd r)) &&& (15+256*rep 15 r.length)=s3 b+256*Sd (r.map s3)
  rw[Q9 _ _ _ _ (by omega) (by omega),ih];have:=Zxi ⟨Sd r % 16,by omega⟩ ⟨b / 16,by omega⟩ ⟨b % 16,by omega⟩;simp only at this;rw[show 16*(b / 16)+b % 16=b by omega] at this;rw[this]
def Vs(x:Nat):List Nat:=[x % 256,x / 256 % 256,x / 65536 % 256,x / 16777216 % 256,x / 4294967296 % 256,x / 1099511627776 % 256,x / 281474976710656 % 256,x / 72057594037927936 % 256]
theorem Zhn{x:Nat}(h:x<18446744073709551616):Sd (Vs x)=x:=by
 unfold Vs;simp only[Sd];omega
theorem Zky(x:Nat):∀b∈Vs x,b<256:=by
 intro b hb;unfold Vs at hb;simp only[List.mem_cons,List.not_mem_nil,or_false] at hb;omega
theorem Fj(x:Nat):Wt 64 x=Wt 8 (x % 256)+Wt 8 (x / 256 % 256)+Wt 8 (x / 65536 % 256)+Wt 8 (x / 16777216 % 256)+Wt 8 (x / 4294967296 % 256)+Wt 8 (x / 1099511627776 % 256)+Wt 8 (x / 281474976710656 % 256)+Wt 8 (x / 72057594037927936 % 256):=by
 have m:∀y,Wt 8 y=Wt 8 (y % 256):=fun y=>by
  have:=Dw 8 (y % 256) (y / 256);rw[←this,show(2:Nat) ^ 8=256 from rfl,Nat.mod_add_div]
 have s:∀k y,Wt (8+k) y=Wt 8 (y % 256)+Wt k (y / 256):=fun k y=>by rw[Lj 8 k y,←m]
 have h1:Wt 64 x=Wt 8 (x % 256)+Wt 56 (x / 256):=s 56 x;have h2:Wt 56 (x / 256)=Wt 8 (x / 256 % 256)+Wt 48 (x / 256 / 256):=s 48 _;have h3:Wt 48 (x / 256 / 256)=Wt 8 (x / 256 / 256 % 256)+Wt 40 (x / 256 / 256 / 256):=s 40 _;have h4:Wt 40 (x / 256 / 256 / 256)=Wt 8 (x / 256 / 256 / 256 % 256)+Wt 32 (x / 256 / 256 / 256 / 256):=s 32 _;have h5:Wt 32 (x / 256 / 256 / 256 / 256)=Wt 8 (x / 256 / 256 / 256 / 256 % 256)+Wt 24 (x / 256 / 256 / 256 / 256 / 256):=s 24 _;have h6:Wt 24 (x / 256 / 256 / 256 / 256 / 256)=Wt 8 (x / 256 / 256 / 256 / 256 / 256 % 256)+Wt 16 (x / 256 / 256 / 256 / 256 / 256 / 256):=s 16 _;have h7:Wt 16 (x / 256 / 256 / 256 / 256 / 256 / 256)=Wt 8 (x / 256 / 256 / 256 / 256 / 256 / 256 % 256)+Wt 8 (x / 256 / 256 / 256 / 256 / 256 / 256 / 256):=s 8 _;have h8:=m (x / 256 / 256 / 256 / 256 / 256 / 256 / 256);rw[h1,h2,h3,h4,h5,h6,h7,h8];simp only[Nat.div_div_eq_div_mul,Nat.reduceMul];omega
def Zs7(x:Nat):Nat:=
 let a:=(x / 2 &&& 6148914691236517205)+(x &&& 6148914691236517205)
 let b:=(a / 4 &&& 3689348814741910323)+(a &&& 3689348814741910323)
 let c:=(b / 16+b) &&& 1085102592571150095
 let d:=c+c / 256
 let e:=d+d / 65536
 let f:=e+e / 4294967296
 f % 128
theorem Zxo(x:Nat):rep 85 (Vs x).length=6148914691236517205:=by rw[show(Vs x).length=8 from rfl];decide
theorem Zxp(x:Nat):rep 51 ((Vs x).map s1).length=3689348814741910323:=by rw[List.length_map,show(Vs x).length=8 from rfl];decide
theorem Zxq(x:Nat):rep 15 (((Vs x).map s1).map s2).length=1085102592571150095:=by rw[List.length_map,List.length_map,show(Vs x).length=8 from rfl];decide
theorem Fk{x:Nat}(h:x<18446744073709551616) :
  let a:=(x / 2 &&& 6148914691236517205)+(x &&& 6148914691236517205)
  let b:=(a / 4 &&& 3689348814741910323)+(a &&& 3689348814741910323)
  ((b / 16+b) &&& 1085102592571150095)=Sd ((Vs x).map fun b=>Wt 8 b)∧a<18446744073709551616∧b≤7378697629483820646:=by
 intro a b;have hl:=Zky x;have ha:a=Sd ((Vs x).map s1):=by
  have:=Zxl (Vs x) hl;rw[Zhn h,Zxo] at this;exact this
 have hl1:∀y∈(Vs x).map s1,y<256:=by
  intro y hy;obtain⟨z,hz,rfl⟩:=List.mem_map.1 hy;exact Zxk ⟨z,hl z hz⟩
 have hb:b=Sd (((Vs x).map s1).map s2):=by
  have:=Zxm ((Vs x).map s1) hl1;rw[←ha,Zxp] at this;exact this
 have hl2:∀y∈((Vs x).map s1).map s2,y / 16≤4∧y % 16≤4:=by
  intro y hy;rw[List.map_map] at hy;obtain⟨z,hz,rfl⟩:=List.mem_map.1 hy;exact Zv1 ⟨z,hl z hz⟩
 refine⟨?_,?_,?_⟩
 ·have:=Zxn (((Vs x).map s1).map s2) hl2;rw[←hb,Zxq] at this;rw[this];have e:∀l:List Nat,(∀z∈l,z<256)→((l.map s1).map s2).map s3=l.map fun b=>Wt 8 b:=by
   intro l hl
   induction l with
   | nil=>rfl
   | cons a r ih=>
    simp only[List.map_cons];rw[ih fun z hz=>hl z (by simp[hz]),Zxj ⟨a,hl a (by simp)⟩]
  rw[e _ hl]
 ·have e1:a≤6148914691236517205+6148914691236517205:=Nat.add_le_add Nat.and_le_right Nat.and_le_right;omega
 ·have e1:b≤3689348814741910323+3689348814741910323:=Nat.add_le_add Nat.and_le_right Nat.and_le_right;omega
theorem Zyc(p0 p1 p2 p3 p4 p5 p6 p7:Nat)(h0:p0≤8)(h1:p1≤8)(h2:p2≤8)(h3:p3≤8)(h4:p4≤8)(h5:p5≤8)(h6:p6≤8)(h7:p7≤8)(c d e f:Nat)
  (hc:c=Sd [p0,p1,p2,p3,p4,p5,p6,p7]) (hd:d=c+c / 256) (he:e=d+d / 65536) (hf:f=e+e / 4294967296) :
  f % 128=p0+p1+p2+p3+p4+p5+p6+p7∧d<18446744073709551616∧e<18446744073709551616∧f<9223372036854775808:=by
 simp only[Sd] at hc;have d':d=(p0+p1)+256*((p1+p2)+256*((p2+p3)+256*((p3+p4)+256*((p4+p5)+256*((p5+p6)+256*((p6+p7)+256*p7)))))):=by omega
 clear hd hc;have e':e=(p0+p1+p2+p3)+256*((p1+p2+p3+p4)+256*((p2+p3+p4+p5)+256*((p3+p4+p5+p6)+256*((p4+p5+p6+p7)+256*((p5+p6+p7)+256*((p6+p7)+256*p7)))))):=by omega
 have dl:d<18446744073709551616:=by omega
 clear d' he;have f':f=(p0+p1+p2+p3+p4+p5+p6+p7)+256*((p1+p2+p3+p4+p5+p6+p7)+256*((p2+p3+p4+p5+p6+p7)+256*((p3+p4+p5+p6+p7)+256*((p4+p5+p6+p7)+256*((p5+p6+p7)+256*((p6+p7)+256*p7)))))):=by omega
 have el:e<18446744073709551616:=by omega
 clear e' hf;refine⟨by omega,dl,el,by omega⟩
theorem Zkz{x:Nat}(h:x<18446744073709551616):Zs7 x=Wt 64 x:=by
 have hm:=(Fk h).1;unfold Zs7;simp only;rw[hm,Fj x];exact(Zyc _ _ _ _ _ _ _ _ (Xk 8 _) (Xk 8 _) (Xk 8 _) (Xk 8 _) (Xk 8 _) (Xk 8 _) (Xk 8 _) (Xk 8 _) _ _ _ _ rfl rfl rfl rfl).1
def Zu(bs:List Bool)(i:Nat):Bool:=bs.getD i false
theorem Un{bs:List Bool}{i:Nat}(h:bs.length≤i):Zu bs i=false:=by unfold Zu;simp[h]
theorem Z8{bs:List Bool}{i j:Nat}{b:Bool}(h:i<bs.length):Zu (bs.set i b) j=if j=i then b else Zu bs j:=by
 unfold Zu;by_cases e:j=i
 ·subst e;simp[h]
 ·rw[if_neg e];simp[List.getD,List.getElem?_set,Ne.symm e]
theorem Zyn{az bs:List Bool}(hl:az.length=bs.length)(h:∀i,i<az.length→Zu az i=Zu bs i):az=bs:=by
 apply List.ext_getElem hl
 intro i h1 h2;have:=h i h1;unfold Zu at this;simpa [List.getD,h1,h2] using this
theorem Zpm{n i:Nat}{b:Bool}(h:i<n):Zu (List.replicate n b) i=b:=by unfold Zu;simp[List.getD,h]
theorem Uv(n i:Nat):Zu (List.replicate n false) i=false:=by
 by_cases h:i<n
 ·exact Zpm h
 ·exact Un (by simp;omega)
def Zk0(f:Nat→Bool):Nat→Nat
 | 0=>0
 | j+1=>2 ^ j*(f j).toNat+Zk0 f j
theorem Ig(f:Nat→Bool)(j:Nat):Zk0 f (j+1)=2 ^ j*(f j).toNat+Zk0 f j:=rfl
theorem Ih(f:Nat→Bool):∀n,Zk0 f n<2 ^ n
 | 0=>Nat.zero_lt_one
 | n+1=>by
  have:=Ih f n;rw[Ig,Nat.pow_succ];cases f n<;>simp<;>omega
theorem Jh(f:Nat→Bool):∀n j,(Zk0 f n).testBit j=(decide (j<n)&&f j)
 | 0,j=>by simp[Zk0]
 | n+1,j=>by
  rw[Ig,Nat.testBit_two_pow_mul_add _ (Ih f n)];by_cases hj:j<n
  ·rw[if_pos hj,Jh f n j];simp[hj,Nat.lt_succ_of_lt hj]
  ·rw[if_neg hj];by_cases e:j=n
   ·subst e;cases f j<;>simp
   ·have h1:¬j<n+1:=by omega
    obtain⟨m,hm⟩:∃m,j-n=m+1:=⟨j-n-1,by omega⟩;rw[hm];cases f n<;>simp[h1,Nat.testBit_succ]
theorem Zk1{f:Nat→Bool}{n x:Nat}(hx:x<2 ^ n)(h:∀j,j<n→x.testBit j=f j):x=Zk0 f n:=by
 apply Nat.eq_of_testBit_eq
 intro j;rw[Jh];by_cases hj:j<n
 ·simp[hj,h j hj]
 ·rw[Nat.testBit_lt_two_pow (Zy5 hx (Nat.pow_le_pow_right (by decide) (by omega)))];simp[hj]
def Xr(n:Nat):Nat:=(n+63) / 64
def wd(bs:List Bool)(k:Nat):Nat:=Zk0 (fun j=>Zu bs (64*k+j)) 64
def wds(bs:List Bool):List Int:=(List.range (Xr bs.length)).map fun k=>((wd bs k:Nat):Int)
theorem U7(bs:List Bool):(wds bs).length=Xr bs.length:=by unfold wds;simp
theorem Zc9{bs:List Bool}{k:Nat}(h:k<(wds bs).length):(wds bs)[k]=((wd bs k:Nat):Int):=by simp[wds]
theorem Zk2{bs:List Bool}{k:Nat}(h:k<Xr bs.length):nth (wds bs) k=(wd bs k:Nat):=by
 unfold nth wds;simp[List.getD,h]
theorem Dx(bs:List Bool)(k:Nat):wd bs k<18446744073709551616:=Ih _ 64
theorem Zaf(bs:List Bool)(k j:Nat)(h:j<64):(wd bs k).testBit j=Zu bs (64*k+j):=by
 unfold wd;rw[Jh];simp[h]
theorem Zpn{bs:List Bool}{k x:Nat}(hx:x<18446744073709551616)(h:∀j,j<64→x.testBit j=Zu bs (64*k+j)):x=wd bs k:=
 Zk1 hx h
theorem Zt1{bs:List Bool}{k:Nat}(h:∀j,j<64→Zu bs (64*k+j)=false):wd bs k=0:=
 (Zpn (by decide) fun j hj=>by rw[h j hj,Nat.zero_testBit]).symm
theorem Zk3{bs:List Bool}{i:Nat}{b:Bool}(h:i<bs.length):wds (bs.set i b)=(wds bs).set (i / 64) ((wd (bs.set i b) (i / 64):Nat):Int):=by
 apply List.ext_getElem
 ·simp[U7]
 ·intro k h1 h2;rw[List.getElem_set];by_cases e:i / 64=k
  ·subst e;rw[if_pos rfl,Zc9]
  ·rw[if_neg e,Zc9,Zc9];have hw:wd (bs.set i b) k=wd bs k:=Zpn (Dx _ _) fun j hj=>by rw[Zaf _ _ _ hj,Z8 h,if_neg (by omega)]
   rw[hw]
theorem Zda{bs:List Bool}{i:Nat}(h:i<bs.length):wd (bs.set i true) (i / 64)=wd bs (i / 64) ||| 2 ^ (i % 64):=by
 symm
 refine Zpn ?_ fun j hj=>?_
 ·exact Nat.or_lt_two_pow (n:=64) (Dx _ _) (Nat.pow_lt_pow_right (by decide) (by omega))
 ·rw[Nat.testBit_or,Zaf _ _ _ hj,Z8 h,Nat.testBit_two_pow];by_cases e:j=i % 64
  ·rw[if_pos (by omega)];simp[e]
  ·rw[if_neg (by omega)];have:¬i % 64=j:=fun a=>e a.symm
   simp[this]
theorem Zag{bs:List Bool}{i:Nat}(h:i<bs.length):wd (bs.set i false) (i / 64)=wd bs (i / 64) &&& (18446744073709551616-(2 ^ (i % 64)+1)):=by
 symm
 have hp:2 ^ (i % 64)<2 ^ 64:=Nat.pow_lt_pow_right (by decide) (by omega);refine Zpn (Nat.lt_of_le_of_lt Nat.and_le_left (Dx _ _)) fun j hj=>?_
 rw[Nat.testBit_and,Zaf _ _ _ hj,Z8 h,show 18446744073709551616-(2 ^ (i % 64)+1)=2 ^ 64-(2 ^ (i % 64)+1) from rfl,Nat.testBit_two_pow_sub_succ hp,Nat.testBit_two_pow];by_cases e:j=i % 64
 ·rw[if_pos (by omega)];simp[e]
 ·rw[if_neg (by omega)];have:¬i % 64=j:=fun a=>e a.symm
  simp[this,hj]
def Dy(az bs:List Bool):List Bool:=(List.range az.length).map fun i=>Zu az i&&!Zu bs i
theorem Ii(az bs:List Bool):(Dy az bs).length=az.length:=by unfold Dy;simp
theorem N4(az bs:List Bool)(i:Nat):Zu (Dy az bs) i=(Zu az i&&!Zu bs i):=by
 by_cases h:i<az.length
 ·unfold Dy Zu;simp[List.getD,h]
 ·rw[Un (by rw[Ii];omega),Un (bs:=az) (by omega)];rfl
def Dz(bs:List Bool):Nat→Nat
 | 0=>0
 | m+1=>Dz bs m+(Zu bs m).toNat
theorem Pa(bs:List Bool)(m:Nat):Dz bs (m+1)=Dz bs m+(Zu bs m).toNat:=rfl
theorem Zk4(bs:List Bool):∀m,Dz bs m≤m
 | 0=>Zy1 0
 | m+1=>by have:=Zk4 bs m;rw[Pa];cases Zu bs m<;>simp<;>omega
theorem Zpo(bs:List Bool):∀m,bs.length≤m→Dz bs m=Dz bs bs.length:=by
 intro m h
 induction m with
 | zero=>rw[Nat.le_zero.1 h]
 | succ m ih=>
  by_cases e:bs.length=m+1
  ·rw[e]
  ·rw[Pa,ih (by omega),Un (by omega)];rfl
theorem Zah(f:Nat→Bool):∀n,Wt n (Zk0 f n)=(List.range n).foldl (fun a j=>a+(f j).toNat) 0
 | 0=>rfl
 | n+1=>by
  rw[Lj n 1,List.range_succ,List.foldl_append,←Zah f n,Ig,Nat.add_comm (2 ^ n*_),Dw];have e:(Zk0 f n+2 ^ n*(f n).toNat) / 2 ^ n=(f n).toNat:=by
   rw[Nat.add_mul_div_left _ _ (Nat.two_pow_pos n),Nat.div_eq_of_lt (Ih f n),Nat.zero_add]
  rw[e];cases hf:f n<;>simp[Wt,hf]
theorem Zai(bs:List Bool)(a:Nat):∀n,Dz bs (a+n)=Dz bs a+(List.range n).foldl (fun s j=>s+(Zu bs (a+j)).toNat) 0
 | 0=>rfl
 | n+1=>by
  rw[List.range_succ,List.foldl_append,←Nat.add_assoc,Pa,Zai bs a n,Nat.add_assoc];rfl
theorem Zk5(bs:List Bool)(k:Nat):Dz bs (64*k)+Wt 64 (wd bs k)=Dz bs (64*(k+1)):=by
 unfold wd;rw[Zah,show 64*(k+1)=64*k+64 by omega,Zai bs (64*k) 64]
theorem Zpp(bs:List Bool):Dz bs (64*Xr bs.length)=Dz bs bs.length:=Zpo bs _ (by unfold Xr;omega)
def Te(bs:List Bool)(fm:Int)(is:Bool)(p:Int)(q:Bool):Prop:=
 (q=true∧∃i:Nat,p=i∧fm≤i∧i<bs.length∧Zu bs i=is∧∀j:Nat,fm≤j→j<i→Zu bs j=!is) ∨
 (q=false∧p=0∧∀j:Nat,fm≤j→j<bs.length→Zu bs j=!is)
theorem Zho(P:Nat→Bool)(a n:Nat):(∀i,a≤i→i<n→P i=false)∨∃k,a≤k∧k<n∧(∀i,a≤i→i<k→P i=false)∧P k=true:=by
 induction n with
 | zero=>exact .inl fun i _ h=>absurd h (Zzb i)
 | succ n ih=>
  rcases ih with h|⟨k,h1,h2,h3,h4⟩
  ·by_cases ha:a≤n
   ·cases hp:P n
    ·left
     intro i hi hn;rcases Nat.lt_or_ge i n with c|c
     ·exact h i hi c
     ·obtain rfl:i=n:=by omega
      exact hp
    ·exact .inr ⟨n,ha,Nat.lt_succ_self n,h,hp⟩
   ·exact .inl fun i hi hn=>absurd hi (by omega)
  ·exact .inr ⟨k,h1,by omega,h3,h4⟩
theorem Na(bs:List Bool)(fm:Int)(is:Bool):∃p q,Te bs fm is p q:=by
 rcases Zho (fun i=>Zu bs i==is) fm.toNat bs.length with h|⟨k,h1,h2,h3,h4⟩
 ·refine⟨0,false,.inr ⟨rfl,rfl,fun j hj hl=>?_⟩⟩;have:=h j (by omega) hl
  revert this;cases Zu bs j<;>cases is<;>simp
 ·refine⟨k,true,.inl ⟨rfl,k,rfl,by omega,h2,by simpa using h4,fun j hj hl=>?_⟩⟩;have:=h3 j (by omega) hl
  revert this;cases Zu bs j<;>cases is<;>simp
theorem Te.same{bs:List Bool}{fm:Int}{is:Bool}{p p':Int}{q q':Bool}(h:Te bs fm is p q)(h':Te bs fm is p' q'):p=p'∧q=q':=by
 rcases h with ⟨rfl,i,rfl,h1,h2,h3,h4⟩|⟨rfl,rfl,h4⟩
 ·rcases h' with ⟨rfl,j,rfl,g1,g2,g3,g4⟩|⟨rfl,rfl,g4⟩
  ·rcases Nat.lt_trichotomy i j with c|c|c
   ·have:=g4 i h1 c;rw[h3] at this;cases is<;>cases this
   ·exact⟨by rw[c],rfl⟩
   ·have:=h4 j g1 c;rw[g3] at this;cases is<;>cases this
  ·have:=g4 i h1 h2;rw[h3] at this;cases is<;>cases this
 ·rcases h' with ⟨rfl,j,rfl,g1,g2,g3,g4⟩|⟨rfl,rfl,g4⟩
  ·have:=h4 j g1 g2;rw[g3] at this;cases is<;>cases this
  ·exact⟨rfl,rfl⟩
section
def Zcj(c:Zh)(t s:Nat):Int:=nth c.cl (kOf c t (s:Int))
def Sk(c:Zh)(t:Nat)(bs:List Bool):Nat→Int
 | 0=>0
 | n+1=>Sk c t bs n+if Zu bs n then Zcj c t n else 0
def Xh(c:Zh)(t:Nat)(bs:List Bool):Int:=Sk c t bs (nS c t)
variable{c:Zh}{t:Nat}{bs bs':List Bool}
theorem Tw(n:Nat):Sk c t bs (n+1)=Sk c t bs n+if Zu bs n then Zcj c t n else 0:=rfl
theorem Ij(ho:KOk c)(ht:t<c.ts.length){s:Nat}(h:s<nS c t):2≤Zcj c t s∧Zcj c t s≤64:=by
 have hk:=Zc8 ho ht h;have bd:=ho.bounds ht hk.lt;exact⟨bd.c2,bd.c64⟩
theorem Zaj(ho:KOk c)(ht:t<c.ts.length)(bs:List Bool):∀n,n≤nS c t→0≤Sk c t bs n∧Sk c t bs n≤n*64
 | 0,_=>⟨Int.le_refl _,by simp[Sk]⟩
 | n+1,h=>by
  have ih:=Zaj ho ht bs n (by omega);have sz:=Ij ho ht (s:=n) (by omega);rw[Tw];split<;>omega
theorem Ik(ho:KOk c)(ht:t<c.ts.length)(bs:List Bool):0≤Xh c t bs∧Xh c t bs≤1048576:=by
 have h1:=Zaj ho ht bs (nS c t) (Zy1 _);have h2:=ho.nS_le ht;unfold Xh;omega
theorem Zdb(n:Nat):Sk c t (List.replicate n false) n=0:=by
 have:∀m,Sk c t (List.replicate n false) m=0:=by
  intro m
  induction m with
  | zero=>rfl
  | succ m ih=>rw[Tw,ih,Uv];rfl
 exact this n
theorem Lk{s:Nat}(hs:s<bs.length)(v:Bool):∀n,Sk c t (bs.set s v) n=Sk c t bs n+if s<n then (if v then Zcj c t s else 0)-(if Zu bs s then Zcj c t s else 0) else 0
 | 0=>by simp[Sk]
 | n+1=>by
  have ih:=Lk hs v n;rw[Tw,Tw,ih,Z8 hs];rcases Nat.lt_trichotomy s n with g|g|g
  ·rw[if_neg (by omega:¬n=s),if_pos g,if_pos (by omega:s<n+1)];omega
  ·subst g;rw[if_pos rfl,if_neg (by omega:¬s<s),if_pos (by omega:s<s+1)];omega
  ·rw[if_neg (by omega:¬n=s),if_neg (by omega:¬s<n),if_neg (by omega:¬s<n+1)];omega
theorem Zak{s:Nat}(hl:bs.length=nS c t)(hs:s<bs.length)(h:Zu bs s=false):Xh c t (bs.set s true)=Xh c t bs+Zcj c t s:=by
 unfold Xh;rw[Lk hs,if_pos (by omega),h];simp
theorem Zk6{s:Nat}(hl:bs.length=nS c t)(hs:s<bs.length)(h:Zu bs s=true):Xh c t (bs.set s false)=Xh c t bs-Zcj c t s:=by
 unfold Xh;rw[Lk hs,if_pos (by omega),h];simp;omega
def Rz(c:Zh)(t k s:Nat):Prop:=sS c t k≤(s:Int)∧(s:Int)<sS c t (k+1)
def Zhp(c:Zh)(t:Nat)(bs:List Bool)(k:Int)(bs':List Bool)(p e:Int):Prop:=
 (¬(0≤k∧k<c.cl.length)∧bs'=bs∧p=0∧e=2) ∨
 ∃j:Nat,k=j∧j<c.cl.length ∧
  ((∃s:Nat,Rz c t j s∧Zu bs s=false∧(∀i:Nat,Rz c t j i→i<s→Zu bs i=true)∧bs'=bs.set s true∧p=s∧e=0) ∨
   ((∀i:Nat,Rz c t j i→Zu bs i=true)∧bs'=bs∧p=0∧e=6))
theorem Ll(ho:KOk c)(ht:t<c.ts.length){k s:Nat}(hk:k<c.cl.length)(h:Rz c t k s):s<nS c t:=by
 have:=Rx ho ht (a:=k+1) (b:=c.cl.length) hk (Zy1 _);have:=ho.nS_eq ht;have:=h.2;omega
theorem least{P:Nat→Prop}[DecidablePred P]:∀n:Nat,(∃s,s<n∧P s∧∀i,i<s→¬P i)∨∀i,i<n→¬P i
 | 0=>.inr fun _ h=>absurd h (Zzb _)
 | n+1=>by
  rcases least (P:=P) n with ⟨s,h1,h2,h3⟩|h
  ·exact .inl ⟨s,by omega,h2,h3⟩
  ·by_cases hp:P n
   ·exact .inl ⟨n,by omega,hp,h⟩
   ·refine .inr fun i hi=>?_
    rcases Nat.lt_or_ge i n with g|g
    ·exact h i g
    ·obtain rfl:i=n:=by omega
     exact hp
def Wz(bs r:List Bool):List Bool × Int:=if ∀i,i<bs.length→Zu r i=true→Zu bs i=true then (Dy bs r,0) else (bs,9)
end
section
def pgN(c:Zh)(t s:Nat):Nat:=(Nz c t (s:Int) (kOf c t (s:Int))).toNat
def fsN(c:Zh)(t p:Nat):Nat:=(Qx c t (p:Int) (kpOf c t (p:Int))).toNat
def mnN(c:Zh)(t p:Nat):Nat:=(Qy c t (p:Int) (kpOf c t (p:Int))).toNat
variable{c:Zh}{t:Nat}
theorem Zt2(ho:KOk c)(ht:t<c.ts.length){p:Nat}(h:p<nG c t):Qk c t (p:Int) (kpOf c t (p:Int)):=by
 have hn:=ho.nG_eq ht;obtain⟨j,hj⟩:=Zcr (c:=c) (t:=t) (s:=(p:Int)) (Int.natCast_nonneg _) (by omega);rw[hj.kpOf ho ht];exact hj
structure Zt3(c:Zh)(t p k:Nat):Prop where
 at_:Qk c t (p:Int) k
 fs:Qx c t (p:Int) k=(fsN c t p:Int)
 mn:Qy c t (p:Int) k=(mnN c t p:Int)
 pos:1≤mnN c t p
 le:fsN c t p+mnN c t p≤nS c t
theorem Ca(ho:KOk c)(ht:t<c.ts.length){p:Nat}(h:p<nG c t):Zt3 c t p (kpOf c t (p:Int)):=by
 have hk:=Zt2 ho ht h;have hn:=ho.nS_eq ht;obtain⟨h1,h2,h3⟩:=Zhg ho ht hk;have s0:=ho.sS_le ht (k:=kpOf c t (p:Int)) (by have:=hk.lt;omega);have s1:=Rx ho ht (a:=kpOf c t (p:Int)+1) (b:=c.cl.length) (by have:=hk.lt;omega) (Zy1 _);have l2:=h2.lo;have l3:=h3.hi;have e1:(fsN c t p:Int)=Qx c t (p:Int) (kpOf c t (p:Int)):=by unfold fsN;omega
 have e2:(mnN c t p:Int)=Qy c t (p:Int) (kpOf c t (p:Int)):=by unfold mnN;omega
 exact⟨hk,e1.symm,e2.symm,by omega,by omega⟩
structure Zt4(c:Zh)(t s k:Nat):Prop where
 at_:Yk c t (s:Int) k
 pg:Nz c t (s:Int) k=(pgN c t s:Int)
 lt:pgN c t s<nG c t
 lo:fsN c t (pgN c t s)≤s
 hi:s<fsN c t (pgN c t s)+mnN c t (pgN c t s)
theorem Cb(ho:KOk c)(ht:t<c.ts.length){s:Nat}(h:s<nS c t):Zt4 c t s (kOf c t (s:Int)):=by
 have hk:=Zc8 ho ht h;have hn:=ho.nG_eq ht;obtain⟨d,m,ip⟩:=hk.inPage ho ht;have hp:=ip.page hk.lt;have g0:=(ho.sG_le ht (k:=kOf c t (s:Int)) (by have:=hk.lt;omega)).1;have g1:=J8 ho ht (a:=kOf c t (s:Int)+1) (b:=c.cl.length) (by have:=hk.lt;omega) (Zy1 _);have e1:Nz c t (s:Int) (kOf c t (s:Int))=sG c t (kOf c t (s:Int))+d:=ip.pg;have d0:=ip.d0;have m0:=ip.m0;have lo:=hp.lo;have hi:=hp.hi;have e2:(pgN c t s:Int)=Nz c t (s:Int) (kOf c t (s:Int)):=by unfold pgN;omega
 have hl:pgN c t s<nG c t:=by omega
 have pf:=Ca ho ht hl;have ek:kpOf c t (pgN c t s:Int)=kOf c t (s:Int):=by
  rw[e2,e1];exact hp.kpOf ho ht
 obtain⟨f1,f2⟩:=ip.first
 have a1:=pf.fs;have a2:=pf.mn;rw[ek,e2,e1] at a1 a2;exact⟨hk,e2.symm,hl,by omega,by omega⟩
structure GS where
 q:List Int
 ow:List Bool
 di:List Bool
 at_:Nat
 en:Nat
structure GOk(c:Zh)(t n:Nat)(g:GS):Prop where
 ql:g.q.length≤n
 qs:∀x∈g.q,0≤x∧x<(nS c t:Int)
 ol:g.ow.length=nS c t
 dl:g.di.length=nG c t
 wk:g.at_=g.en∨∃p,p<nG c t∧fsN c t p≤g.at_∧g.at_<g.en∧g.en=fsN c t p+mnN c t p
 le:g.at_≤nS c t∧g.en≤nS c t
def Zox(bs:List Bool):Option Nat:=(List.range bs.length).find? (Zu bs)
theorem Il{bs:List Bool}{p:Nat}(h:Zox bs=some p):p<bs.length∧Zu bs p=true∧∀j,j<p→Zu bs j=false:=by
 unfold Zox at h;rw[List.find?_range_eq_some] at h;obtain⟨h1,h2,h3⟩:=h;exact⟨by simpa using h2,h1,fun j hj=>by have:=h3 j hj;simpa using this⟩
theorem Zal{bs:List Bool}(h:Zox bs=none):∀j,j<bs.length→Zu bs j=false:=by
 intro j hj;unfold Zox at h;rw[List.find?_eq_none] at h;have:=h j (by simpa using hj);simpa using this
theorem Zk7(bs:List Bool):Te bs 0 true (match Zox bs with|some p=>(p:Int)|none=>0) (Zox bs).isSome:=by
 cases h:Zox bs with
 | none=>exact .inr ⟨rfl,rfl,fun j _ hj=>Zal h j hj⟩
 | some p=>
  obtain⟨h1,h2,h3⟩:=Il h;exact .inl ⟨rfl,p,rfl,Int.natCast_nonneg _,h1,h2,fun j _ hj=>h3 j hj⟩
def Zck(c:Zh)(t n:Nat)(g:GS)(s:Int):GS × Int:=
 if s<0∨(nS c t:Int)≤s then (g,2)
 else if g.q.length<n then ({ g with q:=g.q++[s] },0)
 else ({ g with ow:=g.ow.set s.toNat true,di:=g.di.set (pgN c t s.toNat) true },0)
def Rb(g:GS):GS × Int × Bool:=
 match g.q with
 | []=>(g,0,false)
 | x :: r=>({ g with q:=r },x,true)
def Tx(g:GS):GS × Int × Bool × Bool:=
 ({ g with at_:=g.at_+1,ow:=g.ow.set g.at_ false },if Zu g.ow g.at_ then (g.at_:Int) else 0,Zu g.ow g.at_,true)
def Lm(c:Zh)(t:Nat)(g:GS)(p:Nat):GS:={ g with di:=g.di.set p false,at_:=fsN c t p,en:=fsN c t p+mnN c t p }
def Qa(c:Zh)(t:Nat)(g:GS):GS × Int × Bool × Bool:=
 if g.at_=g.en then
  if g.q.length=0 then
   match Zox g.di with
   | none=>(g,0,false,false)
   | some p=>Tx (Lm c t g p)
  else (g,0,false,false)
 else Tx g
def Ql(c:Zh)(t:Nat):GS:=⟨[],List.replicate (nS c t) false,List.replicate (nG c t) false,0,0⟩
def Zk8(g:GS):Nat:=Dz g.ow g.ow.length
def N5(g:GS):Bool:=decide (g.q.length=0∧g.at_=g.en∧Zk8 g=0)
theorem N6(n:Nat):GOk c t n (Ql c t):=
 ⟨Nat.zero_le _,(fun x hx=>by cases hx),Zza,Zza,.inl rfl,⟨Nat.zero_le _,Nat.zero_le _⟩⟩
theorem Zdc{n:Nat}{g:GS}(h:GOk c t n g)(s:Int):GOk c t n (Zck c t n g s).1:=by
 unfold Zck;split
 ·exact h
 ·split
  ·refine⟨by simp;omega,fun x hx=>?_,h.ol,h.dl,h.wk,h.le⟩;rcases List.mem_append.1 hx with hx|hx
   ·exact h.qs x hx
   ·obtain rfl:=List.mem_singleton.1 hx;omega
  ·exact⟨h.ql,h.qs,by simpa using h.ol,by simpa using h.dl,h.wk,h.le⟩
theorem Cc{n:Nat}{g:GS}(h:GOk c t n g):GOk c t n (Rb g).1:=by
 obtain⟨q,ow,di,a,e⟩:=g;cases q with
 | nil=>exact h
 | cons x r=>exact⟨by have:=h.ql;simp[Rb] at this ⊢;omega,fun y hy=>h.qs y (List.mem_cons_of_mem _ hy),h.ol,h.dl,h.wk,h.le⟩
theorem Zfl(ho:KOk c)(ht:t<c.ts.length){n:Nat}{g:GS}(h:GOk c t n g){p:Nat}(hp:p<nG c t):GOk c t n (Lm c t g p)∧(Lm c t g p).at_≠(Lm c t g p).en:=by
 have pf:=Ca ho ht hp;have:=pf.pos;have:=pf.le;refine⟨⟨h.ql,h.qs,h.ol,by simpa [Lm] using h.dl,.inr ⟨p,hp,Zy1 _,?_,rfl⟩,?_,?_⟩,?_⟩<;>simp only[Lm]<;>omega
theorem Cd{n:Nat}{g:GS}(h:GOk c t n g)(hne:g.at_≠g.en):GOk c t n (Tx g).1:=by
 have le:=h.le;rcases h.wk with w|⟨p,w1,w2,w3,w4⟩
 ·exact absurd w hne
 ·refine⟨h.ql,h.qs,by simpa [Tx] using h.ol,h.dl,?_,?_,h.le.2⟩
  ·by_cases e:g.at_+1=g.en
   ·exact .inl e
   ·exact .inr ⟨p,w1,by simp only[Tx];omega,by simp only[Tx];omega,w4⟩
  ·simp only[Tx];omega
end
structure Hnd where
 t:Int
 i:Int
 g:Int
def hws:List Int:=[32,24,8]
theorem Zs8:Wok hws:=Xq.1 (by decide)
def hok(c:Hnd):Prop:=c.g≠0∧0≤c.t∧c.t<256∧0≤c.i∧c.i<16777216
instance(c:Hnd):Decidable (hok c):=by unfold hok;infer_instance
def Rc(c:Hnd):Int:=c.g+c.i*4294967296+c.t*72057594037927936
def Zvq(c:Hnd):Int × Int:=if hok c then (Rc c,0) else (0,2)
def Zoy(w:Int):Hnd:=⟨w / 72057594037927936,w / 4294967296 % 16777216,w % 4294967296⟩
def Ce:Hnd:=⟨0,0,0⟩
def Ln(w:Int):Hnd × Int:=if w % 4294967296=0 then (Ce,130) else (Zoy w,0)
theorem Zk9{c:Hnd}(h:hok c)(hg:0≤c.g∧c.g<4294967296):Nn hws [c.g,c.i,c.t]=(Rc c,0):=by
 obtain⟨t,i,g⟩:=c;obtain⟨h1,h2,h3,h4,h5⟩:=h;simp only at h1 h2 h3 h4 h5 hg;unfold Nn;rw[if_pos ⟨Xq.2 Zs8,rfl⟩,if_pos]
 ·show(((pk hws [g,i,t] 3:Nat):Int),(0:Int))=(g+i*4294967296+t*72057594037927936,0)
  have e:pk hws [g,i,t] 3=0+2 ^ 0*g.toNat+2 ^ 32*i.toNat+2 ^ 56*t.toNat:=rfl;rw[e]
  congr 1
  omega
 ·unfold Jv;simp only[decide_eq_true_eq];intro k hk;have hk3:k<3:=hk;unfold U4;simp only[decide_eq_true_eq]
  match k,hk3 with
  | 0,_=>show g.toNat<2 ^ 32;omega
  | 1,_=>show i.toNat<2 ^ 24;omega
  | 2,_=>show t.toNat<2 ^ 8;omega
theorem Zdd{w:Int}(h0:0≤w)(h1:w<18446744073709551616):Tt hws w=([(Zoy w).g,(Zoy w).i,(Zoy w).t],0):=by
 unfold Tt;rw[if_pos (Xq.2 Zs8),if_pos]
 ·have e:unp hws w 3=[Qt w 0 32,Qt w 32 24,Qt w 56 8]:=rfl;show(unp hws w 3,(0:Int))=_
  rw[e];obtain⟨n,rfl⟩:=Int.eq_ofNat_of_zero_le h0;unfold Qt Zw9 Zoy;have a1:n / 2 ^ (0:Int).toNat % 2 ^ (32:Int).toNat=n % 4294967296:=by show n / 1 % 4294967296=_;rw[Nat.div_one]
  have a2:n / 2 ^ (32:Int).toNat % 2 ^ (24:Int).toNat=n / 4294967296 % 16777216:=rfl;have a3:n / 2 ^ (56:Int).toNat % 2 ^ (8:Int).toNat=n / 72057594037927936:=by
   show n / 72057594037927936 % 256=_
   omega
  rw[Zy4,a1,a2,a3];simp
 ·unfold U4;simp only[decide_eq_true_eq];show w.toNat<2 ^ 64
  exact Ztp h0 h1
structure Z1(w:World)(b g:Nat)(bs:List Bool):Prop where
 ex:∃a cap,w.cell? b=some (.slice a (Xr bs.length) cap)∧At .u64 w a (wds bs)∧Xr bs.length≤cap∧cap≤maxLen∧(0<bs.length→a=some ⟨g,0,none⟩∧∀o,w.frozen? ⟨g,o,none⟩=false)
 many:w.cell? ⟨b,1,none⟩=some (.int .i64 bs.length)
 made:w.cell? ⟨b,2,none⟩=some (.bool true)
 most:bs.length≤65536
def tch(g:Nat)(bs:List Bool)(k:Nat):Prop:=0<bs.length∧k=g
theorem Sl{n:Nat}(h:0<n):0<Xr n:=by unfold Xr;omega
theorem Z1.lt{w:World}{b g:Nat}{bs:List Bool}(h:Z1 w b g bs):b<w.heap.size:=Zj h.many
theorem Z1.glt{w:World}{b g:Nat}{bs:List Bool}(h:Z1 w b g bs)(hb:0<bs.length):g<w.heap.size:=by
 obtain⟨a,cap,_,hA,_,_,hg⟩:=h.ex;obtain⟨x,o,e,hc⟩:=hA 0 (by rw[U7];exact Sl hb);rw[(hg hb).1] at e;cases e;exact Zj hc
theorem Z1.apart{w:World}{b g:Nat}{bs:List Bool}(h:Z1 w b g bs)(hb:0<bs.length):g≠b:=by
 obtain⟨a,cap,h0,hA,_,_,hg⟩:=h.ex;obtain⟨x,o,e,hc⟩:=hA 0 (by rw[U7];exact Sl hb);rw[(hg hb).1] at e;cases e;rintro rfl;rw[h0] at hc;cases hc
theorem Z1.chg{P:Nat→Prop}{w w':World}{b g:Nat}{bs:List Bool}(h:Z1 w b g bs)(hx:Chg P w w')(hb:¬P b)(hg:0<bs.length→¬P g):Z1 w' b g bs:=by
 obtain⟨a,cap,h0,hA,h1,h2,h3⟩:=h.ex;refine⟨⟨a,cap,hx.cell hb h0,hA.chg hx fun b' o e hl=>?_,h1,h2,fun hp=>⟨(h3 hp).1,fun o=>?_⟩⟩,hx.cell hb h.many,hx.cell hb h.made,h.most⟩
 ·have hp:0<bs.length:=by rw[U7] at hl;unfold Xr at hl;omega
  rw[(h3 hp).1] at e;cases e;exact hg hp
 ·rw[hx.frozen (p:=⟨g,o,none⟩) (h.glt hp) (hg hp)];exact(h3 hp).2 o
theorem Z1.ext{w w':World}{b g:Nat}{bs:List Bool}(h:Z1 w b g bs)(hx:Ext w w'):Z1 w' b g bs:=h.chg (P:=fun _=>False) (Zy3 hx) (fun a=>a) (fun _ a=>a)
theorem Z1.word{w:World}{b g:Nat}{bs:List Bool}(h:Z1 w b g bs)(hb:0<bs.length):∀k,k<Xr bs.length→w.cell? ⟨g,k,none⟩=some (.int .u64 ((wd bs k:Nat):Int)):=by
 obtain⟨a,cap,_,hA,_,_,hg⟩:=h.ex;intro k hk;obtain⟨x,o,e,hc⟩:=hA k (by rw[U7];exact hk);rw[(hg hb).1] at e;cases e;rw[Nat.zero_add] at hc;rw[hc,Zk2 hk]
theorem Z1.setWord{w:World}{b g k:Nat}{bs bs':List Bool}{v:Int}(h:Z1 w b g bs)(hp:0<bs.length)(hl:bs'.length=bs.length)(hk:k<Xr bs.length)(hs:wds bs'=(wds bs).set k v):Z1 (w.setCell ⟨g,k,none⟩ (.int .u64 v)) b g bs':=by
 have hgb:=h.apart hp;obtain⟨a,cap,h0,hA,h1,h2,h3⟩:=h.ex;obtain⟨rfl,hf⟩:=h3 hp;have far:∀o u,w.cell? ⟨b,o,none⟩=some u→(w.setCell ⟨g,k,none⟩ (.int .u64 v)).cell? ⟨b,o,none⟩=some u:=fun o u hc=>by
  rw[cell_far _ _ _ _ (by exact hgb)];exact hc
 refine⟨⟨some ⟨g,0,none⟩,cap,by rw[hl];exact far _ _ h0,by rw[hs];exact hA.set (by rw[U7];exact hk) v,by rw[hl];exact h1,h2,fun _=>⟨rfl,fun o=>by simpa using hf o⟩⟩,by rw[hl];exact far _ _ h.many,far _ _ h.made,by rw[hl];exact h.most⟩
theorem Z1.drew{w:World}{b g:Nat}{bs:List Bool}(h:Z1 w b g bs):Z1 w.drew b g bs:=h.ext (Zy2 w).drew
theorem Chg.word{w:World}{g k:Nat}{bs:List Bool}(hp:0<bs.length)(v:Value):Chg (tch g bs) w (w.setCell ⟨g,k,none⟩ v):=(Chg.refl _ w).setCell (.inl ⟨hp,rfl⟩) v
def Zs9(w:World)(p:Option Addr)(m:Bool):Prop:=(p=none∧m=true)∨∃b,p=some ⟨b,0,none⟩∧w.cell? ⟨b,2,none⟩=some (.bool (!m))
theorem Z1.isNone{w:World}{b g:Nat}{bs:List Bool}(h:Z1 w b g bs):Zs9 w (some ⟨b,0,.none⟩) false:=.inr ⟨b,rfl,h.made⟩
theorem Sm{p:Option Addr}(m:Bool){w:World}(h:Zs9 w p m):Calls prog 155 #[.pointer p] w fun e w'=>e=.returned (.bool m)∧w=w':=by
 rcases h with ⟨rfl,rfl⟩|⟨b,rfl,hc⟩
 ·go_enter func155,ntmps155;go_wp2;go_ret;exact⟨rfl,rfl⟩
 ·cases m
  ·replace hc:w.cell? ⟨b,2,.none⟩=some (.bool true):=hc;go_enter func155,ntmps155;go_wp2;go_ret;exact⟨rfl,rfl⟩
  ·replace hc:w.cell? ⟨b,2,.none⟩=some (.bool false):=hc;go_enter func155,ntmps155;go_wp2;go_ret;exact⟨rfl,rfl⟩
theorem Cf{b g:Nat}(bs:List Bool){w:World}(h:Z1 w b g bs):Calls prog 114 #[.pointer (some ⟨b,0,none⟩)] w fun e w'=>e=.returned (.int .i64 bs.length)∧w=w':=by
 have hm:=h.many;go_enter func114,ntmps114;go_wp2_with fail;refine(Sm false h.isNone).zz ?_;go_wp2;go_ret;exact⟨rfl,rfl⟩
theorem Xp{b g:Nat}{i:Int}(bs:List Bool)(r:Bool){w:World}(h:Z1 w b g bs)(hr:decide (0≤i∧i<bs.length)=r):Calls prog 80 #[.pointer (some ⟨b,0,none⟩),.int .i64 i] w fun e w'=>e=.returned (.bool r)∧w=w':=by
 have HR:=Za hr;clear hr;by_cases hi:i<0
 ·go_enter func80,ntmps80;go_wp2;go_ret;exact⟨Yg (by rw[←HR.out,Zyx];omega),rfl⟩
 ·have hi0:0≤i:=by omega
  go_enter func80,ntmps80;go_wp2_with fail;refine(Cf bs h).zz ?_;go_wp2;go_ret;exact⟨Yg (by rw[←HR.out,Bool.eq_iff_iff];simp[hi0]),rfl⟩
theorem Zv2{x i:Nat}(hx:x<18446744073709551616):((bits .and .u64 ((x:Int) / 2 ^ i) 1==1):Bool)=x.testBit i:=by
 have e1:((x:Int) / 2 ^ i)=((x / 2 ^ i:Nat):Int):=by simp
 rw[e1,show(1:Int)=((1:Nat):Int) from rfl,u64_and_nat _ _ (Nat.lt_of_le_of_lt (Nat.div_le_self _ _) hx) (by decide),Nat.testBit,Nat.shiftRight_eq_div_pow,Nat.and_comm 1,Nat.and_one_is_mod];rcases Nat.mod_two_eq_zero_or_one (x / 2 ^ i) with e|e<;>rw[e]<;>rfl
def Zpq(bs:List Bool)(i:Int):Bool:=decide (0≤i)&&Zu bs i.toNat
def Zla(bs:List Bool)(i:Int)(is:Bool):List Bool × Int:=if 0≤i∧i<bs.length then (bs.set i.toNat is,0) else (bs,2)
theorem Zt5{bs:List Bool}{i:Int}(h:¬(0≤i∧i<bs.length)):Zpq bs i=false:=by
 unfold Zpq;by_cases h0:0≤i
 ·rw[Un (by omega)];simp
 ·simp[h0]
theorem Tj(bs:List Bool)(i:Nat):Zpq bs i=Zu bs i:=by unfold Zpq;simp
theorem Vt{bs:List Bool}{i:Nat}{is:Bool}(h:i<bs.length):Zla bs i is=(bs.set i is,0):=by unfold Zla;rw[if_pos (by omega),Zy4]
theorem Zpr{bs:List Bool}{i:Int}{is:Bool}(h:¬(0≤i∧i<bs.length)):Zla bs i is=(bs,2):=by unfold Zla;rw[if_neg h]
theorem Cg{b g:Nat}{i:Int}(bs:List Bool)(r:Bool){w:World}(h:Z1 w b g bs)(hr:Zpq bs i=r):Calls prog 49 #[b,.int .i64 i] w fun e w'=>e=.returned (.bool r)∧w=w':=by
 have HR:=Za hr;clear hr;by_cases hi:0≤i∧i<bs.length
 ·have D:=Za (show decide (0≤i∧i<bs.length)=true from Zyy hi);obtain⟨n,rfl⟩:=Int.eq_ofNat_of_zero_le hi.1;have hn:n<bs.length:=by omega
  have h65:=h.most;have hw:=h.word (by omega) (n / 64) (by unfold Xr;omega);obtain⟨a,cap,h0,hA,h1,h2,hg⟩:=h.ex;obtain⟨rfl,_⟩:=hg (by omega);have hwl:n / 64<Xr bs.length:=by unfold Xr;omega
  have H:=Za h;clear hA hi h hg;go_enter func49,ntmps49;go_wp2_with fail;refine(Xp bs true H.out D.out).zz ?_;go_wp2;go_ret;exact⟨Yg (by rw[←HR.out,Tj,Zv2 (Dx _ _),Zaf _ _ _ (by omega)];congr 1;omega),rfl⟩
 ·have D:=Za (show decide (0≤i∧i<bs.length)=false from Zyx hi);have HN:=Za (Zt5 hi);clear hi;go_enter func49,ntmps49;go_wp2_with fail;refine(Xp bs false h D.out).zz ?_;go_wp2;go_ret;exact⟨Yg (by rw[←HR.out,HN.out]),rfl⟩
theorem Ch(n:Nat):IntKind.u64.wrap (2 ^ (n % 64))=((2 ^ (n % 64):Nat):Int):=by
 have hp:2 ^ (n % 64)<2 ^ 64:=Nat.pow_lt_pow_right (by decide) (by omega);have e:(2:Nat) ^ 64=18446744073709551616:=by decide
 rw[IntKind.wrap_u64,show((2:Int) ^ (n % 64))=((2 ^ (n % 64):Nat):Int) by simp];exact Int.emod_eq_of_lt (Int.natCast_nonneg _) (by omega)
theorem Zlb(n:Nat):2 ^ (n % 64)<18446744073709551616:=show 2 ^ (n % 64)<2 ^ 64 from Nat.pow_lt_pow_right (by decide) (by omega)
theorem Zps{bs:List Bool}{n:Nat}(h:n<bs.length):bits .or .u64 ((wd bs (n / 64):Nat):Int) (IntKind.u64.wrap (2 ^ (n % 64)))=((wd (bs.set n true) (n / 64):Nat):Int):=by
 rw[Ch,u64_or_nat _ _ (Dx _ _) (Zlb n),Zda h]
theorem Zlc{bs:List Bool}{n:Nat}(h:n<bs.length):bits .andNot .u64 ((wd bs (n / 64):Nat):Int) (IntKind.u64.wrap (2 ^ (n % 64)))=((wd (bs.set n false) (n / 64):Nat):Int):=by
 rw[Ch,u64_andNot_nat _ _ (Dx _ _) (Zlb n),Zag h,show 18446744073709551616-(2 ^ (n % 64)+1)=18446744073709551615-2 ^ (n % 64) by omega]
def Zt6(b g:Nat)(bs bs':List Bool)(q:Int)(w:World)(e:Ending)(w':World):Prop:=e=.returned (.int .i64 q)∧Z1 w' b g bs'∧Chg (tch g bs) w w'
theorem Pb{b g:Nat}{i:Int}{is:Bool}(bs bs':List Bool)(q:Int){w:World}(h:Z1 w b g bs)(hr:Zla bs i is=(bs',q)) :
  Calls prog 272 #[b,.int .i64 i,is] w (Zt6 b g bs bs' q w):=by
 by_cases hi:0≤i∧i<bs.length
 ·have D:=Za (show decide (0≤i∧i<bs.length)=true from Zyy hi);obtain⟨n,rfl⟩:=Int.eq_ofNat_of_zero_le hi.1;have hn:n<bs.length:=by omega
  rw[Vt hn] at hr;cases hr;have h65:=h.most;have hw:=h.word (by omega) (n / 64) (by unfold Xr;omega);obtain⟨a,cap,h0,hA,h1,h2,hg⟩:=h.ex;obtain⟨rfl,hf⟩:=hg (by omega);have hfz:=hf (n / 64);have hwl:n / 64<Xr bs.length:=by unfold Xr;omega
  have hwi:((n:Int) / 64)<((Xr bs.length:Nat):Int):=by omega
  have H:=Za h;clear hA hi h hg hf;cases is
  ·have SW:=Za (Zlc hn);have HS:=Za (Zk3 (b:=false) hn);go_enter func272,ntmps272;go_wp2_with fail;refine(Sm false H.out.isNone).zz ?_;go_wp2_with fail;refine(Xp bs true H.out D.out).zz ?_;go_wp2_with fail;go_wp2_with fail
   go_region
   go_wp2;go_ret;rw[SW.out];exact⟨rfl,(H.out.setWord (by omega) (by simp) hwl HS.out).drew,(Chg.word (by omega) _).drew⟩
  ·have SW:=Za (Zps hn);have HS:=Za (Zk3 (b:=true) hn);go_enter func272,ntmps272;go_wp2_with fail;refine(Sm false H.out.isNone).zz ?_;go_wp2_with fail;refine(Xp bs true H.out D.out).zz ?_;go_wp2_with fail;go_wp2_with fail
   go_region
   go_wp2;go_ret;rw[SW.out];exact⟨rfl,(H.out.setWord (by omega) (by simp) hwl HS.out).drew,(Chg.word (by omega) _).drew⟩
 ·have D:=Za (show decide (0≤i∧i<bs.length)=false from Zyx hi);rw[Zpr hi] at hr;cases hr;clear hi;have H:=Za h;clear h;go_enter func272,ntmps272;go_wp2_with fail;refine(Sm false H.out.isNone).zz ?_;go_wp2_with fail;refine(Xp bs false H.out D.out).zz ?_;go_wp2;go_ret;exact⟨rfl,H.out,Chg.refl _ _⟩
theorem Im{z:Value}{n i:Nat}(h:i<n):(madeCells #[z] n)[i]?=some z:=by
 have e:=toList_madeCells_one z n;rw[←Array.getElem?_toList,e];simp[h]
def Zt7(n:Nat)(w:World)(e:Ending)(w':World):Prop:=
 ∃b g,e=.returned (.tuple #[.pointer (some ⟨b,0,none⟩),(0:Int)])∧Z1 w' b g (List.replicate n false)∧w.heap.size≤b∧(0<n→w.heap.size≤g)∧Ext w w'
theorem Zfm(n k:Nat)(h:k<Xr n):nth (wds (List.replicate n false)) k=0:=by
 rw[Zk2 (by simpa using h),Zt1 fun j _=>Uv n _];rfl
theorem Z1.newZero{w:World}{n:Nat}{t u:TypeId}(h:n≤65536):Z1 ((w.alloc (.cells (madeCells #[.int .u64 0] (Xr n)) t)).alloc (.cells #[.slice (some ⟨w.heap.size,0,none⟩) (Xr n) (Xr n),.int .i64 n,true] u)) (w.heap.size+1) w.heap.size (List.replicate n false):=by
 have c:=fun i=>Zg (w.alloc (.cells (madeCells #[.int .u64 0] (Xr n)) t)) #[.slice (some ⟨w.heap.size,0,none⟩) (Xr n) (Xr n),.int .i64 n,true] u i
 simp only[World.size_alloc] at c;refine⟨⟨some ⟨w.heap.size,0,none⟩,Xr n,?_,?_,?_,?_,fun _=>⟨rfl,fun o=>?_⟩⟩,?_,?_,?_⟩
 ·rw[c 0];simp
 ·refine At.mk fun i hi=>?_
  rw[U7,Zza] at hi;rw[Nat.zero_add,Zfm n i hi];exact((Zy2 _).alloc _).cell (by rw[Zg,Im hi])
 ·simp
 ·unfold Xr maxLen;omega
 ·rw[((Zy2 _).alloc _).frozen (by simp)];simp
 ·rw[c 1];simp
 ·rw[c 2];simp
 ·simpa using h
theorem Zhq(n:Nat)(h:n≤65536):∀W:World,(Instr.makeSlice 72 (.int .i64 (((n:Int)+64-1) / 64)) (.int .i64 (((n:Int)+64-1) / 64))).run prog W=.ok (.slice (some ⟨W.heap.size,0,none⟩) (Xr n) (Xr n)) (W.alloc (.cells (madeCells #[.int .u64 0] (Xr n)) 34)):=by
 intro W;have e:((n:Int)+64-1) / 64=((Xr n:Nat):Int):=by unfold Xr;omega
 rw[e];exact run_make_row' 72 34 (.int .u64 0) 8 underlying72 Jd rfl .i64 .i64 (Xr n) (by unfold Xr;omega) (by unfold Xr;omega) W
theorem N7(n:Nat){w:World}(h:n≤65536):Calls prog 179 #[.int .i64 n] w (Zt7 n w):=by
 have hmk:=Zhq n h;have t0:decide ((n:Int)<0)=false:=by simp
 have t1:decide ((65536:Int)<(n:Int))=false:=by simp;omega
 go_enter func179,ntmps179;go_wp2;go_ret2;exact⟨w.heap.size+1,w.heap.size,rfl,Z1.newZero h,by omega,fun _=>Zy1 _,((Zy2 w).alloc _).alloc _⟩
theorem wrapN{n:Nat}(h:n<18446744073709551616):IntKind.u64.wrap (n:Int)=n:=by
 rw[IntKind.wrap_u64];exact Int.emod_eq_of_lt (Int.natCast_nonneg _) (by omega)
theorem Zhr{m n:Nat}(h:m+n<18446744073709551616):IntKind.u64.wrap ((m:Int)+(n:Int))=((m+n:Nat):Int):=by
 rw[←wrapN h];congr 1
theorem Zv3{n c:Nat}{k:Int}(h:n<18446744073709551616)(hc:c<18446744073709551616)(e:(c:Int)=k):bits .and .u64 (n:Int) k=((n &&& c:Nat):Int):=by
 rw[←e];exact u64_and_nat n c h hc
theorem Kw(x:Nat){w:World}(hx:x<18446744073709551616):Calls prog 381 #[.int .u64 x] w fun e w'=>e=.returned (.int .i64 ((Wt 64 x:Nat):Int))∧w=w':=by
 have HP:=Za (Zkz hx);have HM:=Za (Fk hx);have HX:=Za hx;clear hx;go_enter func381,ntmps381;go_wp2;go_ret;refine⟨Qr ?_,rfl⟩;have h:=HX.out;obtain⟨hm,ha,hb⟩:=HM.out;obtain⟨hs,hd,he,hf⟩:=Zyc _ _ _ _ _ _ _ _ (Xk 8 (x % 256)) (Xk 8 (x / 256 % 256)) (Xk 8 (x / 65536 % 256)) (Xk 8 (x / 16777216 % 256)) (Xk 8 (x / 4294967296 % 256)) (Xk 8 (x / 1099511627776 % 256)) (Xk 8 (x / 281474976710656 % 256)) (Xk 8 (x / 72057594037927936 % 256)) _ _ _ _ rfl rfl rfl rfl;have hmm:=hm;rw[show(Vs x).map (fun b=>Wt 8 b)=[Wt 8 (x % 256),Wt 8 (x / 256 % 256),Wt 8 (x / 65536 % 256),Wt 8 (x / 16777216 % 256),Wt 8 (x / 4294967296 % 256),Wt 8 (x / 1099511627776 % 256),Wt 8 (x / 281474976710656 % 256),Wt 8 (x / 72057594037927936 % 256)] from rfl] at hmm;rw[←hmm] at hs hd he hf;rw[←Fj] at hs;have q:∀(n d:Nat),((n:Int) / (d:Int))=((n / d:Nat):Int):=fun n d=>(Int.natCast_ediv n d).symm
 have q2:((x:Int) / 2)=((x / 2:Nat):Int):=q x 2;rw[q2,Zv3 (n:=x / 2) (by omega) (c:=6148914691236517205) (k:=6148914691236517205) (by decide) rfl,Zv3 (n:=x) h (c:=6148914691236517205) (k:=6148914691236517205) (by decide) rfl,Zhr ha]
 generalize (x / 2 &&& 6148914691236517205)+(x &&& 6148914691236517205)=a at *
 rw[show((a:Int) / 4)=((a / 4:Nat):Int) from q a 4,Zv3 (n:=a / 4) (by omega) (c:=3689348814741910323) (k:=3689348814741910323) (by decide) rfl,Zv3 (n:=a) ha (c:=3689348814741910323) (k:=3689348814741910323) (by decide) rfl,Zhr (by omega)]
 generalize (a / 4 &&& 3689348814741910323)+(a &&& 3689348814741910323)=b at *
 rw[show((b:Int) / 16)=((b / 16:Nat):Int) from q b 16,Zhr (by omega),Zv3 (n:=b / 16+b) (by omega) (c:=1085102592571150095) (k:=1085102592571150095) (by decide) rfl]
 generalize ((b / 16+b) &&& 1085102592571150095)=c at *
 rw[show((c:Int) / 256)=((c / 256:Nat):Int) from q c 256,Zhr hd]
 generalize c+c / 256=d at *
 rw[show((d:Int) / 65536)=((d / 65536:Nat):Int) from q d 65536,Zhr he]
 generalize d+d / 65536=e at *
 rw[show((e:Int) / 4294967296)=((e / 4294967296:Nat):Int) from q e 4294967296,Zhr (by omega)]
 generalize e+e / 4294967296=f at *
 have hp:Wt 64 x≤64:=Xk 64 x;rw[IntWalk.wrap64_in _ (by omega),i64_and127,show((f:Int) % 128)=((f % 128:Nat):Int) from (Int.natCast_emod f 128).symm,hs]
theorem Zam{b g:Nat}(bs:List Bool)(c:Nat){w:World}(h:Z1 w b g bs)(hc:Dz bs bs.length=c):Calls prog 363 #[b] w fun e w'=>e=.returned (.int .i64 c)∧w=w':=by
 have HC:=Za hc;clear hc;have h65:=h.most;obtain⟨a,cap,h0,hA,h1,h2,hg⟩:=h.ex;have Rc:=h.word;have HW:=Za Rc;have HG:=Za hg;have HN:=Za h.isNone;have hwl:Xr bs.length≤1024:=by unfold Xr;omega
 clear h hA Rc hg;unfold maxLen at h2;go_enter func363,ntmps363;go_wp2_with fail;refine(Sm false HN.out).zz ?_;go_wp2_with fail
 go_loop [3,14] (fun n k=>∃j:Nat,j≤Xr bs.length∧n=.int .i64 ((Dz bs (64*j):Nat):Int)∧k=.int .i64 j) (fun _ k=>Xr bs.length-(intOf k).toNat)
 case atStart=>exact⟨0,Nat.zero_le _,rfl,rfl⟩
 case round=>
  obtain⟨j,hj,rfl,rfl⟩:=hrel;by_cases hlt:j<Xr bs.length
  ·have hp:0<bs.length:=by unfold Xr at hlt;omega
   have hw:=HW.out hp j hlt;obtain⟨rfl,_⟩:=HG.out hp;have hcn:=Zk4 bs (64*j);have hpn:=Xk 64 (wd bs j);have HB:=Za (Zk5 bs j);have HL:=Za (Dx bs j)
   generalize wd bs j=x at *
   obtain⟨cb,hcb⟩:=Zb (Dz bs (64*j));obtain⟨cp,hcp⟩:=Zb (Wt 64 x);have HCP:=Za hcp;rw[hcb,hcp] at HB;rw[hcb] at hcn;rw[hcp] at hpn;rw[hcb];clear hcb hcp;go_wp2_with fail;refine(Kw x HL.out).mono ?_;rw[HCP.out];rintro e w1 ⟨rfl,rfl⟩;go_wp2_with fail
   go_round
   case rel=>exact⟨j+1,by omega,by rw[←HB.out];go_num,by go_num⟩
   case measure=>simp[intOf];omega
  ·obtain rfl:j=Xr bs.length:=by omega
   rw[Zpp bs,HC.out];go_wp2;go_ret;exact⟨rfl,rfl⟩
def Zld(b g:Nat)(bs:List Bool)(w:World)(e:Ending)(w':World):Prop:=(∃v,e=.returned v)∧Z1 w' b g (List.replicate bs.length false)∧Chg (tch g bs) w w'
theorem Z1.zeroed{w:World}{b g:Nat}{bs:List Bool}(h:Z1 w b g bs)(hp:0<bs.length):Z1 (w.setCells g 0 (List.replicate (Xr bs.length) (.int .u64 0))) b g (List.replicate bs.length false):=by
 have hgb:=h.apart hp;have Rc:=h.word hp;obtain⟨a,cap,h0,hA,h1,h2,h3⟩:=h.ex;obtain⟨rfl,hf⟩:=h3 hp;have far:∀o u,w.cell? ⟨b,o,none⟩=some u→(w.setCells g 0 (List.replicate (Xr bs.length) (.int .u64 0))).cell? ⟨b,o,none⟩=some u:=fun o u hc=>by
  rw[World.cell?_setCells_out g _ 0 w ⟨b,o,none⟩ (fun e=>absurd e.symm hgb)];exact hc
 refine⟨⟨some ⟨g,0,none⟩,cap,by rw[Zza];exact far _ _ h0,At.mk fun i hi=>?_,by rw[Zza];exact h1,h2,fun _=>⟨rfl,fun o=>by rw[World.frozen?_setCells];exact hf o⟩⟩,by rw[Zza];exact far _ _ h.many,far _ _ h.made,by rw[Zza];exact h.most⟩;rw[U7,Zza] at hi;have hin:=World.cell?_setCells_in g (List.replicate (Xr bs.length) (.int .u64 0)) 0 w (fun j hj=>by rw[Zza] at hj;rw[Nat.zero_add,Rc j hj];rfl) i (by simpa using hi);rw[hin,Zfm _ _ hi];simp
theorem In{b g:Nat}(bs:List Bool){w:World}(h:Z1 w b g bs):Calls prog 386 #[b] w (Zld b g bs w):=by
 have H:=Za h;have Rc:=h.word;obtain⟨a,cap,h0,hA,h1,h2,hg⟩:=h.ex;rcases Nat.eq_zero_or_pos bs.length with hz|hp
 ·obtain rfl:=List.length_eq_zero_iff.1 hz;have hcl:∀ty,(Builtin.clear_ #[72] ty #[.slice a 0 cap]).run prog w=.ok (.tuple #[]) w:=fun ty=>by
   cases a<;>simp[Builtin.clear_,run_underlying underlying72]
  replace h0:w.cell? ⟨b,0,.none⟩=some (.slice a 0 cap):=h0;clear h hA Rc hg;go_enter func386,ntmps386;go_wp2_with fail;refine(Sm false H.out.isNone).zz ?_;go_wp2
  go_end0
  exact⟨⟨_,rfl⟩,H.out,Chg.refl _ _⟩
 ·obtain⟨rfl,hf⟩:=hg hp;have hv:∀w,(zeroValue 34).run prog w=.ok (.int .u64 0) w:=fun w=>by kernel_rfl
  have hcl:∀ty,(Builtin.clear_ #[72] ty #[.slice (some ⟨g,0,none⟩) (Xr bs.length) cap]).run prog w=.ok (.tuple #[]) (w.setCells g 0 (List.replicate (Xr bs.length) (.int .u64 0))):=fun ty=>
   Lib.run_clear_slice w _ 34 ty (.int .u64 0) underlying72 hv rfl rfl g 0 (Xr bs.length) cap (Sl hp) (fun j hj=>by rw[Nat.zero_add,Rc hp j hj];rfl) (fun j _=>hf _)
  clear h hA Rc hg hf hv;go_enter func386,ntmps386;go_wp2_with fail;refine(Sm false H.out.isNone).zz ?_;go_wp2
  go_end0
  exact⟨⟨_,rfl⟩,H.out.zeroed hp,Chg.setCells _ _ (Chg.refl _ _) ⟨hp,rfl⟩⟩
def Zfn(bs:List Bool)(w:World)(e:Ending)(w':World):Prop:=∃b g,e=.returned (.pointer (some ⟨b,0,none⟩))∧Z1 w' b g bs∧w.heap.size≤b∧(0<bs.length→w.heap.size≤g)∧Ext w w'
theorem Z1.newFrom{w W:World}{a:Option Addr}{cap n k:Nat}{bs:List Bool}{u:TypeId}(hn:Yj .u64 w W a cap (wds bs))(hl:bs.length≤65536)(hk:bs.length=k)(hw:Xr bs.length=n) :
  ∃g,Z1 (W.alloc (.cells #[.slice a n cap,.int .i64 k,true] u)) W.heap.size g bs∧(0<bs.length→w.heap.size≤g):=by
 subst hk hw;have c:=fun i=>Zg W #[.slice a (Xr bs.length) cap,.int .i64 bs.length,true] u i
 have hx:Ext W (W.alloc (.cells #[.slice a (Xr bs.length) cap,.int .i64 bs.length,true] u)):=(Zy2 W).alloc _;have c1:=hn.cap1;rw[U7] at c1;rcases Nat.eq_zero_or_pos bs.length with hz|hp
 ·exact⟨0,⟨⟨a,cap,c 0,hn.row.ext hx,c1,hn.cap2,fun h=>absurd h (by omega)⟩,c 1,c 2,hl⟩,fun h=>absurd h (by omega)⟩
 ·obtain⟨g,rfl,g1,g2,g3⟩:=hn.own (by rw[U7];exact Sl hp);exact⟨g,⟨⟨_,cap,c 0,hn.row.ext hx,c1,hn.cap2,fun _=>⟨rfl,fun o=>by rw[hx.frozen (p:=⟨g,o,none⟩) g2];exact g3 o⟩⟩,c 1,c 2,hl⟩,fun _=>g1⟩
theorem Ci{b g:Nat}(bs:List Bool){w:World}(h:Z1 w b g bs):Calls prog 219 #[.pointer (some ⟨b,0,none⟩)] w (Zfn bs w):=by
 obtain⟨a,cap,h0,hA,h1,h2,_⟩:=h.ex;have hm:=h.many;have hb:(wds bs).length*8≤140737488355328:=by rw[U7];have:=h.most;unfold Xr;omega
 have HA:=Za hA;have HB:=Za hb;have HN:=Za h.isNone;have L:=Za (U7 bs);have HM:=Za h.most;have n0:=World.new_ne w _ h0;clear h hA hb;rw[←L.out] at h0;go_enter func219,ntmps219;go_wp2_with fail;refine(Sm false HN.out).zz ?_;go_wp2_with fail
 go_region_held3 (fun w'=>w'.cell? b=some (.slice a (wds bs).length cap)∧w'.cell? ⟨b,1,none⟩=some (.int .i64 bs.length))
  ((first|go_keep|(go_split_ands;exact⟨hE.cell (by assumption),hE.cell (by assumption)⟩)))
  ((go_at_call 176;refine(O9 (wds bs) ?_ HB.out).mono ?_;(first|exact HA.out|exact HA.out.ext ((Zy2 _).drew)|exact HA.out.ext ((Zy2 _).drewN _)|fail);rintro e w1 ⟨a1,c1,rfl,hn1,hE⟩))
 all_goals
  have hz:w.heap.size≤w1.heap.size:=hE.size;obtain⟨g1,hr,hg⟩:=Z1.newFrom (u:=180) hn1 HM.out rfl L.out.symm;go_wp2;go_ret;exact⟨_,g1,rfl,hr,hz,hg,(((Zy2 w).drew).trans hE).alloc _⟩
theorem Zys{P:Program}{g:Nat}{args:Array Value}{w:World}{v:Ending}(h:Calls P g args w fun e w'=>e=v∧w=w'):Calls P g args w fun e w'=>e=v∧w'=w:=
 h.mono fun _ _ ⟨a,b⟩=>⟨a,b.symm⟩
section
open Go.RowKit Go.Shelf
attribute [local go_sem] Oper.semAt_some
def Tab(w:World):Prop:=∀j,j<64→w.cell? ⟨2,j,none⟩=some (.int .u8 ((Lib.deBruijn64tab.getD j 0:Nat):Int))
theorem Tab.ext{w w':World}(h:Tab w)(hx:Ext w w'):Tab w':=fun j hj=>hx.cell (h j hj)
theorem Zv4(x a:Nat)(hx:x<18446744073709551616)(hx0:x≠0)(hlow:x &&& (18446744073709551616-x)=a) :
  IntKind.u64.wrap (bits BinOp.and IntKind.u64 (x:Int) (IntKind.u64.wrap (-(x:Int)))*285870213051353865) / 288230376151711744=((a*285870213051353865 % 18446744073709551616 / 288230376151711744:Nat):Int):=by
 have e1:IntKind.u64.wrap (-(x:Int))=((18446744073709551616-x:Nat):Int):=by rw[IntKind.wrap_u64];omega
 rw[e1,u64_and_nat x _ hx (by omega),hlow,IntKind.wrap_u64];omega
theorem Zt8(x k idx:Nat){w:World}(hx0:((x:Int)==0)=false)
  (key:IntKind.u64.wrap (bits BinOp.and IntKind.u64 (x:Int) (IntKind.u64.wrap (-(x:Int)))*285870213051353865) / 288230376151711744=(idx:Int))
  (hi:idx<64) (hk:k<64) (hcell:w.cell? ⟨2,idx,none⟩=some (.int .u8 k)) :
  Calls prog 351 #[.int .u64 x] w fun e w'=>e=.returned (.int .i64 k)∧w=w':=by
 go_enter func351,ntmps351
 go_wp2_with (simp only[key])
 go_ret;exact⟨rfl,rfl⟩
theorem Pc(x:Nat){w:World}(hx:x<18446744073709551616)(hx0:x≠0)(hT:Tab w) :
  Calls prog 351 #[.int .u64 x] w fun e w'=>e=.returned (.int .i64 ((Lib.ctz 64 x:Nat):Int))∧w=w':=by
 obtain⟨hlow,hk⟩:=Lib.lowest_bit 64 x hx0 hx;obtain⟨hi,htab⟩:=Lib.deBruijn64_at _ hk;have hcell:=hT _ hi;rw[htab] at hcell;exact Zt8 x _ _ (by simp;omega) (Zv4 x _ hx hx0 hlow) hi hk hcell
theorem Ji(p:Option Addr)(i t:Int){w:World} :
  Calls prog 350 #[.pointer p,.int .i64 i,.int .u64 t] w fun e w'=>e=.returned (.func (.func 374) #[] #[.pointer (some ⟨w.heap.size+1,0,none⟩),w.heap.size,.pointer (some ⟨w.heap.size+1+1,0,none⟩)]) ∧
   w'=((w.alloc (.cells #[.pointer p] 129)).alloc (.cells #[.int .i64 i] 3)).alloc (.cells #[.int .u64 t] 34):=by
 go_enter func350,ntmps350;go_wp2;go_ret;exact⟨rfl,rfl⟩
end
def wf(bs:List Bool)(is:Bool)(i k:Nat):Nat:=Zk0 (fun j=>(Zu bs (64*k+j)==is)&&decide (i≤64*k+j)) 64
def Uw(is:Bool):Nat:=if is then 0 else 18446744073709551615
def Ui(i k:Nat):Nat:=if k=i / 64 then 2 ^ (i % 64)-1 else 0
theorem Zv5(bs:List Bool)(is:Bool)(i k:Nat):wf bs is i k<18446744073709551616:=Ih _ 64
theorem Zle(bs:List Bool)(is:Bool)(i k j:Nat)(hj:j<64):(wf bs is i k).testBit j=((Zu bs (64*k+j)==is)&&decide (i≤64*k+j)):=by
 unfold wf;rw[Jh];simp[hj]
theorem Zlf(is:Bool):Uw is<18446744073709551616:=by cases is<;>decide
theorem Zfo(i k:Nat):Ui i k<18446744073709551616:=by
 unfold Ui;have hp:2 ^ (i % 64)<2 ^ 64:=Nat.pow_lt_pow_right (by decide) (by omega);have e:(2:Nat) ^ 64=18446744073709551616:=by decide
 split<;>omega
theorem Zpt(j:Nat)(hj:j<64):(18446744073709551615:Nat).testBit j=true:=by
 have:=Nat.testBit_two_pow_sub_one 64 j;rw[show(2:Nat) ^ 64-1=18446744073709551615 by decide] at this;rw[this];simp[hj]
theorem Zt9(bs:List Bool)(is:Bool)(i k:Nat)(hk:i / 64≤k):(wd bs k ^^^ Uw is) &&& (18446744073709551615-Ui i k)=wf bs is i k:=by
 have ha:=Zfo i k;have e:(2:Nat) ^ 64=18446744073709551616:=by decide
 have e2:18446744073709551615-Ui i k=2 ^ 64-(Ui i k+1):=by omega
 refine Zk1 (n:=64) ?_ fun j hj=>?_
 ·exact Nat.lt_of_le_of_lt Nat.and_le_left (Nat.xor_lt_two_pow (n:=64) (Dx bs k) (Zlf is))
 ·rw[Nat.testBit_and,Nat.testBit_xor,Zaf _ _ _ hj,e2,Nat.testBit_two_pow_sub_succ (by exact ha)];have ht:(Uw is).testBit j=!is:=by
   cases is
   ·exact Zpt j hj
   ·exact Nat.zero_testBit j
  have hd:(Ui i k).testBit j=!decide (i≤64*k+j):=by
   unfold Ui;split
   ·subst k;rw[Nat.testBit_two_pow_sub_one,←decide_not,decide_eq_decide];omega
   ·rw[Nat.zero_testBit,Zyy (by omega)];rfl
  rw[ht,hd];simp only[hj,decide_true,Bool.true_and,Bool.not_not];cases Zu bs (64*k+j)<;>cases is<;>rfl
theorem N8{x:Nat}(hx:x<18446744073709551616)(h0:x≠0):Lib.ctz 64 x<64∧x.testBit (Lib.ctz 64 x)=true∧∀j,j<Lib.ctz 64 x→x.testBit j=false:=by
 have e:Lib.ctz 64 x=Lib.ctzFrom 64 x:=by unfold Lib.ctz;rw[if_neg h0]
 obtain⟨m,hm,hl⟩:=Lib.ctzFrom_spec 64 x (by omega) hx;rw[e]
 generalize Lib.ctzFrom 64 x=c at *
 subst hm;refine⟨hl,?_,fun j hj=>?_⟩
 ·rw[Nat.testBit_two_pow_mul];simp
 ·rw[Nat.testBit_two_pow_mul];simp;omega
def Kx(bs:List Bool)(is:Bool)(i m:Nat):Prop:=∀j:Nat,i≤j→j<m→j<bs.length→Zu bs j=!is
theorem Zta{a b:Bool}(h:(a==b)=false):a=!b:=by cases a<;>cases b<;>simp_all
theorem Kx.zero{bs:List Bool}{is:Bool}{i k:Nat}(h:Kx bs is i (64*k))(hz:wf bs is i k=0):Kx bs is i (64*(k+1)):=by
 intro j h1 h2 h3;by_cases hk:j<64*k
 ·exact h j h1 hk h3
 ·have:=Zle bs is i k (j-64*k) (by omega);rw[hz,Nat.zero_testBit,show 64*k+(j-64*k)=j by omega,Zyy h1,Bool.and_true] at this;exact Zta this.symm
theorem Kx.hit{bs:List Bool}{is:Bool}{i k:Nat}(h:Kx bs is i (64*k))(hz:wf bs is i k≠0) :
  (64*k+Lib.ctz 64 (wf bs is i k)<bs.length→Te bs i is ((64*k+Lib.ctz 64 (wf bs is i k):Nat):Int) true) ∧
  (bs.length≤64*k+Lib.ctz 64 (wf bs is i k)→Kx bs is i (64*(k+1))):=by
 obtain⟨c1,c2,c3⟩:=N8 (Zv5 bs is i k) hz
 generalize Lib.ctz 64 (wf bs is i k)=c at *
 rw[Zle _ _ _ _ _ c1,Bool.and_eq_true,decide_eq_true_eq] at c2;have low:∀j:Nat,i≤j→j<64*k+c→j<bs.length→Zu bs j=!is:=by
  intro j h1 h2 h3;by_cases hk:j<64*k
  ·exact h j h1 hk h3
  ·have:=c3 (j-64*k) (by omega);rw[Zle _ _ _ _ _ (by omega),show 64*k+(j-64*k)=j by omega,Zyy h1,Bool.and_true] at this;exact Zta this
 refine⟨fun hl=>.inl ⟨rfl,64*k+c,rfl,by omega,hl,by simpa using c2.1,fun j h1 h2=>low j (by omega) h2 (by omega)⟩,fun hl j h1 h2 h3=>low j h1 (by omega) h3⟩
theorem Kx.none{bs:List Bool}{is:Bool}{i m:Nat}(h:Kx bs is i m)(hm:bs.length≤m):Te bs i is 0 false:=
 .inr ⟨rfl,rfl,fun j h1 h2=>h j (by omega) (by omega) h2⟩
section
open Go.RowKit Go.Shelf
attribute [local go_sem] Oper.semAt_some
abbrev Zv6:={ x:Nat × Nat // x.1<1024∧x.2<18446744073709551616 }
def Pd(x:Zv6):Array Value:=#[.int .i64 (x.1.1:Int),.int .u64 (x.1.2:Int)]
def U8(bs:List Bool)(is:Bool)(i j:Nat):Zv6:=if h:i / 64+j<1024 then ⟨(i / 64+j,wf bs is i (i / 64+j)),h,Zv5 _ _ _ _⟩ else ⟨(0,0),by decide,by decide⟩
theorem Zan{bs:List Bool}{is:Bool}{i j:Nat}(h:i / 64+j<1024):(U8 bs is i j).1.1=i / 64+j:=by unfold U8;rw[dif_pos h]
theorem Zao{bs:List Bool}{is:Bool}{i j:Nat}(h:i / 64+j<1024):(U8 bs is i j).1.2=wf bs is i (i / 64+j):=by unfold U8;rw[dif_pos h]
theorem Zpu(n:Nat)(hn:1≤n)(l n₀ Bi Br Bt b g i:Nat)(bs:List Bool)(is:Bool)(hi:i<bs.length)(hBi:Bi<n₀)(hBr:Br<n₀)(hBt:Bt<n₀)(hb:b<n₀)(hg:g<n₀)(J Jx:List Zv6→World→Prop)(hJd:∀pre W,J pre W→J pre W.drew)
  (hY:∀pre x W,J pre W→pre.length<Xr bs.length-i / 64→YieldAt Fence.wide (n-1) prog l (Pd x) W fun e W'=>
   (e=.returned (.bool true)∧J (pre++[x]) W'∧Below n₀ W W')∨(e=.returned (.bool false)∧Jx (pre++[x]) W'))
  (W:World) (ci:W.cell? Bi=some (.int .i64 i)) (cr:W.cell? Br=some (b:Value)) (ct:W.cell? Bt=some (.int .u64 (Uw is:Nat))) (hr:Z1 W b g bs) (h0:J [] W) :
  CallsIn Fence.wide n prog 374 #[.func (.yield l) #[] #[],Bi,Br,Bt] W fun e W'=>(∃v,e=.returned v) ∧
   ((∃ys,ys=Je (U8 bs is i) (Xr bs.length-i / 64)∧J ys W')∨(∃pre,(∃k,k≤Xr bs.length-i / 64∧pre=Je (U8 bs is i) k)∧Jx pre W')):=by
 have h65:=hr.most;have hwl:Xr bs.length≤1024:=by unfold Xr;omega
 have hiw:i / 64<Xr bs.length:=by unfold Xr;omega
 have HW:=Za (hr.word (by omega));obtain⟨ra,rc,r0,_,r1,r2,rg⟩:=hr.ex;obtain⟨rfl,_⟩:=rg (by omega);have CI:=Za ci;have CR:=Za cr;have CT:=Za ct;have C0:=Za r0;have HY:=Za hY;unfold maxLen at r2;have ah0:IntKind.u64.wrap (IntKind.u64.wrap (2 ^ (i % 64))-1)=((Ui i (i / 64):Nat):Int):=by
  have hp:=Zlb i;have hp1:=Nat.two_pow_pos (i % 64);rw[Ch];unfold Ui;rw[if_pos rfl,show((2 ^ (i % 64):Nat):Int)-1=((2 ^ (i % 64)-1:Nat):Int) by omega,wrapN (by omega)]
 clear hr rg hY;refine callsIn_of_wp func374 rfl trivial ?_ rfl;simp only[ntmps374,List.size_toArray,List.length_cons,List.length_nil,Nat.reduceAdd,Nat.reduceSub,Array.replicate_succ,Array.replicate_zero,List.push_toArray,List.append_toArray,List.nil_append,List.cons_append]
 gi_wp2
 clear ci cr ct r0 ah0
 gi_loopw [5,6] (fun a k wr=>∃m:Nat,m≤Xr bs.length-i / 64∧a=.int .u64 ((Ui i (i / 64+m):Nat):Int)∧k=.int .i64 ((i / 64+m:Nat):Int)∧J (Je (U8 bs is i) m) wr∧Below n₀ W wr)
  (fun _ k _=>Xr bs.length-(intOf k).toNat)
 case atStart=>exact⟨0,Nat.zero_le _,by rw[Nat.add_zero],by simp,h0,Below.refl _ _⟩
 case round=>
  obtain⟨m,hm,rfl,rfl,hJ,hB⟩:=hrel;have ci:=(hB.cell (p:=⟨Bi,0,none⟩) hBi).trans CI.out;have cr:=(hB.cell (p:=⟨Br,0,none⟩) hBr).trans CR.out;have ct:=(hB.cell (p:=⟨Bt,0,none⟩) hBt).trans CT.out;have r0:=(hB.cell (p:=⟨b,0,none⟩) hb).trans C0.out;have HJ:=Za hJ;obtain⟨k,hk⟩:=Zb (i / 64+m);rw[hk];by_cases hlt:k<Xr bs.length
  ·have hw:=(hB.cell (p:=⟨g,k,none⟩) hg).trans (HW.out k hlt);have WC:=Za (Zt9 bs is i k (by omega));have al:=Za (Zfo i k);have wl:=Za (Dx bs k);have tl:=Za (Zlf is);have hy0:=HY.out _ (U8 bs is i m) wr.drew (hJd _ _ hJ) (by rw[Yh];omega);have ef:Pd (U8 bs is i m)=#[.int .i64 (k:Int),.int .u64 ((wf bs is i k:Nat):Int)]:=by
    unfold Pd;rw[Zan (by omega),Zao (by omega),hk]
   have code:bits .andNot .u64 (bits .xor .u64 ((wd bs k:Nat):Int) ((Uw is:Nat):Int)) ((Ui i k:Nat):Int)=((wf bs is i k:Nat):Int):=by
    rw[u64_xor_nat _ _ wl.out tl.out,u64_andNot_nat _ _ (Nat.xor_lt_two_pow (n:=64) wl.out tl.out) al.out,WC.out]
   rw[ef] at hy0
   generalize wf bs is i k=v at *
   generalize Uw is=t at *
   generalize Ui i k=ah at *
   generalize wd bs k=x at *
   obtain⟨fn,tmps,assign,body,hy,hR⟩:=hy0;have HHk:=Za hk;clear hk ef WC al wl tl hJ
   gi_wp2
   have hR2:=hR.mono (R':=fun e W'=>∃bb:Bool,e=.returned (.bool bb)∧Hid ((bb=true∧J (Je (U8 bs is i) m++[U8 bs is i m]) W'∧Below n₀ wr.drew W')∨(bb=false∧Jx (Je (U8 bs is i) m++[U8 bs is i m]) W'))) (fun e W' h=>by
    rcases h with ⟨rfl,h1,h2⟩|⟨rfl,h1⟩
    ·exact⟨true,rfl,.inl ⟨rfl,h1,h2⟩⟩
    ·exact⟨false,rfl,.inr ⟨rfl,h1⟩⟩)
   clear hR
   gi_region_with (refine hR2.mono ?_;rintro e W3 ⟨bb,rfl,hbb⟩)
   all_goals
    clear hR2 hy code;rcases hbb.out with ⟨rfl,hJ3,hk3⟩|⟨rfl,hJx3⟩
    ·have HJ3:=Za hJ3;have HK3:=Za hk3;clear hbb hJ3 hk3
     gi_wp2
     go_roundw
     case rel=>exact⟨m+1,by have:=HHk.out;omega,by
      rw[←Nat.add_assoc,HHk.out];unfold Ui;rw[if_neg (by have:=HHk.out;omega)];rfl,by rw[←Nat.add_assoc,HHk.out];go_num,by rw[J7];exact HJ3.out,hB.trans (((Below.refl _ _).drew).trans HK3.out)⟩
     case measure=>simp[intOf];omega
    ·have HX3:=Za hJx3;clear hbb hJx3
     gi_wp2
     refine bodyPost_ret (results_none rfl _ _ _) rfl ?_;exact⟨⟨_,rfl⟩,.inr ⟨_,⟨m+1,by have:=HHk.out;omega,(J7 _ _).symm⟩,HX3.out⟩⟩
  ·obtain rfl:m=Xr bs.length-i / 64:=by omega
   have hke:k=Xr bs.length:=by omega
   have HHk:=Za hk;subst hke;clear hk
   gi_wp2
   go_end0
   exact⟨⟨_,rfl⟩,.inl ⟨_,rfl,HJ.out⟩⟩
end
end Go.Proofs.YtfcldaembdedjaaGreatDoor
