/-
  Parts of the proof of TopCycles: TopN, TopO, BoxG, PlanC, Arena, Arena2, Grey, Arena3, Grey2, QuietB, Grey3, Grey4, Grey5, Law09e, Grey6, Grey7.
-/
import Derived.Test.YtfcldaembdedjaaGreatDoorQ04
import Derived.Lib.QuietBelow
import Derived.Deep.Cut
set_option linter.unusedVariables false
set_option linter.unusedSimpArgs false
set_option maxRecDepth 100000
set_option maxHeartbeats 16000000
namespace Go.Proofs.YtfcldaembdedjaaGreatDoor
open Go.RowKit Tryz
section
variable{c:Zh}{t n:Nat}{ws:List Int}{l:List Ent}{ms:List Int}
structure Clo(c:Zh)(t:Nat)(ws:List Int)(l:List Ent)(ms:List Int)(L:Nat→Prop):Prop where
 ref:∀s:Nat,s<nS c t→¬L s→∀i,(U2 c t ws (s:Int) i).2=0→0≤(U2 c t ws (s:Int) i).1→¬L (U2 c t ws (s:Int) i).1.toNat
 live:∀i,(Ux l i).2=true→¬L (Ux l i).1.toNat
 pin:∀i:Int,0<Lp ms i→¬L i.toNat
theorem Zln{m:MK}(ho:KOk c)(ht:t<c.ts.length)(h:MOk c t n l m)(x:Pe):MOk c t n l (Xx c t n ws m x)∧Sf c t l (Xx c t n ws m x)≤Sf c t l m:=by
 unfold Xx;split
 ·exact Mg ho ht h _
 ·exact⟨h,Zy1 _⟩
theorem Zdj{m:MK}{L:Nat→Prop}(hl:m.col.length=nS c t)(hc:Clo c t ws l ms L)(h:Wv c t L m){x:Pe}(hx:Ztd c t x)(hi:x.is=true)(hs:¬L x.slot.toNat):Wv c t L (Xx c t n ws m x):=by
 unfold Xx;split
 ·rename_i hr;obtain⟨s,f,e1,e2,h3,h4⟩:=hx hi;rw[e1,Zy4] at hs;rw[e1] at hr ⊢;exact Nd hl h (hc.ref s h3 hs _ hr.1 hr.2)
 ·exact h
theorem Pg(m:MK)(x:Pe):(Xx c t n ws m x).hs=m.hs∧(Xx c t n ws m x).root=m.root∧(Xx c t n ws m x).act=m.act∧(Xx c t n ws m x).steps=m.steps∧(Xx c t n ws m x).fl=m.fl:=by
 unfold Xx;split
 ·exact Wx m _
 ·exact⟨rfl,rfl,rfl,rfl,rfl⟩
theorem MOk.len{m:MK}{k:Nat}(h:(Zq m.hs k).is=true):k<m.hs.length:=by
 rcases Nat.lt_or_ge k m.hs.length with q|q
 ·exact q
 ·rw[Zas q] at h;cases h
theorem Zp4{m:MK}(ho:KOk c)(ht:t<c.ts.length)(h:MOk c t n l m){k:Nat}(hi:(Zq m.hs k).is=true):MOk c t n l (St c t n ws m k)∧Sf c t l (St c t n ws m k)+1≤Sf c t l m:=by
 have hk:=MOk.len hi;obtain⟨s,f,e1,e2,h3,h4⟩:=h.hd k hi;have w0:hw c t (Zq m.hs k)=szN c t s-f:=by unfold hw;rw[if_pos hi,e1,e2];rfl
 obtain⟨a1,a2⟩:=Zln (ws:=ws) ho ht h (Zq m.hs k);obtain⟨b1,b2,_⟩:=Pg (c:=c) (t:=t) (n:=n) (ws:=ws) m (Zq m.hs k);unfold St;split
 ·obtain⟨c1,c2⟩:=Mh a1 (Zq m.hs k).slot;obtain⟨d1,d2,_⟩:=T8 (c:=c) (t:=t) (Xx c t n ws m (Zq m.hs k)) (Zq m.hs k).slot;have e:(Yf c t (Xx c t n ws m (Zq m.hs k)) (Zq m.hs k).slot).hs=m.hs:=by rw[d1,b1]
  refine⟨c1.hand e hk Zlm,?_⟩
  ·have s1:=Jl (c:=c) (t:=t) (hs:=m.hs) (h:=Tk) hk;rw[w0] at s1;have z:hw c t Tk=0:=rfl;unfold Sf at *
   try simp only at *
   rw[e,b1] at c2;rw[b1] at a2;omega
 ·rename_i hn;have hn1:(Zz c t ws (Zq m.hs k).slot).2=0:=Decidable.byContradiction fun q=>hn (.inl q)
  have hn2:¬(Zz c t ws (Zq m.hs k).slot).1.r≤(Zq m.hs k).fld+1:=fun q=>hn (.inr q)
  have li:=(Yd hn1).2.2.1;have sz:=Me ho ht h3;have lw:=li.1.2.2.1;have lf:=li.2.2;rw[e1] at lf hn2 lw;rw[e2] at hn2;have hv:Ztd c t ⟨(Zq m.hs k).slot,(Zq m.hs k).fld+1,true⟩:=fun _=>⟨s,f+1,e1,by rw[e2];rfl,h3,by omega⟩
  refine⟨a1.hand b1 hk hv,?_⟩
  ·have s1:=Jl (c:=c) (t:=t) (hs:=m.hs) (h:=⟨(Zq m.hs k).slot,(Zq m.hs k).fld+1,true⟩) hk;have w1:hw c t ⟨(Zq m.hs k).slot,(Zq m.hs k).fld+1,true⟩=szN c t s-(f+1):=by
    unfold hw;rw[if_pos rfl];simp only[e1,e2];rw[show((f:Int)+1).toNat=f+1 by omega];rfl
   rw[w0,w1] at s1;unfold Sf at *
   try simp only at *
   rw[b1] at a2;omega
theorem Zht{m:MK}{L:Nat→Prop}(h:MOk c t n l m)(hl:m.col.length=nS c t)(hc:Clo c t ws l ms L)(hm:Wv c t L m){k:Nat}(hi:(Zq m.hs k).is=true):Wv c t L (St c t n ws m k):=by
 have hk:=MOk.len hi;obtain⟨b1,b2,_⟩:=Pg (c:=c) (t:=t) (n:=n) (ws:=ws) m (Zq m.hs k);have hs:=hm.h k hi;have a1:=Zdj (n:=n) hl hc hm (h.hd k) hi hs;have al:(Xx c t n ws m (Zq m.hs k)).col.length=nS c t:=by
  unfold Xx;split
  ·unfold Xi;split
   ·simp[hl]
   ·exact hl
  ·exact hl
 unfold St;split
 ·have c1:=Iq al a1 hs;obtain⟨d1,d2,_⟩:=T8 (c:=c) (t:=t) (Xx c t n ws m (Zq m.hs k)) (Zq m.hs k).slot;exact c1.hand (by rw[d1,b1]) hk (fun q=>nomatch q)
 ·exact a1.hand b1 hk (fun _=>hs)
theorem Zp5{m:MK}(ho:KOk c)(ht:t<c.ts.length)(h:MOk c t n l m)(hr:(Lr c t n l ms m).2=true):MOk c t n l (Lr c t n l ms m).1∧Sf c t l (Lr c t n l ms m).1+1≤Sf c t l m:=by
 have rt:=h.rt;unfold Lr at hr ⊢;split at hr
 ·cases hr
 ·rename_i hne;rw[if_neg hne];have key:∀m':MK,MOk c t n l m'→m'.root=m.root→Sf c t l m'≤Sf c t l m→MOk c t n l { m' with root:=m.root+1 }∧Sf c t l { m' with root:=m.root+1 }+1≤Sf c t l m:=by
   intro m' h1 h2 h3;refine⟨⟨h1.cl,h1.g,h1.d,h1.hd,by (try simp only);omega⟩,?_⟩;unfold Sf at *
   try simp only at *
   omega
  try simp only
  split
  ·obtain⟨h1,h2⟩:=Mg ho ht h (Qb l ms m.root).1;exact key _ h1 (Wx m _).2.1 h2
  ·exact key _ h rfl (Zy1 _)
theorem Zhu{m:MK}{L:Nat→Prop}(hl:m.col.length=nS c t)(hc:Clo c t ws l ms L)(h:Wv c t L m):Wv c t L (Lr c t n l ms m).1:=by
 unfold Lr;split
 ·exact h
 ·have key:∀m':MK,Wv c t L m'→Wv c t L { m' with root:=m.root+1 }:=fun m' h'=>⟨h'.w,h'.g,h'.h⟩
  try simp only
  split
  ·rename_i hr;refine key _ (Nd hl h ?_);unfold Qb at hr ⊢;split at hr
   ·rename_i q;rw[if_pos q];exact hc.live _ hr
   ·rename_i q;rw[if_neg q];exact hc.pin _ (by simpa using hr)
  ·exact key _ h
theorem Zau{g:GS}(h:DOk c t g):DOk c t (Rb g).1:=by
 obtain⟨q,ow,di,a,e⟩:=g;cases q<;>exact h
theorem Zp6{m:MK}(ho:KOk c)(ht:t<c.ts.length)(h:MOk c t n l m){k:Nat}(hk:k<m.hs.length)(hi:(Zq m.hs k).is=false)(hr:(Ls m k).2=true):MOk c t n l (Ls m k).1∧Sf c t l (Ls m k).1+1≤Sf c t l m:=by
 unfold Ls at hr ⊢;have gk:=Cc h.g;have gd:=Zau h.d;have qs:=h.g.qs;obtain⟨col,fl,⟨q,ow,di,a,e⟩,hs,root,act,steps⟩:=m;cases q with
 | nil=>simp[Rb] at hr
 | cons x r=>
  obtain⟨x,rfl⟩:∃y:Nat,x=y:=⟨x.toNat,by have:=qs x (List.mem_cons_self ..);omega⟩;have hx:x<nS c t:=by have:=qs x (List.mem_cons_self ..);omega
  have sz:=Me ho ht hx;simp only[Rb] at gk gd ⊢
  try simp only at hk hi
  rw[if_pos trivial];have hv:Ztd c t ⟨(x:Int),0,true⟩:=fun _=>⟨x,0,rfl,rfl,hx,by omega⟩
  refine⟨(show MOk c t n l ⟨col,fl,⟨r,ow,di,a,e⟩,hs,root,act,steps⟩ from ⟨h.cl,gk,gd,h.hd,h.rt⟩).hand rfl hk hv,?_⟩;have s1:=Jl (c:=c) (t:=t) (hs:=hs) (h:=⟨(x:Int),0,true⟩) hk;have w0:hw c t (Zq hs k)=0:=by unfold hw;rw[hi];rfl
  have w1:hw c t ⟨(x:Int),0,true⟩=szN c t x:=by unfold hw;rw[if_pos rfl];simp
  unfold Sf Zdh;simp only[Ztb,Zy4];omega
theorem Zhv{m:MK}{L:Nat→Prop}(h:Wv c t L m){k:Nat}(hk:k<m.hs.length):Wv c t L (Ls m k).1:=by
 unfold Ls;split
 ·obtain⟨col,fl,⟨q,ow,di,a,e⟩,hs,root,act,steps⟩:=m;cases q with
  | nil=>rename_i q;simp[Rb] at q
  | cons x r=>
   have hx:=h.g.q x (List.mem_cons_self ..);simp only[Rb];refine(show Wv c t L ⟨col,fl,⟨r,ow,di,a,e⟩,hs,root,act,steps⟩ from ⟨h.w,⟨fun y hy=>h.g.q y (List.mem_cons_of_mem _ hy),h.g.ow⟩,h.h⟩).hand rfl hk (fun _=>hx)
 ·exact h
theorem Zlo{g:GS}(hg:GOk c t n g)(h:DOk c t g):DOk c t (Tx g).1:=by
 intro s hs hb;unfold Tx at hb ⊢
 try simp only at hb ⊢
 by_cases hl:g.at_<g.ow.length
 ·rw[Z8 hl] at hb;split at hb
  ·cases hb
  ·rcases h s hs hb with q|q
   ·exact .inl q
   ·right;omega
 ·have:=hg.ol;rcases h s hs (by rw[List.set_eq_of_length_le (by omega)] at hb;exact hb) with q|q
  ·exact .inl q
  ·right;omega
theorem Zlp{g:GS}(ho:KOk c)(ht:t<c.ts.length)(hg:GOk c t n g)(h:DOk c t g)(he:g.at_=g.en){p:Nat}(hp:p<nG c t):DOk c t (Lm c t g p):=by
 intro s hs hb;unfold Lm at hb ⊢
 try simp only at hb ⊢
 have sf:=Cb ho ht hs;rw[Z8 (by rw[hg.dl];exact hp)];by_cases e:pgN c t s=p
 ·subst e;right;exact⟨sf.lo,sf.hi⟩
 ·rw[if_neg e];rcases h s hs hb with q|q
  ·exact .inl q
  ·omega
theorem Zwb(ho:KOk c)(ht:t<c.ts.length){p:Nat}(hp:p<nG c t):mnN c t p≤32:=by
 have pf:=Ca ho ht hp;have bd:=ho.bounds ht pf.at_.lt;have e:=pf.mn;have:Qy c t (p:Int) (kpOf c t (p:Int))≤Zw c (kpOf c t (p:Int)):=by unfold Qy;split<;>omega
 have:=bd.per32;omega
theorem Zlq{g:GS}(hg:GOk c t n g)(hne:g.at_≠g.en):Zdh c t (Tx g).1+(if (Tx g).2.2.1 then szN c t (Tx g).2.1.toNat else 0)+1≤Zdh c t g:=by
 have le:=hg.le;have hlt:g.at_<g.en:=by
  rcases hg.wk with w|⟨p,w1,w2,w3,w4⟩
  ·exact absurd w hne
  ·exact w3
 have h1:=Px (f:=fun x=>if Zu g.ow x then szN c t x else 0) (g:=fun x=>if Zu (g.ow.set g.at_ false) x then szN c t x else 0) (i:=g.at_) (nS c t) (by omega) (fun j hj=>by
   (try simp only);rw[Z8 (by rw[hg.ol];omega),if_neg hj])
 try simp only at h1
 have e1:Zu (g.ow.set g.at_ false) g.at_=false:=by rw[Z8 (by rw[hg.ol];omega),if_pos rfl]
 rw[e1] at h1;unfold Zdh Zp0 Tx
 try simp only
 cases hb:Zu g.ow g.at_
 ·rw[hb] at h1;simp at h1 ⊢;omega
 ·rw[hb] at h1;simp at h1 ⊢;omega
theorem Zlr{g:GS}(ho:KOk c)(ht:t<c.ts.length)(hg:GOk c t n g)(he:g.at_=g.en){p:Nat}(hp:p<nG c t)(hd:Zu g.di p=true):Zdh c t (Lm c t g p)≤Zdh c t g:=by
 have h1:=Px (f:=fun x=>if Zu g.di x then 32 else 0) (g:=fun x=>if Zu (g.di.set p false) x then 32 else 0) (i:=p) (nG c t) hp (fun j hj=>by
   (try simp only);rw[Z8 (by rw[hg.dl];exact hp),if_neg hj])
 try simp only at h1
 have e1:Zu (g.di.set p false) p=false:=by rw[Z8 (by rw[hg.dl];exact hp),if_pos rfl]
 rw[e1,hd] at h1;have:=Zwb ho ht hp;unfold Zdh Zp1 Lm;simp at h1 ⊢;omega
theorem Zhw{g:GS}{L:Nat→Prop}(h:Zdi L g):Zdi L (Tx g).1∧((Tx g).2.2.1=true→¬L (Tx g).2.1.toNat):=by
 unfold Tx;refine⟨⟨h.q,fun s hs=>?_⟩,fun hb=>?_⟩
 ·simp only at hs;by_cases hl:g.at_<g.ow.length
  ·rw[Z8 hl] at hs;split at hs
   ·cases hs
   ·exact h.ow s hs
  ·rw[List.set_eq_of_length_le (by omega)] at hs;exact h.ow s hs
 ·simp only at hb ⊢;rw[if_pos hb];simpa using h.ow _ hb
structure Zuc(c:Zh)(t n:Nat)(g:GS)(r:GS × Int × Bool × Bool):Prop where
 ok:GOk c t n r.1
 d:DOk c t r.1
 same:r.2.2.2=false→r.1=g∧r.2.2.1=false
 is:r.2.2.1=true→∃s:Nat,r.2.1=s∧s<nS c t
 phi:r.2.2.2=true→Zdh c t r.1+(if r.2.2.1 then szN c t r.2.1.toNat else 0)+1≤Zdh c t g
 safe:∀L:Nat→Prop,Zdi L g→Zdi L r.1∧(r.2.2.1=true→¬L r.2.1.toNat)
theorem Zls{g:GS}(hg:GOk c t n g)(hd:DOk c t g)(hne:g.at_≠g.en):Zuc c t n g (Tx g):=by
 refine⟨Cd hg hne,Zlo hg hd,fun q=>(by cases q),fun q=>?_,fun _=>Zlq hg hne,fun L h=>Zhw h⟩;have hb:Zu g.ow g.at_=true:=q;refine⟨g.at_,?_,?_⟩
 ·unfold Tx;(try simp only);rw[if_pos hb]
 ·rcases Nat.lt_or_ge g.at_ g.ow.length with q|q
  ·rw[←hg.ol];exact q
  ·rw[Un q] at hb;cases hb
theorem Cm{g:GS}(ho:KOk c)(ht:t<c.ts.length)(hg:GOk c t n g)(hd:DOk c t g):Zuc c t n g (Qa c t g):=by
 have no:Zuc c t n g (g,0,false,false):=⟨hg,hd,fun _=>⟨rfl,rfl⟩,fun q=>(by cases q),fun q=>(by cases q),fun L h=>⟨h,fun q=>(by cases q)⟩⟩;unfold Qa;split
 ·rename_i he;split
  ·split
   ·exact no
   ·rename_i p hp;obtain⟨p1,p2,_⟩:=Il hp;have pl:p<nG c t:=by rw[←hg.dl];exact p1
    obtain⟨h1,h2⟩:=Zfl ho ht hg pl;have f:=Zls h1 (Zlp ho ht hg hd he pl) h2;have ph:=Zlr ho ht hg he pl p2;exact⟨f.ok,f.d,fun q=>(by cases q),f.is,fun q=>by have:=f.phi q;omega,fun L h=>f.safe L ⟨h.q,h.ow⟩⟩
  ·exact no
 ·rename_i hne;exact Zls hg hd hne
theorem Zp7{m:MK}(ho:KOk c)(ht:t<c.ts.length)(h:MOk c t n l m){k:Nat}(hk:k<m.hs.length)(hi:(Zq m.hs k).is=false)(hr:(Ky c t m k).2=true):MOk c t n l (Ky c t m k).1∧Sf c t l (Ky c t m k).1+1≤Sf c t l m:=by
 have f:=Cm ho ht h.g h.d;have w0:hw c t (Zq m.hs k)=0:=by unfold hw;rw[hi];rfl
 have hp:=f.phi hr;have base:MOk c t n l { m with g:=(Qa c t m.g).1 }:=⟨h.cl,f.ok,f.d,h.hd,h.rt⟩;unfold Ky;cases hb:(Qa c t m.g).2.2.1
 ·refine⟨by simpa using base,?_⟩;rw[hb] at hp;unfold Sf;simp at hp ⊢;omega
 ·obtain⟨s,e1,e2⟩:=f.is hb;have sz:=Me ho ht e2;have hv:Ztd c t ⟨(Qa c t m.g).2.1,0,true⟩:=fun _=>⟨s,0,e1,rfl,e2,by omega⟩
  refine⟨by simpa using base.hand rfl hk hv,?_⟩;rw[hb] at hp;have s1:=Jl (c:=c) (t:=t) (hs:=m.hs) (h:=⟨(Qa c t m.g).2.1,0,true⟩) hk;have w1:hw c t ⟨(Qa c t m.g).2.1,0,true⟩=szN c t (Qa c t m.g).2.1.toNat:=by unfold hw;rw[if_pos rfl];simp
  rw[w0,w1] at s1;unfold Sf;simp at hp ⊢;omega
theorem Zhx{m:MK}{L:Nat→Prop}(ho:KOk c)(ht:t<c.ts.length)(h:MOk c t n l m)(hm:Wv c t L m){k:Nat}(hk:k<m.hs.length):Wv c t L (Ky c t m k).1:=by
 have f:=Cm ho ht h.g h.d;obtain⟨f1,f2⟩:=f.safe L hm.g;have base:Wv c t L { m with g:=(Qa c t m.g).1 }:=⟨hm.w,f1,hm.h⟩;unfold Ky;cases hb:(Qa c t m.g).2.2.1
 ·simpa using base
 ·simpa using base.hand rfl hk (v:=⟨(Qa c t m.g).2.1,0,true⟩) (fun _=>f2 hb)
theorem Zte{m:MK}(ho:KOk c)(ht:t<c.ts.length)(h:MOk c t n l m){k:Nat}(hk:k<m.hs.length){i:Int}(hr:(mDo c t n ws l ms m k i).2=true) :
  MOk c t n l (mDo c t n ws l ms m k i).1∧Sf c t l (mDo c t n ws l ms m k i).1+1≤Sf c t l m:=by
 unfold mDo at hr ⊢;split
 ·rename_i e;rw[if_pos e] at hr;exact Zp5 ho ht h hr
 ·rename_i e;rw[if_neg e] at hr;split
  ·rename_i e2;rw[if_pos e2] at hr;split
   ·rename_i e3;exact Zp4 ho ht h e3
   ·rename_i e3;rw[if_neg e3] at hr;cases hr
  ·rename_i e2;rw[if_neg e2] at hr;split
   ·rename_i e3;rw[if_pos e3] at hr;cases hr
   ·rename_i e3;rw[if_neg e3] at hr;have hi:(Zq m.hs k).is=false:=by simpa using e3
    split
    ·rename_i e4;rw[if_pos e4] at hr;exact Zp6 ho ht h hk hi hr
    ·rename_i e4;rw[if_neg e4] at hr;exact Zp7 ho ht h hk hi hr
theorem Zp8{m:MK}{L:Nat→Prop}(ho:KOk c)(ht:t<c.ts.length)(h:MOk c t n l m)(hc:Clo c t ws l ms L)(hm:Wv c t L m){k:Nat}(hk:k<m.hs.length){i:Int} :
  Wv c t L (mDo c t n ws l ms m k i).1:=by
 unfold mDo;split
 ·exact Zhu h.cl hc hm
 ·split
  ·split
   ·rename_i e3;exact Zht h h.cl hc hm e3
   ·exact hm
  ·split
   ·exact hm
   ·split
    ·exact Zhv hm hk
    ·exact Zhx ho ht h hm hk
theorem Cn{m:MK}(ho:KOk c)(ht:t<c.ts.length)(h:MOk c t n l m){k i:Int}:MOk c t n l (Yy c t n ws l ms m k i).1 ∧
  (((Yy c t n ws l ms m k i).2=true∧Sf c t l (Yy c t n ws l ms m k i).1+1≤Sf c t l m)∨((Yy c t n ws l ms m k i).2=false∧(Yy c t n ws l ms m k i).1=m)):=by
 unfold Yy;split
 ·rename_i q;split
  ·rename_i r;obtain⟨h1,h2⟩:=Zte ho ht h (k:=k.toNat) (by omega) r;exact⟨⟨h1.cl,h1.g,h1.d,h1.hd,h1.rt⟩,.inl ⟨rfl,h2⟩⟩
  ·exact⟨h,.inr ⟨rfl,rfl⟩⟩
 ·exact⟨h,.inr ⟨rfl,rfl⟩⟩
theorem Fo{m:MK}{L:Nat→Prop}(ho:KOk c)(ht:t<c.ts.length)(h:MOk c t n l m)(hc:Clo c t ws l ms L)(hm:Wv c t L m){k i:Int}:Wv c t L (Yy c t n ws l ms m k i).1:=by
 unfold Yy;split
 ·rename_i q;split
  ·have h1:=Zp8 ho ht h hc hm (k:=k.toNat) (i:=i) (by omega);exact⟨h1.w,h1.g,h1.h⟩
  ·exact hm
 ·exact hm
theorem Py(m:MK):(∃k i,Tl c t n ws l ms m=Yy c t n ws l ms m k i)∨Tl c t n ws l ms m=(m,false):=by
 unfold Tl;split
 ·split
  ·exact .inl ⟨_,_,rfl⟩
  ·split
   ·exact .inl ⟨_,_,rfl⟩
   ·split
    ·exact .inl ⟨_,_,rfl⟩
    ·exact .inl ⟨_,_,rfl⟩
 ·exact .inr rfl
theorem Zfr{m:MK}(ho:KOk c)(ht:t<c.ts.length)(h:MOk c t n l m):MOk c t n l (Tl c t n ws l ms m).1 ∧
  (((Tl c t n ws l ms m).2=true∧Sf c t l (Tl c t n ws l ms m).1+1≤Sf c t l m)∨((Tl c t n ws l ms m).2=false∧(Tl c t n ws l ms m).1=m)):=by
 rcases Py (c:=c) (t:=t) (n:=n) (ws:=ws) (l:=l) (ms:=ms) m with ⟨k,i,e⟩|e
 ·rw[e];exact Cn ho ht h
 ·rw[e];exact⟨h,.inr ⟨rfl,rfl⟩⟩
theorem Zhy{m:MK}{L:Nat→Prop}(ho:KOk c)(ht:t<c.ts.length)(h:MOk c t n l m)(hc:Clo c t ws l ms L)(hm:Wv c t L m):Wv c t L (Tl c t n ws l ms m).1:=by
 rcases Py (c:=c) (t:=t) (n:=n) (ws:=ws) (l:=l) (ms:=ms) m with ⟨k,i,e⟩|e
 ·rw[e];exact Fo ho ht h hc hm
 ·rw[e];exact hm
theorem Zhz{m:MK}(h:Gj m=none)(k:Nat):(Zq m.hs k).is=false:=by
 unfold Gj at h;rw[List.find?_eq_none] at h;rcases Nat.lt_or_ge k m.hs.length with q|q
 ·simpa using h k (by simpa using q)
 ·rw[Zas q];rfl
theorem Zh0{m:MK}{k:Nat}(h:Gj m=some k):k<m.hs.length∧(Zq m.hs k).is=true∧∀j,j<k→(Zq m.hs j).is=false:=by
 unfold Gj at h;rw[List.find?_range_eq_some] at h;obtain⟨h1,h2,h3⟩:=h;exact⟨by simpa using h2,h1,fun j hj=>by simpa using h3 j hj⟩
theorem Zxr{g:GS}(hg:GOk c t n g)(h:∀s,s<nS c t→Zu g.ow s=false):Zk8 g=0:=by
 have:∀m,m≤g.ow.length→Dz g.ow m=0:=by
  intro m
  induction m with
  | zero=>intro _;rfl
  | succ m ih=>intro hm;rw[Pa,ih (by omega),h m (by rw[←hg.ol];omega)];rfl
 exact this _ (Zy1 _)
theorem Zp9{m:MK}(h:MOk c t n l m)(hl:1≤m.hs.length)(ha:m.act=true)(hf:(Tl c t n ws l ms m).2=false):Tz c t l m=true:=by
 unfold Tl at hf;rw[if_pos ha] at hf;cases hk:Gj m with
 | some k=>
  rw[hk] at hf;obtain⟨k1,k2,_⟩:=Zh0 hk;simp only[Yy] at hf;rw[if_pos ⟨ha,by omega,by omega,by omega,by omega⟩] at hf;unfold mDo at hf;rw[Zy4,k2] at hf;simp at hf
 | none=>
  rw[hk] at hf;have nf:=Zhz hk (m.hs.length-1);have st:∀i:Int,1≤i→i≤4→(Yy c t n ws l ms m ((m.hs.length:Int)-1) i).2=(mDo c t n ws l ms m (m.hs.length-1) i).2:=by
   intro i h1 h2;unfold Yy;rw[if_pos ⟨ha,by omega,by omega,h1,h2⟩,show((m.hs.length:Int)-1).toNat=m.hs.length-1 by omega];cases hd:(mDo c t n ws l ms m (m.hs.length-1) i).2
   ·rw[if_neg (by simp)]
   ·rw[if_pos rfl]
  try simp only at hf
  have f2:(Yy c t n ws l ms m ((m.hs.length:Int)-1) 2).2=false:=by
   cases q:(Yy c t n ws l ms m ((m.hs.length:Int)-1) 2).2
   ·rfl
   ·rw[q,if_pos rfl,q] at hf;cases hf
  rw[f2,if_neg (by simp)] at hf;have f1:(Yy c t n ws l ms m ((m.hs.length:Int)-1) 1).2=false:=by
   cases q:(Yy c t n ws l ms m ((m.hs.length:Int)-1) 1).2
   ·rfl
   ·rw[q,if_pos rfl,q] at hf;cases hf
  rw[f1,if_neg (by simp)] at hf;rw[st 2 (by decide) (by decide)] at f2;rw[st 1 (by decide) (by decide)] at f1;rw[st 4 (by decide) (by decide)] at hf;unfold mDo at f1 f2 hf;rw[if_pos rfl] at f1;rw[if_neg (by decide),if_neg (by decide),nf,if_neg (by simp),if_pos rfl] at f2;rw[if_neg (by decide),if_neg (by decide),nf,if_neg (by simp),if_neg (by decide)] at hf;have hroot:m.root=Xy c t l:=by
   unfold Lr at f1;split at f1
   ·assumption
   ·cases f1
  have hq:m.g.q=[]:=by
   unfold Ls at f2;cases hq:m.g.q with
   | nil=>rfl
   | cons x r=>
    have e:(Rb m.g).2.2=true:=by unfold Rb;rw[hq]
    rw[e,if_pos rfl] at f2;cases f2
  have hw:m.g.at_=m.g.en∧Zox m.g.di=none:=by
   unfold Ky Qa at hf
   try simp only at hf
   split at hf
   ·rename_i he;refine⟨he,?_⟩;rw[hq] at hf;simp only[List.length_nil,if_true] at hf;split at hf
    ·assumption
    ·cases hf
   ·cases hf
  have how:∀s,s<nS c t→Zu m.g.ow s=false:=by
   intro s hs;cases hb:Zu m.g.ow s
   ·rfl
   ·rcases h.d s hs hb with q|q
    ·rw[Zal hw.2 _ (by
      rcases Nat.lt_or_ge (pgN c t s) m.g.di.length with z|z
      ·exact z
      ·rw[Un z] at q;cases q)] at q;cases q
    ·omega
  have he:N5 m.g=true:=by
   unfold N5;rw[decide_eq_true_iff];exact⟨by rw[hq];rfl,hw.1,Zxr h.g how⟩
  unfold Tz;rw[ha,hk,he,Zyy hroot];rfl
end
section
variable{c:Zh}{t n:Nat}{gens wk:Int}
def Z7(c:Zh)(t:Nat)(l:List Ent):Nat:=21*(Z0 c t+l.length)
def Zvr(c:Zh)(t:Nat)(y:CY):Nat:=Sf c t y.l y.m+(nS c t-y.s.at_)
def noD(d:List Bool):Prop:=∀s,Zu d s=false
structure Zvs(c:Zh)(t n:Nat)(gens wk:Int)(y:CY):Prop where
 ko:KOk c
 ti:t<c.ts.length
 wl:y.ws.length=Zo c
 wo:WOk y.ws
 bl:y.bs.length=nS c t
 ml:y.ms.length=nS c t
 m:MOk c t n y.l y.m
 hl:(y.m.hs.length:Int)=wk+1
 h0:0≤wk
 live:∀i,(Zx y.l i).st=1→0≤(Zx y.l i).s∧(Zx y.l i).s<(nS c t:Int)
 gen:∀i,i<y.l.length→1≤(Zx y.l i).g∧(Zx y.l i).g≤gens∧(Zx y.l i).st≤3
 fh:∀s:Nat,s<nS c t→Zu y.bs s=false→(Zz c t y.ws s).2≠0
 dm:∀s:Nat,Zu y.s.d s=true→s<nS c t∧Zu y.bs s=true∧(Zz c t y.ws s).2≠0
 ro:Q7 c t y.ws
 dl:y.s.d.length=nS c t
 ps:(y.ph=0∧y.m.act=false∧y.s.act=false∧y.s.at_=0∧noD y.s.d)∨(y.ph=1∧y.m.act=true∧y.s.act=false∧y.s.at_=0∧noD y.s.d) ∨
  (y.ph=2∧y.m.act=true∧y.s.act=true∧y.s.at_≤nS c t)∨(y.ph=3∧y.m.act=true∧y.s.act=true∧y.s.at_=nS c t)
 st:y.steps≤Z7 c t y.l∧(y.ph=1∨y.ph=2→y.steps+Zvr c t y≤Z7 c t y.l)
structure YOk(c:Zh)(t n:Nat)(gens wk:Int)(y:CY):Prop extends Zvs c t n gens wk y where
 on1:y.ph=1→Tz c t y.l y.m=false
 on2:y.ph=2→y.s.at_<nS c t
variable{y:CY}
theorem Zvs.goes(h:Zvs c t n gens wk y):YOk c t n gens wk (Mb c t y)∧(y.ph≠0→(Mb c t y).ph≠0)∧(Mb c t y).steps=y.steps∧(Mb c t y).l=y.l:=by
 have ns:=h.ko.nS_pos h.ti;unfold Mb;split
 ·rename_i q;have q1:=q.1;rcases h.ps with p|p|p|p
  ·omega
  ·have nd:Qn { y.s with act:=true }=false:=by
    unfold Qn;simp only[Bool.true_and,decide_eq_false_iff_not];rw[h.dl,p.2.2.2.1];omega
   rw[nd,if_neg (by simp)];refine⟨⟨⟨h.ko,h.ti,h.wl,h.wo,h.bl,h.ml,h.m,h.hl,h.h0,h.live,h.gen,h.fh,h.dm,h.ro,h.dl,.inr (.inr (.inl ⟨rfl,p.2.1,rfl,?_⟩)),h.st.1,fun _=>h.st.2 (.inl q1)⟩,fun e=>(by cases e),fun _=>?_⟩,fun _=>by simp,rfl,rfl⟩
   ·show y.s.at_≤nS c t;omega
   ·show y.s.at_<nS c t;omega
  ·omega
  ·omega
 ·rename_i q;split
  ·rename_i r;rcases h.ps with p|p|p|p
   ·omega
   ·omega
   ·have e:y.s.at_=nS c t:=by
     have:=r.2;unfold Qn at this;rw[p.2.2.1] at this;simp at this;rw[this,h.dl]
    refine⟨⟨⟨h.ko,h.ti,h.wl,h.wo,h.bl,h.ml,h.m,h.hl,h.h0,h.live,h.gen,h.fh,h.dm,h.ro,h.dl,.inr (.inr (.inr ⟨rfl,p.2.1,p.2.2.1,e⟩)),h.st.1,fun a=>(by rcases a with a|a<;>cases a)⟩,fun a=>(by cases a),fun a=>(by cases a)⟩,fun _=>by simp,rfl,rfl⟩
   ·omega
  ·rename_i r;refine⟨⟨h,fun e=>?_,fun e=>?_⟩,id,rfl,rfl⟩
   ·cases hd:Tz c t y.l y.m
    ·rfl
    ·exact absurd ⟨e,hd⟩ q
   ·rcases h.ps with p|p|p|p
    ·omega
    ·omega
    ·have:Qn y.s=false:=by
      cases hd:Qn y.s
      ·rfl
      ·exact absurd ⟨e,hd⟩ r
     unfold Qn at this;rw[p.2.2.1] at this;simp at this;have:=h.dl;omega
    ·omega
theorem Mi(h:YOk c t n gens wk y)(hp:y.ph=2):(sStep c t y).2=true∧Zvs c t n gens wk { (sStep c t y).1 with steps:=(sStep c t y).1.steps+1 }∧(sStep c t y).1.ph=2∧(sStep c t y).1.steps=y.steps∧(sStep c t y).1.l=y.l:=by
 have hlt:=h.on2 hp;have st:=h.st.2 (.inr hp);have dl:=h.dl;have pc:y.m.act=true∧y.s.act=true:=by
  rcases h.ps with p|p|p|p<;>first|omega|exact⟨p.2.1,p.2.2.1⟩
 have hn:y.s.act=true∧y.s.at_≠y.s.d.length:=⟨pc.2,by omega⟩;have hphi:∀a,a=y.s.at_+1→y.steps+1+(Sf c t y.l y.m+(nS c t-a))≤Z7 c t y.l:=by
  intro a e;subst e;unfold Zvr at st;omega
 have bin:bIn c t (y.s.at_:Int):=⟨by omega,by omega⟩;unfold sStep;rw[if_pos hn];split
 ·rename_i hw;refine⟨rfl,⟨h.ko,h.ti,?_,?_,h.bl,h.ml,h.m,h.hl,h.h0,h.live,h.gen,?_,?_,h.ro.wipe h.ko h.ti h.wl,by simpa using dl,.inr (.inr (.inl ⟨hp,pc.1,rfl,?_⟩)),?_,fun _=>hphi _ rfl⟩,hp,rfl,rfl⟩
  ·exact Ib h.wl h.ko h.ti
  ·exact Jg h.wo h.wl h.ko h.ti
  ·intro s hs hb;show(Zz c t (Uu c t y.ws (y.s.at_:Int)).1 s).2≠0
   intro hh;have:=h.fh s hs hb;unfold Uu at hh;rw[if_pos bin] at hh;have in':bIn c t (s:Int):=⟨by omega,by omega⟩;have s2:=(Xt h.ko h.ti in').s2;have hz:=Ti h.ko h.ti h.wl bin in' (j:=0) (by omega);by_cases e:(s:Int)=(y.s.at_:Int)
   ·rw[if_pos e] at hz;have q:=(Yd hh).2.1;rw[hz] at q;exact Q3 q
   ·rw[if_neg e] at hz;rw[Xj hz] at hh;exact this hh
  ·intro s hs
   try simp only at hs
   rw[Z8 (by omega)] at hs;have key:(Zz c t (Uu c t y.ws (y.s.at_:Int)).1 s).2≠0∨¬(s=y.s.at_):=by
    by_cases e:s=y.s.at_
    ·left
     intro hh;unfold Uu at hh;rw[if_pos bin] at hh;have s2:=(Xt h.ko h.ti bin).s2;have hz:=Ti h.ko h.ti h.wl bin bin (j:=0) (by omega);rw[if_pos rfl] at hz;rw[e] at hh;have q:=(Yd hh).2.1;rw[hz] at q;exact Q3 q
    ·exact .inr e
   by_cases e:s=y.s.at_
   ·refine⟨by omega,by rw[e];exact hw.1,?_⟩;rcases key with q|q
    ·exact q
    ·exact absurd e q
   ·rw[if_neg e] at hs;obtain⟨d1,d2,d3⟩:=h.dm s hs;refine⟨d1,d2,?_⟩;show(Zz c t (Uu c t y.ws (y.s.at_:Int)).1 s).2≠0
    intro hh;unfold Uu at hh;rw[if_pos bin] at hh;have in':bIn c t (s:Int):=⟨by omega,by omega⟩;have s2:=(Xt h.ko h.ti in').s2;have hz:=Ti h.ko h.ti h.wl bin in' (j:=0) (by omega);rw[if_neg (by omega)] at hz;rw[Xj hz] at hh;exact d3 hh
  ·show y.s.at_+1≤nS c t;omega
  ·show y.steps+1≤Z7 c t y.l
   have:=hphi _ rfl;omega
 ·refine⟨rfl,⟨h.ko,h.ti,h.wl,h.wo,h.bl,h.ml,h.m,h.hl,h.h0,h.live,h.gen,h.fh,h.dm,h.ro,dl,.inr (.inr (.inl ⟨hp,pc.1,rfl,?_⟩)),?_,fun _=>hphi _ rfl⟩,hp,rfl,rfl⟩
  ·show y.s.at_+1≤nS c t;omega
  ·show y.steps+1≤Z7 c t y.l
   have:=hphi _ rfl;omega
theorem YOk.marks(h:YOk c t n gens wk y)(hp:y.ph=1){m':MK}(hm:MOk c t n y.l m')(hs:Sf c t y.l m'+1≤Sf c t y.l y.m)(hh:m'.hs.length=y.m.hs.length)(ha:m'.act=y.m.act) :
  Zvs c t n gens wk { y with m:=m',steps:=y.steps+1 }:=by
 have st:=h.st.2 (.inl hp);have pc:y.m.act=true∧y.s.act=false∧y.s.at_=0∧noD y.s.d:=by
  rcases h.ps with p|p|p|p<;>first|omega|exact p.2
 unfold Zvr at st;refine⟨h.ko,h.ti,h.wl,h.wo,h.bl,h.ml,hm,by (try simp only);rw[hh];exact h.hl,h.h0,h.live,h.gen,h.fh,h.dm,h.ro,h.dl,.inr (.inl ⟨hp,by (try simp only);rw[ha];exact pc.1,pc.2⟩),?_,fun _=>?_⟩
 ·show y.steps+1≤Z7 c t y.l;omega
 ·show y.steps+1+(Sf c t y.l m'+(nS c t-y.s.at_))≤Z7 c t y.l;omega
theorem Ztf{ws:List Int}{l:List Ent}{ms:List Int}(m:MK)(k:Nat)(i:Int):(mDo c t n ws l ms m k i).1.hs.length=m.hs.length∧(mDo c t n ws l ms m k i).1.act=m.act∧(mDo c t n ws l ms m k i).1.fl=m.fl:=by
 unfold mDo;split
 ·unfold Lr;split
  ·exact⟨rfl,rfl,rfl⟩
  ·simp only;split
   ·obtain⟨h1,_,h3,_,h5⟩:=Wx (c:=c) (t:=t) (n:=n) m (Qb l ms m.root).1;rw[h1];exact⟨rfl,h3,h5⟩
   ·exact⟨rfl,rfl,rfl⟩
 ·split
  ·split
   ·unfold St;obtain⟨h1,_,h3,_,h5⟩:=Pg (c:=c) (t:=t) (n:=n) (ws:=ws) m (Zq m.hs k);split
    ·obtain⟨_,_,g3,_,g5⟩:=T8 (c:=c) (t:=t) (Xx c t n ws m (Zq m.hs k)) (Zq m.hs k).slot;exact⟨by simp,by rw[←h3,←g3],by rw[←h5,←g5]⟩
    ·exact⟨by simp,h3,h5⟩
   ·exact⟨rfl,rfl,rfl⟩
  ·split
   ·exact⟨rfl,rfl,rfl⟩
   ·split
    ·unfold Ls;split
     ·exact⟨by simp,rfl,rfl⟩
     ·exact⟨rfl,rfl,rfl⟩
    ·unfold Ky;refine⟨?_,rfl,rfl⟩
     (try simp only);split
     ·simp
     ·rfl
theorem Co{ws:List Int}{l:List Ent}{ms:List Int}(m:MK)(k i:Int):(Yy c t n ws l ms m k i).1.hs.length=m.hs.length∧(Yy c t n ws l ms m k i).1.act=m.act∧(Yy c t n ws l ms m k i).1.fl=m.fl:=by
 unfold Yy;split
 ·split
  ·exact Ztf m _ _
  ·exact⟨rfl,rfl,rfl⟩
 ·exact⟨rfl,rfl,rfl⟩
theorem Zfs{ws:List Int}{l:List Ent}{ms:List Int}(m:MK):(Tl c t n ws l ms m).1.hs.length=m.hs.length∧(Tl c t n ws l ms m).1.act=m.act∧(Tl c t n ws l ms m).1.fl=m.fl:=by
 rcases Py (c:=c) (t:=t) (n:=n) (ws:=ws) (l:=l) (ms:=ms) m with ⟨k,i,e⟩|e
 ·rw[e];exact Co m k i
 ·rw[e];exact⟨rfl,rfl,rfl⟩
structure Zxs(c:Zh)(t n:Nat)(gens wk:Int)(y:CY)(r:CY × Bool):Prop where
 ok:YOk c t n gens wk r.1
 no:r.2=false→r.1=y
 yes:r.2=true→r.1.steps=y.steps+1
 ph:y.ph≠0→r.1.ph≠0
 l:r.1.l=y.l
 bs:r.1.bs=y.bs
 ms:r.1.ms=y.ms
 fl:r.1.m.fl=y.m.fl
structure Zwc(y z:CY):Prop where
 steps:z.steps=y.steps
 l:z.l=y.l
 bs:z.bs=y.bs
 ms:z.ms=y.ms
 fl:z.m.fl=y.m.fl
theorem Zh1(y:CY):Zwc y (Mb c t y):=by
 unfold Mb;split
 ·split<;>exact⟨rfl,rfl,rfl,rfl,rfl⟩
 ·split<;>exact⟨rfl,rfl,rfl,rfl,rfl⟩
theorem Fp(y:CY):Zwc y (sStep c t y).1:=by
 unfold sStep;split
 ·split<;>exact⟨rfl,rfl,rfl,rfl,rfl⟩
 ·exact⟨rfl,rfl,rfl,rfl,rfl⟩
theorem Zlt{r:CY × Bool}(h:YOk c t n gens wk y)(h1:r.2=false→r.1=y)(h2:r.2=true→Zvs c t n gens wk { r.1 with steps:=r.1.steps+1 }∧r.1.ph≠0)(h3:Zwc y r.1):Zxs c t n gens wk y (Nc c t r):=by
 unfold Nc;cases hr:r.2
 ·rw[if_neg (by simp)];have e:=h1 hr;exact⟨by rw[e];exact h,fun _=>e,fun q=>(by rw[hr] at q;cases q),by rw[e];exact id,h3.l,h3.bs,h3.ms,h3.fl⟩
 ·rw[if_pos rfl];obtain⟨q1,q2⟩:=h2 hr;obtain⟨g1,g2,g3,g4⟩:=q1.goes;have k:=Zh1 (c:=c) (t:=t) { r.1 with steps:=r.1.steps+1 };exact⟨g1,fun q=>(by cases q),fun _=>by rw[g3];show r.1.steps+1=_;rw[h3.steps],fun _=>g2 q2,k.l.trans h3.l,k.bs.trans h3.bs,k.ms.trans h3.ms,k.fl.trans h3.fl⟩
theorem Ir(y:CY):Zwc y (T5 c t n y).1:=by
 unfold T5;split
 ·exact⟨rfl,rfl,rfl,rfl,(Zfs y.m).2.2⟩
 ·split
  ·exact Fp y
  ·exact⟨rfl,rfl,rfl,rfl,rfl⟩
theorem Is(y:CY)(k i:Int):Zwc y (Qm c t n wk y k i).1:=by
 unfold Qm;split
 ·exact⟨rfl,rfl,rfl,rfl,(Co y.m k i).2.2⟩
 ·split
  ·exact Fp y
  ·exact⟨rfl,rfl,rfl,rfl,rfl⟩
theorem Tr(h:YOk c t n gens wk y):Zxs c t n gens wk y (Vn c t n y):=by
 unfold Vn;refine Zlt h ?_ ?_ (Ir y)<;>unfold T5
 ·split
  ·intro hr;rcases Zfr (n:=n) (ws:=y.ws) (ms:=y.ms) h.ko h.ti h.m with ⟨_,q|q⟩
   ·rw[q.1] at hr;cases hr
   ·(try simp only);rw[q.2]
  ·split
   ·rename_i hp;intro hr;rw[(Mi h hp).1] at hr;cases hr
   ·intro _;rfl
 ·split
  ·rename_i hp;intro hr;obtain⟨q1,q⟩:=Zfr (n:=n) (ws:=y.ws) (ms:=y.ms) h.ko h.ti h.m;rcases q with q|q
   ·obtain⟨e1,e2,e3⟩:=Zfs (c:=c) (t:=t) (n:=n) (ws:=y.ws) (l:=y.l) (ms:=y.ms) y.m;exact⟨h.marks hp q1 q.2 e1 e2,by (try simp only);omega⟩
   ·simp only at hr;rw[q.1] at hr;cases hr
  ·split
   ·rename_i hp;intro _;obtain⟨_,q2,q3,_,_⟩:=Mi h hp;exact⟨q2,by omega⟩
   ·intro hr;cases hr
theorem Zh2(h:YOk c t n gens wk y)(k i:Int):Zxs c t n gens wk y (Re c t n wk y k i):=by
 unfold Re;refine Zlt h ?_ ?_ (Is y k i)<;>unfold Qm
 ·split
  ·intro hr;rcases Cn (n:=n) (ws:=y.ws) (ms:=y.ms) h.ko h.ti h.m (k:=k) (i:=i) with ⟨_,q|q⟩
   ·rw[q.1] at hr;cases hr
   ·(try simp only);rw[q.2]
  ·split
   ·rename_i hp;intro hr;rw[(Mi h hp.1).1] at hr;cases hr
   ·intro _;rfl
 ·split
  ·rename_i hp;intro hr;obtain⟨q1,q⟩:=Cn (n:=n) (ws:=y.ws) (ms:=y.ms) h.ko h.ti h.m (k:=k) (i:=i);rcases q with q|q
   ·obtain⟨e1,e2,e3⟩:=Co (c:=c) (t:=t) (n:=n) (ws:=y.ws) (l:=y.l) (ms:=y.ms) y.m k i;exact⟨h.marks hp q1 q.2 e1 e2,by (try simp only);omega⟩
   ·simp only at hr;rw[q.1] at hr;cases hr
  ·split
   ·rename_i hp;intro _;obtain⟨_,q2,q3,_,_⟩:=Mi h hp.1;exact⟨q2,by omega⟩
   ·intro hr;cases hr
theorem Zqa(h:YOk c t n gens wk y)(hf:(Vn c t n y).2=false):y.ph=0∨y.ph=3:=by
 unfold Vn Nc at hf;have hf':(T5 c t n y).2=false:=by
  cases q:(T5 c t n y).2
  ·rfl
  ·rw[q,if_pos rfl] at hf;cases hf
 unfold T5 at hf';rcases h.ps with p|p|p|p
 ·exact .inl p.1
 ·rw[if_pos p.1] at hf';have hl:=h.hl;have h0:=h.h0;have:=Zp9 h.m (by omega) p.2.1 hf';rw[h.on1 p.1] at this;cases this
 ·rw[if_neg (by omega),if_pos p.1,(Mi h p.1).1] at hf';cases hf'
 ·exact .inr p.1
structure Zyo(c:Zh)(t n:Nat)(gens wk:Int)(y:CY)(r:CY × Nat):Prop where
 ok:YOk c t n gens wk r.1
 no:(Vn c t n r.1).2=false
 steps:r.1.steps=y.steps+r.2
 l:r.1.l=y.l
 bs:r.1.bs=y.bs
 ms:r.1.ms=y.ms
 fl:r.1.m.fl=y.m.fl
 ph:y.ph≠0→r.1.ph=3
theorem Zdk:∀(F:Nat) {y:CY},YOk c t n gens wk y→Z7 c t y.l<F+y.steps→Zyo c t n gens wk y (Kz c t n F y)
 | 0,y,h,hF=>absurd h.st.1 (by omega)
 | F+1,y,h,hF=>by
  have md:=Tr h;unfold Kz;cases hr:(Vn c t n y).2
  ·rw[if_neg (by simp)];refine⟨h,hr,rfl,rfl,rfl,rfl,rfl,fun hp=>?_⟩;rcases Zqa h hr with q|q
   ·exact absurd q hp
   ·exact q
  ·rw[if_pos rfl];have s1:=md.yes hr;have g:=Zdk F md.ok (by rw[md.l,s1];omega);exact⟨g.ok,g.no,by rw[g.steps,s1];(try simp only);omega,by rw[g.l,md.l],by rw[g.bs,md.bs],by rw[g.ms,md.ms],by rw[g.fl,md.fl],fun hp=>g.ph (md.ph hp)⟩
end
section
structure Zn(w:World)(z:Nat)(V:List Value):Prop where
 c:∀i x,V[i]?=some x→w.cell? ⟨z,i,none⟩=some x
 f:∀i,w.frozen? ⟨z,i,none⟩=false
 lt:z<w.heap.size
section
variable{w w':World}{z:Nat}{V:List Value}
theorem Zn.new(w:World)(V:List Value)(u:TypeId){z:Nat}(hz:w.heap.size=z):Zn (w.alloc (.cells V.toArray u)) z V:=by
 subst hz;refine⟨fun i x hx=>?_,fun i=>World.frozen?_alloc_at _ _ _ _ rfl,by simp⟩;rw[Zg];simpa using hx
theorem Zn.chg{Q:Nat→Prop}(h:Zn w z V)(hx:Chg Q w w')(hq:¬Q z):Zn w' z V:=
 ⟨fun i x e=>hx.cell hq (h.c i x e),fun i=>by rw[hx.frozen (p:=⟨z,i,none⟩) h.lt hq];exact h.f i,Zy5 h.lt hx.size⟩
theorem Zn.ext(h:Zn w z V)(hx:Ext w w'):Zn w' z V:=h.chg (Q:=fun _=>False) (Zy3 hx) (fun a=>a)
theorem Zn.set(h:Zn w z V){i:Nat}(hi:i<V.length)(v:Value):Zn (w.setCell ⟨z,i,none⟩ v) z (V.set i v):=by
 refine⟨fun j x hx=>?_,fun j=>by rw[World.frozen?_setCell];exact h.f j,by simpa using h.lt⟩;by_cases e:j=i
 ·subst e;rw[List.getElem?_set_self hi] at hx;cases hx;exact Zyz _ _ _ (h.c j _ (List.getElem?_eq_getElem hi))
 ·rw[List.getElem?_set_ne (Ne.symm e)] at hx;rw[Zy0 w ⟨z,i,none⟩ ⟨z,j,none⟩ v (by intro q;cases q;exact e rfl)];exact h.c j x hx
theorem Zn.far(h:Zn w z V){p:Addr}(hp:p.block≠z)(v:Value):Zn (w.setCell p v) z V:=
 ⟨fun i x e=>by rw[cell_far _ _ _ _ hp];exact h.c i x e,fun i=>by rw[World.frozen?_setCell];exact h.f i,by simpa using h.lt⟩
end
end
theorem Zn.k3 {w:World} {z:Nat} {v0 v1 v2:Value} {r:List Value} (h:Zn w z (v0::v1::v2::r)):w.cell? z=some v0∧w.cell? ⟨z,1,none⟩=some v1∧w.cell? ⟨z,2,none⟩=some v2:=⟨h.c 0 _ rfl,h.c 1 _ rfl,h.c 2 _ rfl⟩
theorem Zn.g3 {w:World} {z:Nat} {V:List Value} (h:Zn w z V):w.frozen? z=false∧w.frozen? ⟨z,1,none⟩=false∧w.frozen? ⟨z,2,none⟩=false:=⟨h.f 0,h.f 1,h.f 2⟩
theorem Zn.k5 {w:World} {z:Nat} {v0 v1 v2 v3 v4:Value} {r:List Value} (h:Zn w z (v0::v1::v2::v3::v4::r)):w.cell? z=some v0∧w.cell? ⟨z,1,none⟩=some v1∧w.cell? ⟨z,2,none⟩=some v2∧w.cell? ⟨z,3,none⟩=some v3∧w.cell? ⟨z,4,none⟩=some v4:=⟨h.c 0 _ rfl,h.c 1 _ rfl,h.c 2 _ rfl,h.c 3 _ rfl,h.c 4 _ rfl⟩
theorem Zn.g5 {w:World} {z:Nat} {V:List Value} (h:Zn w z V):w.frozen? z=false∧w.frozen? ⟨z,1,none⟩=false∧w.frozen? ⟨z,2,none⟩=false∧w.frozen? ⟨z,3,none⟩=false∧w.frozen? ⟨z,4,none⟩=false:=⟨h.f 0,h.f 1,h.f 2,h.f 3,h.f 4⟩
theorem Zn.k6 {w:World} {z:Nat} {v0 v1 v2 v3 v4 v5:Value} {r:List Value} (h:Zn w z (v0::v1::v2::v3::v4::v5::r)):w.cell? z=some v0∧w.cell? ⟨z,1,none⟩=some v1∧w.cell? ⟨z,2,none⟩=some v2∧w.cell? ⟨z,3,none⟩=some v3∧w.cell? ⟨z,4,none⟩=some v4∧w.cell? ⟨z,5,none⟩=some v5:=⟨h.c 0 _ rfl,h.c 1 _ rfl,h.c 2 _ rfl,h.c 3 _ rfl,h.c 4 _ rfl,h.c 5 _ rfl⟩
theorem Zn.g6 {w:World} {z:Nat} {V:List Value} (h:Zn w z V):w.frozen? z=false∧w.frozen? ⟨z,1,none⟩=false∧w.frozen? ⟨z,2,none⟩=false∧w.frozen? ⟨z,3,none⟩=false∧w.frozen? ⟨z,4,none⟩=false∧w.frozen? ⟨z,5,none⟩=false:=⟨h.f 0,h.f 1,h.f 2,h.f 3,h.f 4,h.f 5⟩
theorem Zn.k8 {w:World} {z:Nat} {v0 v1 v2 v3 v4 v5 v6 v7:Value} {r:List Value} (h:Zn w z (v0::v1::v2::v3::v4::v5::v6::v7::r)):w.cell? z=some v0∧w.cell? ⟨z,1,none⟩=some v1∧w.cell? ⟨z,2,none⟩=some v2∧w.cell? ⟨z,3,none⟩=some v3∧w.cell? ⟨z,4,none⟩=some v4∧w.cell? ⟨z,5,none⟩=some v5∧w.cell? ⟨z,6,none⟩=some v6∧w.cell? ⟨z,7,none⟩=some v7:=⟨h.c 0 _ rfl,h.c 1 _ rfl,h.c 2 _ rfl,h.c 3 _ rfl,h.c 4 _ rfl,h.c 5 _ rfl,h.c 6 _ rfl,h.c 7 _ rfl⟩
theorem Zn.g8 {w:World} {z:Nat} {V:List Value} (h:Zn w z V):w.frozen? z=false∧w.frozen? ⟨z,1,none⟩=false∧w.frozen? ⟨z,2,none⟩=false∧w.frozen? ⟨z,3,none⟩=false∧w.frozen? ⟨z,4,none⟩=false∧w.frozen? ⟨z,5,none⟩=false∧w.frozen? ⟨z,6,none⟩=false∧w.frozen? ⟨z,7,none⟩=false:=⟨h.f 0,h.f 1,h.f 2,h.f 3,h.f 4,h.f 5,h.f 6,h.f 7⟩
theorem Zn.k9 {w:World} {z:Nat} {v0 v1 v2 v3 v4 v5 v6 v7 v8:Value} {r:List Value} (h:Zn w z (v0::v1::v2::v3::v4::v5::v6::v7::v8::r)):w.cell? z=some v0∧w.cell? ⟨z,1,none⟩=some v1∧w.cell? ⟨z,2,none⟩=some v2∧w.cell? ⟨z,3,none⟩=some v3∧w.cell? ⟨z,4,none⟩=some v4∧w.cell? ⟨z,5,none⟩=some v5∧w.cell? ⟨z,6,none⟩=some v6∧w.cell? ⟨z,7,none⟩=some v7∧w.cell? ⟨z,8,none⟩=some v8:=⟨h.c 0 _ rfl,h.c 1 _ rfl,h.c 2 _ rfl,h.c 3 _ rfl,h.c 4 _ rfl,h.c 5 _ rfl,h.c 6 _ rfl,h.c 7 _ rfl,h.c 8 _ rfl⟩
theorem Zn.g9 {w:World} {z:Nat} {V:List Value} (h:Zn w z V):w.frozen? z=false∧w.frozen? ⟨z,1,none⟩=false∧w.frozen? ⟨z,2,none⟩=false∧w.frozen? ⟨z,3,none⟩=false∧w.frozen? ⟨z,4,none⟩=false∧w.frozen? ⟨z,5,none⟩=false∧w.frozen? ⟨z,6,none⟩=false∧w.frozen? ⟨z,7,none⟩=false∧w.frozen? ⟨z,8,none⟩=false:=⟨h.f 0,h.f 1,h.f 2,h.f 3,h.f 4,h.f 5,h.f 6,h.f 7,h.f 8⟩
theorem Zn.k10 {w:World} {z:Nat} {v0 v1 v2 v3 v4 v5 v6 v7 v8 v9:Value} {r:List Value} (h:Zn w z (v0::v1::v2::v3::v4::v5::v6::v7::v8::v9::r)):w.cell? z=some v0∧w.cell? ⟨z,1,none⟩=some v1∧w.cell? ⟨z,2,none⟩=some v2∧w.cell? ⟨z,3,none⟩=some v3∧w.cell? ⟨z,4,none⟩=some v4∧w.cell? ⟨z,5,none⟩=some v5∧w.cell? ⟨z,6,none⟩=some v6∧w.cell? ⟨z,7,none⟩=some v7∧w.cell? ⟨z,8,none⟩=some v8∧w.cell? ⟨z,9,none⟩=some v9:=⟨h.c 0 _ rfl,h.c 1 _ rfl,h.c 2 _ rfl,h.c 3 _ rfl,h.c 4 _ rfl,h.c 5 _ rfl,h.c 6 _ rfl,h.c 7 _ rfl,h.c 8 _ rfl,h.c 9 _ rfl⟩
theorem Zn.g10 {w:World} {z:Nat} {V:List Value} (h:Zn w z V):w.frozen? z=false∧w.frozen? ⟨z,1,none⟩=false∧w.frozen? ⟨z,2,none⟩=false∧w.frozen? ⟨z,3,none⟩=false∧w.frozen? ⟨z,4,none⟩=false∧w.frozen? ⟨z,5,none⟩=false∧w.frozen? ⟨z,6,none⟩=false∧w.frozen? ⟨z,7,none⟩=false∧w.frozen? ⟨z,8,none⟩=false∧w.frozen? ⟨z,9,none⟩=false:=⟨h.f 0,h.f 1,h.f 2,h.f 3,h.f 4,h.f 5,h.f 6,h.f 7,h.f 8,h.f 9⟩
theorem Zt.chg{P:Nat→Prop}{w w':World}{b gp:Nat}{c:Zh}{t:Nat}(h:Zt w b gp c t)(hx:Chg P w w')(hb:¬P b)(hg:¬P gp):Zt w' b gp c t:=by
 obtain⟨cap,h0⟩:=h.parts;exact⟨h.ok,h.ti,⟨cap,hx.cell hb h0⟩,hx.cell hb h.slots,hx.cell hb h.pages,hx.cell hb h.page,fun i hi j u hu=>hx.cell hg (h.row i hi j u hu)⟩
theorem Zt.lt{w:World}{b gp:Nat}{c:Zh}{t:Nat}(h:Zt w b gp c t):b<w.heap.size∧gp<w.heap.size:=
 ⟨Zj h.page,Zj (h.row 0 h.ok.cl.pos 0 _ rfl)⟩
section
def arB(b rg k:Nat):Prop:=k=b∨k=rg
structure Y9(w:World)(b pb gp rb rg:Nat)(c:Zh)(t:Nat)(bs:List Bool)(u:Int):Prop where
 plan:Zt w pb gp c t
 row:Z1 w rb rg bs
 len:bs.length=nS c t
 c0:w.cell? b=some (pb:Value)
 c1:w.cell? ⟨b,1,none⟩=some (rb:Value)
 c2:w.cell? ⟨b,2,none⟩=some (.int .i64 u)
 fz:w.frozen? ⟨b,2,none⟩=false
 n1:rb≠b
 n2:rg≠b
 n3:pb≠b∧pb≠rg
 n4:gp≠b∧gp≠rg
abbrev X7(w:World)(b pb gp rb rg:Nat)(c:Zh)(t:Nat)(bs:List Bool):Prop:=Y9 w b pb gp rb rg c t bs (Xh c t bs)
variable{w w':World}{b pb gp rb rg:Nat}{c:Zh}{t:Nat}{bs bs':List Bool}{u u0:Int}
theorem Y9.pos(h:Y9 w b pb gp rb rg c t bs u):0<bs.length:=by have:=h.plan.ok.nS_pos h.plan.ti;rw[h.len];omega
theorem Y9.chg{P:Nat→Prop}(h:Y9 w b pb gp rb rg c t bs u)(hx:Chg P w w')(hb:¬P b)(hp:¬P pb∧¬P gp)(hr:¬P rb∧¬P rg):Y9 w' b pb gp rb rg c t bs u:=
 ⟨h.plan.chg hx hp.1 hp.2,h.row.chg hx hr.1 fun _=>hr.2,h.len,hx.cell hb h.c0,hx.cell hb h.c1,hx.cell hb h.c2,by rw[hx.frozen (p:=⟨b,2,none⟩) (Zj h.c2) hb];exact h.fz,h.n1,h.n2,h.n3,h.n4⟩
theorem Y9.ext(h:Y9 w b pb gp rb rg c t bs u)(hx:Ext w w'):Y9 w' b pb gp rb rg c t bs u:=
 h.chg (P:=fun _=>False) (Zy3 hx) (fun a=>a) ⟨fun a=>a,fun a=>a⟩ ⟨fun a=>a,fun a=>a⟩
theorem Y9.lt(h:Y9 w b pb gp rb rg c t bs u):b<w.heap.size∧pb<w.heap.size∧gp<w.heap.size∧rb<w.heap.size∧rg<w.heap.size:=
 ⟨Zj h.c0,h.plan.lt.1,h.plan.lt.2,h.row.lt,h.row.glt h.pos⟩
theorem Y9.turned{w1:World}(h:Y9 w b pb gp rb rg c t bs u0)(hr:Z1 w1 rb rg bs')(hx:Chg (tch rg bs) w w1)(hl:bs'.length=bs.length)(u:Int) :
  Y9 (w1.setCell ⟨b,2,none⟩ (.int .i64 u)) b pb gp rb rg c t bs' u∧Chg (arB b rg) w (w1.setCell ⟨b,2,none⟩ (.int .i64 u)):=by
 have nb:¬tch rg bs b:=fun q=>h.n2 q.2.symm
 have x2:Chg (fun k=>k=b) w1 (w1.setCell ⟨b,2,none⟩ (.int .i64 u)):=Chg.setCell (P:=fun k=>k=b) (p:=⟨b,2,none⟩) (Chg.refl _ w1) (.inl rfl) _;have d2:=hx.cell nb h.c2;have oth:∀i v,i≠2→w1.cell? ⟨b,i,none⟩=some v→(w1.setCell ⟨b,2,none⟩ (.int .i64 u)).cell? ⟨b,i,none⟩=some v:=fun i v hi hc=>by
  have:=Zy0 w1 ⟨b,2,none⟩ ⟨b,i,none⟩ (.int .i64 u) (by intro e;cases e;exact hi rfl);rw[this];exact hc
 refine⟨⟨(h.plan.chg hx (fun q=>h.n3.2 q.2) (fun q=>h.n4.2 q.2)).chg x2 h.n3.1 h.n4.1,hr.chg x2 h.n1 fun _=>h.n2,by rw[hl];exact h.len,oth 0 _ (by decide) (hx.cell nb h.c0),oth 1 _ (by decide) (hx.cell nb h.c1),Zyz _ _ _ d2,?_,h.n1,h.n2,h.n3,h.n4⟩,?_⟩
 ·simp only[World.frozen?_setCell];rw[hx.frozen (p:=⟨b,2,none⟩) (Zj h.c2) nb];exact h.fz
 ·exact(hx.mono fun k q=>.inr q.2).trans (x2.mono fun k q=>.inl q)
theorem Wg(h:X7 w b pb gp rb rg c t bs):Calls prog 48 #[b] w fun e w'=>e=.returned (.bool false)∧w=w':=by
 have h1:=h.c1;clear h;go_enter func48,ntmps48;go_wp2;go_ret;exact⟨rfl,rfl⟩
theorem Zav:Zi prog 319:=Zi.mk func319 (by kernel_rfl) rfl
theorem Zaw:Zi prog 394:=Zi.mk func394 (by kernel_rfl) rfl
theorem Zdl{z:Nat}{s u v:Int}(h0:w.cell? z=some (b:Value))(h2:w.cell? ⟨b,2,none⟩=some (.int .i64 u))(hs:0≤s∧s≤64)(hu:0≤u∧u≤1048576)(hv:u+s=v) :
  Calls prog 319 #[.int .i64 s,z] w fun e w'=>e=.returned (.int .i64 v)∧w=w':=by
 subst hv;obtain⟨s0,s1⟩:=hs;obtain⟨u0,u1⟩:=hu;go_enter func319,ntmps319;go_wp2;go_ret;exact⟨rfl,rfl⟩
theorem Zdm{z:Nat}{s u v:Int}(h0:w.cell? z=some (b:Value))(h2:w.cell? ⟨b,2,none⟩=some (.int .i64 u))(hs:0≤s∧s≤64)(hu:-1048576≤u∧u≤1048576)(hv:u-s=v) :
  Calls prog 394 #[.int .i64 s,z] w fun e w'=>e=.returned (.int .i64 v)∧w=w':=by
 subst hv;obtain⟨s0,s1⟩:=hs;obtain⟨u0,u1⟩:=hu;go_enter func394,ntmps394;go_wp2;go_ret;exact⟨rfl,rfl⟩
theorem It{g z s:Nat}{v:Bool}{u u0:Int}(h:Y9 w b pb gp rb rg c t bs u0)(hs:s<nS c t)(hk:Zi prog g)
  (hg:∀W,W.cell? z=some (b:Value)→W.cell? ⟨b,2,none⟩=some (.int .i64 u0)→Calls prog g #[.int .i64 (Zcj c t s),z] W fun e w'=>e=.returned (.int .i64 u)∧W=w')
  (hz:w.cell? z=some (b:Value)) (nz:z≠rg) :
  Calls prog 318 #[b,.int .i64 s,v,.func (.func g) #[] #[z]] w fun e w'=>e=.returned (.tuple #[])∧Y9 w' b pb gp rb rg c t (bs.set s v) u∧Chg (arB b rg) w w':=by
 unfold Zi at hk;have hsl:s<bs.length:=by rw[h.len];exact hs
 have SK:=Za (Zc8 h.plan.ok h.plan.ti hs);have SZ:=Za (show nth c.cl (kOf c t (s:Int))=Zcj c t s from rfl);have BR:=Za (Vt (is:=v) hsl);have HL:Hid ((bs.set s v).length=bs.length):=Za (by rw[List.length_set]);have H:=Za h;have HG:=Za hg;have HZ:=Za hz;have c0:=h.c0;have c1:=h.c1;have nt:¬tch rg bs z:=fun q=>nz q.2
 have nb:¬tch rg bs b:=fun q=>h.n2 q.2.symm
 clear h hg hz hsl hs;go_enter func318,ntmps318;go_wp2_with fail;refine(Fi _ SZ.out H.out.plan SK.out).ze fun w1 x1=>?_;have X1:=Za x1;replace c1:=x1.cell c1;clear x1 c0;go_wp2_with fail;refine(Pb bs _ 0 (H.out.row.ext X1.out) BR.out).mono ?_;rintro e w2 ⟨rfl,hr2,hc2⟩;have z2:=hc2.cell nt (X1.out.cell HZ.out);have u2:=hc2.cell nb (X1.out.cell H.out.c2);have f2:w2.frozen? ⟨b,2,none⟩=false:=by rw[hc2.frozen (p:=⟨b,2,none⟩) (Zj (X1.out.cell H.out.c2)) nb];exact X1.out.frozenAt H.out.c2 H.out.fz
 have HR2:=Za hr2;have HC2:=Za ((Zy3 X1.out).trans hc2);have CG:=Za (HG.out w2 z2 u2);clear hr2 hc2 z2 c1;go_wp2_with fail;refine CG.out.zz ?_;go_wp2
 go_end0
 obtain⟨q1,q2⟩:=H.out.turned HR2.out HC2.out HL.out u;exact⟨rfl,q1,q2⟩
theorem Zh3{g z s:Nat}{v:Bool}{u:Int}(h:X7 w b pb gp rb rg c t bs)(hs:s<nS c t)(hk:Zi prog g)(hu:Xh c t (bs.set s v)=u)
  (hg:∀W,W.cell? z=some (b:Value)→W.cell? ⟨b,2,none⟩=some (.int .i64 (Xh c t bs))→Calls prog g #[.int .i64 (Zcj c t s),z] W fun e w'=>e=.returned (.int .i64 u)∧W=w')
  (hz:w.cell? z=some (b:Value)) (nz:z≠rg) :
  Calls prog 318 #[b,.int .i64 s,v,.func (.func g) #[] #[z]] w fun e w'=>e=.returned (.tuple #[])∧X7 w' b pb gp rb rg c t (bs.set s v)∧Chg (arB b rg) w w':=by
 subst hu;exact It h hs hk hg hz nz
end
section
variable{w w':World}{b pb gp rb rg:Nat}{c:Zh}{t:Nat}{bs bs':List Bool}
theorem Zh4{k p e:Int}(h:X7 w b pb gp rb rg c t bs)(hT:Tab w)(hr:Zhp c t bs k bs' p e) :
  Calls prog 277 #[b,.int .i64 k] w fun r w'=>r=.returned (.tuple #[.int .i64 p,.int .i64 e])∧X7 w' b pb gp rb rg c t bs'∧Chg (arB b rg) w w':=by
 have hmf:=Ze
 have x0:=(Zy2 w).alloc (.cells #[b] 63);have H:=Za (h.ext x0);have HT:=Za (hT.ext x0);have X0:=Za x0;have c0:=(h.ext x0).c0;have c1:=(h.ext x0).c1;have cz:=Zr w (b:Value) 63;have HR:=Za hr;have hlt:=h.lt;clear x0 h hT;rcases hr with ⟨hk,rfl,rfl,rfl⟩|⟨j,rfl,hj,hr⟩
 ·by_cases hn:k<0
  ·have ON:=Za (fun W (h:Zt W pb gp c t)=>Zc6 h hn);clear hk hn HR;go_enter func277,ntmps277;go_wp2_with fail;refine(Wg H.out).zz ?_;go_wp2_with fail;refine(ON.out _ H.out.plan).ze fun w1 x1=>?_;go_wp2;go_ret2;exact⟨rfl,H.out.ext x1,Zy3 (X0.out.trans x1)⟩
  ·have ON:=Za (fun W (h:Zt W pb gp c t)=>Zhc (k:=k) h (by omega));clear hk hn HR;go_enter func277,ntmps277;go_wp2_with fail;refine(Wg H.out).zz ?_;go_wp2_with fail;refine(ON.out _ H.out.plan).ze fun w1 x1=>?_;go_wp2;go_ret2;exact⟨rfl,H.out.ext x1,Zy3 (X0.out.trans x1)⟩
 ·obtain⟨p',q,hnx⟩:=Na bs (sS c t j) false;have NX:=Za hnx;have ON:=Za (fun W (h:Zt W pb gp c t)=>Ztx h hj);have hs0:=H.out.plan.ok.sS_le H.out.plan.ti (k:=j) (by omega);have hs1:=H.out.plan.ok.sS_le H.out.plan.ti (k:=j+1) (by omega);have hsu:sS c t (j+1)=sS c t j+Zl c t j:=rfl;have m8:=H.out.plan.ok.cl.most;have hle:=H.out.plan.ok.nS_le H.out.plan.ti;have hne:=H.out.plan.ok.nS_eq H.out.plan.ti;by_cases hq:q=true∧p'<sS c t j+Zl c t j
  ·obtain⟨rfl,hlt'⟩:=hq;rcases hnx with ⟨_,s,rfl,h1,h2,h3,h4⟩|⟨hf,_⟩
   ·have hin:Rz c t j s:=⟨h1,by rw[hsu];exact hlt'⟩;obtain⟨rfl,rfl,rfl⟩:bs'=bs.set s true∧p=(s:Int)∧e=0:=by
     rcases hr with ⟨s',a1,a2,a3,rfl,rfl,rfl⟩|⟨a1,_⟩
     ·rcases Nat.lt_trichotomy s s' with g|g|g
      ·rw[a3 s hin g] at h3;cases h3
      ·subst g;exact⟨rfl,rfl,rfl⟩
      ·have:=h4 s' a1.1 g;rw[a2] at this;cases this
     ·rw[a1 s hin] at h3;cases h3
    have hsn:s<nS c t:=by rw[←H.out.len];exact h2
    have SZ:=Ij H.out.plan.ok H.out.plan.ti hsn;have US:=Zak H.out.len h2 h3;have UB:=Ik H.out.plan.ok H.out.plan.ti bs;have t1:decide (sS c t j+Zl c t j≤(s:Int))=false:=Zyx (by omega);have AT:=Za (fun W (h:X7 W b pb gp rb rg c t bs) (hz:W.cell? w.heap.size=some (b:Value))=>
     Zh3 (v:=true) h hsn Zav US (fun W z1 z2=>Zdl z1 z2 ⟨by omega,SZ.2⟩ UB rfl) hz (by omega))
    clear HR hr h4 hin h3 US UB SZ;go_enter func277,ntmps277;go_wp2_with fail;refine(Wg H.out).zz ?_;go_wp2_with fail;refine(ON.out _ H.out.plan).ze fun w1 x1=>?_;replace c1:=x1.cell c1;replace cz:=x1.cell cz;go_wp2_with fail;refine(Sq bs _ _ (H.out.row.ext x1) (HT.out.ext x1) NX.out).ze fun w2 x2=>?_;replace c1:=x2.cell c1;replace cz:=x2.cell cz;replace x1:=x1.trans x2;clear x2;go_wp2_with fail;refine(AT.out _ (H.out.ext x1) cz).mono ?_;rintro e w3 ⟨rfl,h3,hc3⟩;go_wp2;go_ret2;exact⟨rfl,h3,(Zy3 (X0.out.trans x1)).trans hc3⟩
   ·cases hf
  ·have hno:∀i:Nat,Rz c t j i→Zu bs i=true:=by
    intro i hi;rcases hnx with ⟨hq1,s,rfl,h1,h2,h3,h4⟩|⟨_,_,h4⟩
    ·have g:sS c t j+Zl c t j≤(s:Int):=by
      rcases Int.lt_or_le (s:Int) (sS c t j+Zl c t j) with g|g
      ·exact absurd ⟨hq1,g⟩ hq
      ·exact g
     have:=hi.2;exact h4 i hi.1 (by omega)
    ·exact h4 i hi.1 (by rw[H.out.len];exact Ll H.out.plan.ok H.out.plan.ti hj hi)
   obtain⟨rfl,rfl,rfl⟩:bs'=bs∧p=0∧e=6:=by
    rcases hr with ⟨s',a1,a2,a3,rfl,rfl,rfl⟩|⟨a1,a2⟩
    ·rw[hno s' a1] at a2;cases a2
    ·exact a2
   cases q
   ·clear HR hr hno hq hnx;go_enter func277,ntmps277;go_wp2_with fail;refine(Wg H.out).zz ?_;go_wp2_with fail;refine(ON.out _ H.out.plan).ze fun w1 x1=>?_;replace c1:=x1.cell c1;replace cz:=x1.cell cz;go_wp2_with fail;refine(Sq bs' _ _ (H.out.row.ext x1) (HT.out.ext x1) NX.out).ze fun w2 x2=>?_;replace x1:=x1.trans x2;clear x2;go_wp2;go_ret2;exact⟨rfl,H.out.ext x1,Zy3 (X0.out.trans x1)⟩
   ·have t1:decide (sS c t j+Zl c t j≤p')=true:=Zyy (by
     rcases Int.lt_or_le p' (sS c t j+Zl c t j) with g|g
     ·exact absurd ⟨rfl,g⟩ hq
     ·exact g)
    have tw:wrap64 (sS c t j+Zl c t j)=sS c t j+Zl c t j:=by unfold wrap64;omega
    have t2:¬p'<sS c t j+Zl c t j:=by simpa using t1
    clear HR hr hno hq hnx;go_enter func277,ntmps277;go_wp2_with fail;refine(Wg H.out).zz ?_;go_wp2_with fail;refine(ON.out _ H.out.plan).ze fun w1 x1=>?_;replace c1:=x1.cell c1;replace cz:=x1.cell cz;go_wp2_with fail;refine(Sq bs' _ _ (H.out.row.ext x1) (HT.out.ext x1) NX.out).ze fun w2 x2=>?_;replace x1:=x1.trans x2;clear x2;go_wp2;go_ret2;exact⟨rfl,H.out.ext x1,Zy3 (X0.out.trans x1)⟩
theorem Zdn{s:Nat}{u:Int}(h:Y9 w b pb gp rb rg c t bs u)(hs:s<bs.length)(hu:-1048576≤u∧u≤1048576) :
  Calls prog 392 #[b,.int .i64 s] w fun r w'=>r=.returned (.tuple #[])∧Y9 w' b pb gp rb rg c t (bs.set s false) (u-Zcj c t s)∧Chg (arB b rg) w w':=by
 have hmf:=Ze
 have x0:=(Zy2 w).alloc (.cells #[b] 63);have H:=Za (h.ext x0);have X0:=Za x0;have cz:=Zr w (b:Value) 63;have hlt:=h.lt;have hsn:s<nS c t:=by rw[←h.len];exact hs
 have SZ:=Ij h.plan.ok h.plan.ti hsn;have AT:=Za (It (v:=false) (u:=u-Zcj c t s) H.out hsn Zaw (fun W z1 z2=>Zdm z1 z2 ⟨by omega,SZ.2⟩ hu rfl) cz (by omega));clear x0 h hu SZ cz;go_enter func392,ntmps392;go_wp2_with fail;refine AT.out.mono ?_;rintro e w3 ⟨rfl,h3,hc3⟩;go_wp2
 go_end0
 exact⟨rfl,h3,(Zy3 X0.out).trans hc3⟩
end
section
structure V5(w:World)(rg n f:Nat)(q:List Int):Prop where
 fn:f<n
 ql:q.length≤n
 all:∀i,i<n→∃x:Int,w.cell? ⟨rg,i,none⟩=some (.int .i64 x)
 el:∀i,i<q.length→w.cell? ⟨rg,(f+i) % n,none⟩=some (.int .i64 (nth q i))
 fz:∀o,w.frozen? ⟨rg,o,none⟩=false
section
variable{w w':World}{rg n f:Nat}{q:List Int}
theorem V5.lt(h:V5 w rg n f q):rg<w.heap.size:=by
 obtain⟨x,hx⟩:=h.all f h.fn;exact Zj hx
theorem V5.chg{Q:Nat→Prop}(h:V5 w rg n f q)(hx:Chg Q w w')(hq:¬Q rg):V5 w' rg n f q:=
 ⟨h.fn,h.ql,fun i hi=>by obtain⟨x,hc⟩:=h.all i hi;exact⟨x,hx.cell hq hc⟩,fun i hi=>hx.cell hq (h.el i hi),fun o=>by rw[hx.frozen (p:=⟨rg,o,none⟩) h.lt hq];exact h.fz o⟩
theorem V5.clear(h:V5 w rg n f q)(hn:0<n):V5 w rg n 0 []:=
 ⟨hn,Nat.zero_le _,h.all,fun i hi=>absurd hi (Zzb i),h.fz⟩
theorem V5.pop{x:Int}(h:V5 w rg n f (x :: q)):w.cell? ⟨rg,f,none⟩=some (.int .i64 x)∧V5 w rg n ((f+1) % n) q:=by
 have hf:=h.fn;have hl:=h.ql;simp only[List.length_cons] at hl;refine⟨?_,Nat.mod_lt _ (by omega),by omega,h.all,fun i hi=>?_,h.fz⟩
 ·have:=h.el 0 (by simp)
  rwa [Nat.add_zero,Nat.mod_eq_of_lt hf] at this
 ·have:=h.el (i+1) (by simp;omega);rw[Nat.mod_add_mod,show f+1+i=f+(i+1) by omega];rw[this];simp[nth,List.getD]
theorem Zft{n f i:Nat}(hf:f<n)(hi:i<n):(f+i) % n=if f+i<n then f+i else f+i-n:=by
 split
 ·rename_i h;exact Nat.mod_eq_of_lt h
 ·rename_i h;rw[Nat.mod_eq_sub_mod (by omega),Nat.mod_eq_of_lt (by omega)]
theorem Zud{n f i j:Nat}(hf:f<n)(hi:i<n)(hj:j<n)(h:i≠j):(f+i) % n≠(f+j) % n:=by
 rw[Zft hf hi,Zft hf hj];split<;>split<;>omega
theorem V5.push(h:V5 w rg n f q)(hl:q.length<n)(s:Int):V5 (w.setCell ⟨rg,(f+q.length) % n,none⟩ (.int .i64 s)) rg n f (q++[s]):=by
 have hf:=h.fn;obtain⟨x0,hx0⟩:=h.all ((f+q.length) % n) (Nat.mod_lt _ (by omega));refine⟨hf,by simp;omega,fun i hi=>?_,fun i hi=>?_,fun o=>by rw[World.frozen?_setCell];exact h.fz o⟩
 ·by_cases e:i=(f+q.length) % n
  ·subst e;exact⟨s,Zyz _ _ _ hx0⟩
  ·obtain⟨x,hc⟩:=h.all i hi;exact⟨x,by rw[Zy0 _ _ _ _ (by intro g;cases g;exact e rfl)];exact hc⟩
 ·simp only[Zy9,List.length_singleton] at hi;by_cases e:i=q.length
  ·subst e;rw[Zyz _ _ _ hx0];simp[nth,List.getD]
  ·have hne:=Zud hf (i:=i) (j:=q.length) (by omega) hl e;rw[Zy0 _ _ _ _ (by intro g;exact hne (by injection g with _ g2 _;exact g2.symm))];rw[h.el i (by omega)];have:(q++[s])[i]?=q[i]?:=List.getElem?_append_left (by omega);simp[nth,List.getD,this]
end
def grB(b og dg rg k:Nat):Prop:=k=b∨k=og∨k=dg∨k=rg
def gcs(ob db pb rg n f:Nat)(g:GS):List Value:=[(ob:Value),(db:Value),(pb:Value),.slice (some ⟨rg,0,none⟩) n n,.int .i64 f,.int .i64 g.q.length,.int .i64 g.at_,.int .i64 g.en]
structure Vu(w:World)(b pb gp ob og db dg rg:Nat)(c:Zh)(t n f:Nat)(g:GS):Prop where
 plan:Zt w pb gp c t
 ow:Z1 w ob og g.ow
 di:Z1 w db dg g.di
 ok:GOk c t n g
 n1:1≤n∧n≤64
 box:Zn w b (gcs ob db pb rg n f g)
 ring:V5 w rg n f g.q
 nb:b≠pb∧b≠gp∧b≠ob∧b≠og∧b≠db∧b≠dg∧b≠rg
 no:og≠pb∧og≠gp∧og≠ob∧og≠db∧og≠dg∧og≠rg
 nd:dg≠pb∧dg≠gp∧dg≠ob∧dg≠db∧dg≠rg
 nr:rg≠pb∧rg≠gp∧rg≠ob∧rg≠db
def Ri(w:World)(b pb gp ob og db dg rg:Nat)(c:Zh)(t n:Nat)(g:GS):Prop:=∃f,Vu w b pb gp ob og db dg rg c t n f g
variable{w w':World}{b pb gp ob og db dg rg:Nat}{c:Zh}{t n f:Nat}{g:GS}
theorem Vu.opos(h:Vu w b pb gp ob og db dg rg c t n f g):0<g.ow.length:=by have:=h.plan.ok.nS_pos h.plan.ti;rw[h.ok.ol];omega
theorem Vu.dpos(h:Vu w b pb gp ob og db dg rg c t n f g):0<g.di.length:=by have:=h.plan.ok.nG_pos h.plan.ti;rw[h.ok.dl];omega
theorem Vu.chg{P:Nat→Prop}(h:Vu w b pb gp ob og db dg rg c t n f g)(hx:Chg P w w')(hb:¬P b)(hp:¬P pb∧¬P gp)(ho:¬P ob∧¬P og)(hd:¬P db∧¬P dg)(hr:¬P rg):Vu w' b pb gp ob og db dg rg c t n f g:=
 ⟨h.plan.chg hx hp.1 hp.2,h.ow.chg hx ho.1 fun _=>ho.2,h.di.chg hx hd.1 fun _=>hd.2,h.ok,h.n1,h.box.chg hx hb,h.ring.chg hx hr,h.nb,h.no,h.nd,h.nr⟩
theorem Vu.ext(h:Vu w b pb gp ob og db dg rg c t n f g)(hx:Ext w w'):Vu w' b pb gp ob og db dg rg c t n f g:=
 h.chg (P:=fun _=>False) (Zy3 hx) (fun a=>a) ⟨fun a=>a,fun a=>a⟩ ⟨fun a=>a,fun a=>a⟩ ⟨fun a=>a,fun a=>a⟩ (fun a=>a)
theorem Vu.lt(h:Vu w b pb gp ob og db dg rg c t n f g):b<w.heap.size∧pb<w.heap.size∧gp<w.heap.size∧ob<w.heap.size∧og<w.heap.size∧db<w.heap.size∧dg<w.heap.size∧rg<w.heap.size:=
 ⟨h.box.lt,h.plan.lt.1,h.plan.lt.2,h.ow.lt,h.ow.glt h.opos,h.di.lt,h.di.glt h.dpos,h.ring.lt⟩
theorem Yl(h:Vu w b pb gp ob og db dg rg c t n f g):Calls prog 337 #[b] w fun e w'=>e=.returned (.bool false)∧w=w':=by
 have c3:=h.box.c 3 _ rfl;have n1:=h.n1;have t1:((n:Int)==0)=false:=by simp;omega
 clear h;go_enter func337,ntmps337;go_wp2;go_ret;exact⟨rfl,rfl⟩
theorem Rj{m:Nat}(h:Vu w b pb gp ob og db dg rg c t n f g)(hm:Zk8 g=m):Calls prog 338 #[b] w fun e w'=>e=.returned (.int .i64 m)∧w=w':=by
 have c0:=h.box.c 0 _ rfl;have H:=Za h;have CN:=Za (Zam g.ow m h.ow hm);clear h hm;go_enter func338,ntmps338;go_wp2_with fail;refine(Yl H.out).zz ?_;go_wp2_with fail;refine(CN.out).zz ?_;go_wp2;go_ret;exact⟨rfl,rfl⟩
end
section
variable{w w':World}{b pb gp rb rg:Nat}{c:Zh}{t:Nat}{bs bs':List Bool}
theorem Rk{s:Int}(r:Bool)(h:X7 w b pb gp rb rg c t bs)(hr:Zpq bs s=r) :
  Calls prog 23 #[b,.int .i64 s] w fun e w'=>e=.returned (.bool r)∧w=w':=by
 have H:=Za h;have c1:=h.c1;have GE:=Za (Cg bs r h.row hr);clear h hr;go_enter func23,ntmps23;go_wp2_with fail;refine(Wg H.out).zz ?_;go_wp2_with fail;refine(GE.out).zz ?_;go_wp2;go_ret;exact⟨rfl,rfl⟩
theorem Fq{u:Int}(h:X7 w b pb gp rb rg c t bs)(hu:Xh c t bs=u) :
  Calls prog 151 #[b] w fun e w'=>e=.returned (.int .i64 u)∧w=w':=by
 subst hu;have H:=Za h;have c2:=h.c2;clear h;go_enter func151,ntmps151;go_wp2_with fail;refine(Wg H.out).zz ?_;go_wp2;go_ret;exact⟨rfl,rfl⟩
def Pz(pb gp:Nat)(c:Zh)(t:Nat)(bs:List Bool)(w:World)(r:Value)(w':World):Prop:=
 ∃b rb rg,r=.pointer (some ⟨b,0,none⟩)∧X7 w' b pb gp rb rg c t bs∧w.heap.size≤b∧w.heap.size≤rb∧w.heap.size≤rg∧Ext w w'
theorem Pz.mk'{W:World}{u:TypeId}{x:Int}(hp:Zt W pb gp c t)(hr:Z1 W rb rg bs)(hl:bs.length=nS c t)(hu:Xh c t bs=x)(h1:w.heap.size≤rb)(h2:0<bs.length→w.heap.size≤rg)(l1:pb<w.heap.size)(l2:gp<w.heap.size)(hx:Ext w W) :
  Pz pb gp c t bs w (W.heap.size:Value) (W.alloc (.cells #[pb,.pointer (some ⟨rb,0,none⟩),.int .i64 x] u)):=by
 subst hu;have hpos:0<bs.length:=by have:=hp.ok.nS_pos hp.ti;rw[hl];omega
 have h2':=h2 hpos;have y:=(Zy2 W).alloc (.cells #[pb,.pointer (some ⟨rb,0,none⟩),.int .i64 (Xh c t bs)] u);have r1:=hr.lt;have r2:=hr.glt hpos;have s0:=hx.size;exact⟨_,rb,rg,rfl,⟨hp.ext y,hr.ext y,hl,Zg W _ u 0,Zg W _ u 1,Zg W _ u 2,World.frozen?_alloc_at _ _ _ _ rfl,by omega,by omega,⟨by omega,by omega⟩,by omega,by omega⟩,s0,h1,h2',hx.alloc _⟩
theorem Zh5(h:X7 w b pb gp rb rg c t bs) :
  Calls prog 186 #[.pointer (some ⟨b,0,none⟩)] w fun e w'=>∃r,e=.returned r∧Pz pb gp c t bs w r w':=by
 have H:=Za h;have c0:=h.c0;have c1:=h.c1;have c2:=h.c2;obtain⟨x,hx⟩:=Zb (Xh c t bs);rw[hx] at c2;have HX:=Za hx;have hd:Ext w w.drew:=(Zy2 w).drew;have CP:Hid (∀w',Ext w w'→Calls prog 219 #[.pointer (some ⟨rb,0,none⟩)] w' (Zfn bs w')):=Za fun w' x=>Ci bs (H.out.row.ext x)
 clear h hx;go_enter func186,ntmps186;go_wp2_with fail;refine(Wg H.out).zz ?_;go_wp2_with fail
 go_region_held3 (fun w'=>w'.cell? b=some (pb:Value)∧w'.cell? ⟨b,1,none⟩=some (rb:Value)∧w'.cell? ⟨b,2,none⟩=some (.int .i64 x))
  ((first|go_keep|(go_split_ands;exact⟨hE.cell (by assumption),hE.cell (by assumption),hE.cell (by assumption)⟩)))
  ((go_at_call 219;refine(CP.out _ ?_).mono ?_;assumption;rintro e w1 ⟨b1,g1,rfl,hr1,l1,l2,hE⟩))
 all_goals
  go_wp2;go_ret;have y:=hd.trans hE;exact⟨_,rfl,Pz.mk' (H.out.plan.ext y) hr1 H.out.len HX.out l1 l2 H.out.lt.2.1 H.out.lt.2.2.1 y⟩
theorem Zlu(h:Zt w pb gp c t) :
  Calls prog 140 #[pb] w fun e w'=>∃r,e=.returned (.tuple #[r,(0:Int)])∧Pz pb gp c t (List.replicate (nS c t) false) w r w':=by
 have ho:=h.ok;have ht:=h.ti;have hn:=ho.nS_eq ht;have hle:=ho.nS_le ht;have hpo:=ho.nS_pos ht;have SL:=Za (fun W (h:Zt W pb gp c t)=>Yx (nS c t:Int) hn.symm h);have H:=Za h;have BN:=Za (fun W:World=>N7 (w:=W) (nS c t) (by omega));have HU:=Za (show Xh c t (List.replicate (nS c t) false)=0 from Zdb _);clear h hn;obtain⟨N,hN⟩:∃n,nS c t=n:=⟨_,rfl⟩;rw[hN] at SL BN HU hle hpo ⊢;have EN:=Za hN;clear hN;go_enter func140,ntmps140;go_wp2_with fail;refine(SL.out _ H.out).zz ?_;go_wp2_with fail;refine(SL.out _ H.out).zz ?_;go_wp2_with fail;refine(BN.out _).mono ?_;rintro e w1 ⟨b1,g1,rfl,h1,l1,l2,x1⟩;go_wp2;go_ret2;have:=H.out.lt;have HU':=HU.out;exact⟨_,rfl,Pz.mk' (H.out.ext x1) h1 (by rw[Zza];exact EN.out.symm) HU' l1 (by rw[Zza];exact l2) this.1 this.2 x1⟩
end
section
variable{w w':World}{b pb gp ob og db dg rg:Nat}{c:Zh}{t n f:Nat}{g:GS}{ow di:List Bool}
theorem Z1.near{w w':World}{g b' g':Nat}{bs cs:List Bool}(h:Z1 w b' g' cs)(hx:Chg (tch g bs) w w')(h1:0<bs.length→g≠b')(h2:0<bs.length→0<cs.length→g≠g'):Z1 w' b' g' cs:=
 h.chg hx (fun ⟨hp,e⟩=>h1 hp e.symm) (fun hc ⟨hp,e⟩=>h2 hp hc e.symm)
structure Lt(w:World)(ob og db dg:Nat)(ow di:List Bool):Prop where
 ow:Z1 w ob og ow
 di:Z1 w db dg di
 n:og≠ob∧og≠db∧og≠dg∧dg≠ob∧dg≠db
def deB(og dg k:Nat):Prop:=k=og∨k=dg
theorem Lt.ext(h:Lt w ob og db dg ow di)(hx:Ext w w'):Lt w' ob og db dg ow di:=⟨h.ow.ext hx,h.di.ext hx,h.n⟩
theorem Vu.debts(h:Vu w b pb gp ob og db dg rg c t n f g):Lt w ob og db dg g.ow g.di:=
 ⟨h.ow,h.di,h.no.2.2.1,h.no.2.2.2.1,h.no.2.2.2.2.1,h.nd.2.2.1,h.nd.2.2.2.1⟩
theorem Zlv{s p:Nat}(h:Lt w ob og db dg ow di)(hs:s<ow.length)(hp:p<di.length) :
  Calls prog 383 #[.agg #[ob,db],.int .i64 s,.int .i64 p] w fun e w'=>e=.returned (.tuple #[])∧Lt w' ob og db dg (ow.set s true) (di.set p true)∧Chg (deB og dg) w w':=by
 have x0:=(Zy2 w).alloc (.cells #[ob,db] 325);have H:=Za (h.ext x0);have X0:=Za x0;have BO:=Za (Vt (is:=true) hs);have BD:=Za (Vt (is:=true) hp);have c1:(w.alloc (.cells #[ob,db] 325)).cell? w.heap.size=some (ob:Value):=Zg w _ _ 0;have c2:(w.alloc (.cells #[ob,db] 325)).cell? ⟨w.heap.size,1,none⟩=some (db:Value):=Zg w _ _ 1;have l1:=h.ow.glt (by omega);have n1:¬tch og ow w.heap.size:=fun q=>by have:=q.2;omega
 clear x0 h;go_enter func383,ntmps383;go_wp2_with fail;refine(Pb ow _ 0 H.out.ow BO.out).mono ?_;rintro e w1 ⟨rfl,r1,k1⟩;replace c2:=k1.cell n1 c2;have R1:=Za r1;have K1:=Za k1;clear r1 k1;go_wp2_with fail;refine(Pb di _ 0 (H.out.di.near K1.out (fun _=>H.out.n.2.1) (fun _ _=>H.out.n.2.2.1)) BD.out).mono ?_;rintro e w2 ⟨rfl,r2,k2⟩;go_wp2
 go_end0
 refine⟨rfl,⟨R1.out.near k2 (fun _=>H.out.n.2.2.2.1) (fun _ _=>H.out.n.2.2.1.symm),r2,H.out.n⟩,?_⟩;exact(Zy3 X0.out).trans ((K1.out.mono fun k q=>.inl q.2).trans (k2.mono fun k q=>.inr q.2))
theorem Zax{s:Nat}(r:Bool)(h:Lt w ob og db dg ow di)(hs:s<ow.length)(hr:Zu ow s=r) :
  Calls prog 342 #[.agg #[ob,db],.int .i64 s] w fun e w'=>e=.returned (.bool r)∧Lt w' ob og db dg (ow.set s false) di∧Chg (deB og dg) w w':=by
 have x0:=(Zy2 w).alloc (.cells #[ob,db] 325);have H:=Za (h.ext x0);have X0:=Za x0;have BO:=Za (Vt (is:=false) hs);have BG:Hid (Zpq ow (s:Int)=r):=Za (by rw[Tj];exact hr);have c1:(w.alloc (.cells #[ob,db] 325)).cell? w.heap.size=some (ob:Value):=Zg w _ _ 0;clear x0 h hr;go_enter func342,ntmps342;go_wp2_with fail;refine(Cg ow r H.out.ow BG.out).zz ?_;go_wp2_with fail;refine(Pb ow _ 0 H.out.ow BO.out).mono ?_;rintro e w1 ⟨rfl,r1,k1⟩;go_wp2;go_ret;exact⟨rfl,⟨r1,H.out.di.near k1 (fun _=>H.out.n.2.1) (fun _ _=>H.out.n.2.2.1),H.out.n⟩,(Zy3 X0.out).trans (k1.mono fun k q=>.inl q.2)⟩
end
theorem Zk(w:World)(d:Nat)(os:Array Obj):Ext w (Sort.grow (redrawn w d) os):=Ext.of (below_regrown w d os)
theorem reg{P:Program}{f:FuncId}{args:Array Value}{w:World}{d:Nat}{os:Array Obj}{v:Value}
  (h:Calls P f args (Sort.grow (redrawn w d) os) fun e w'=>e=.returned v∧Ext (Sort.grow (redrawn w d) os) w'):Calls P f args (Sort.grow (redrawn w d) os) fun e w''=>e=.returned v∧∃p:Regrown,w''=Sort.grow (redrawn w p.d) p.os:=Calls.regrown_of h
theorem Vp{P:Program}{f:FuncId}{args:Array Value}{w:World}{d:Nat}{os:Array Obj}{v:Value}
  (h:Calls P f args (Sort.grow (redrawn w d) os) fun e w'=>e=.returned v∧Sort.grow (redrawn w d) os=w'):Calls P f args (Sort.grow (redrawn w d) os) fun e w''=>e=.returned v∧∃p:Regrown,w''=Sort.grow (redrawn w p.d) p.os:=
 reg (h.mono fun _ _ ⟨h1,h2⟩=>⟨h1,h2▸Zy2 _⟩)
theorem Zs{w w':World}{p:Regrown}(h:w'=Sort.grow (redrawn w p.d) p.os):∃W,W=w'∧Ext w W:=⟨_,rfl,by rw[h];exact Zk _ _ _⟩
theorem Zc{P:Program}{ops:Array Oper}{w:World}{a:Act}{R:Act→World→Prop}(h:∀W,Ext w W→R a W):wpQuiet P ops (fun w'=>∃p:Regrown,w'=Sort.grow (redrawn w p.d) p.os) (fun a'=>∀w',(∃p:Regrown,w'=Sort.grow (redrawn w p.d) p.os)→R a' w') [] a:=wpQuiet_nil fun w' ⟨p,hp⟩=>by subst hp;exact h _ (Ext.of (below_regrown w p.d p.os))
section
variable{w w':World}{b pb gp ob og db dg rg:Nat}{c:Zh}{t n f:Nat}{g g':GS}
theorem Vu.paid{ow' di':List Bool}(h:Vu w b pb gp ob og db dg rg c t n f g)(hd:Lt w' ob og db dg ow' di')(hx:Chg (deB og dg) w w')(hok:GOk c t n { g with ow:=ow',di:=di' }):Vu w' b pb gp ob og db dg rg c t n f { g with ow:=ow',di:=di' }:=
 have n1:=h.nb;have n2:=h.no;have n3:=h.nd
 ⟨h.plan.chg hx (fun q=>q.elim (fun e=>n2.1 e.symm) (fun e=>n3.1 e.symm)) (fun q=>q.elim (fun e=>n2.2.1 e.symm) (fun e=>n3.2.1 e.symm)),hd.ow,hd.di,hok,h.n1,
  h.box.chg hx (fun q=>q.elim (fun e=>n1.2.2.2.1 e) (fun e=>n1.2.2.2.2.2.1 e)),h.ring.chg hx (fun q=>q.elim (fun e=>n2.2.2.2.2.2 e.symm) (fun e=>n3.2.2.2.2 e.symm)),h.nb,h.no,h.nd,h.nr⟩
theorem Iu{b og dg rg k:Nat}(h:deB og dg k):grB b og dg rg k:=h.elim (fun e=>.inr (.inl e)) (fun e=>.inr (.inr (.inl e)))
theorem Zqb{s e:Int}(h:Vu w b pb gp ob og db dg rg c t n f g)(hr:Zck c t n g s=(g',e)) :
  Calls prog 365 #[b,.int .i64 s] w fun r w'=>r=.returned (.int .i64 e)∧Ri w' b pb gp ob og db dg rg c t n g'∧Chg (grB b og dg rg) w w':=by
 have H:=Za h;obtain⟨v0,v1,v2,v3,v4,v5⟩:=h.box.k6;have hok:=Zdc h.ok s;rw[hr] at hok;have HOK:=Za hok;clear hok;unfold Zck at hr;by_cases hs:s<0∨(nS c t:Int)≤s
 ·rw[if_pos hs] at hr;cases hr;have NO:=Za (fun W (h:Zt W pb gp c t)=>Zae h (s:=s) (by have:=h.ok.nS_eq h.ti;omega));clear h hs;go_enter func365,ntmps365;go_wp2_with fail;refine(Yl H.out).zz ?_;go_wp2_with fail;refine(NO.out _ H.out.plan).ze fun w1 x1=>?_;go_wp2;go_ret;exact⟨rfl,⟨f,H.out.ext x1⟩,Zy3 x1⟩
 ·rw[if_neg hs] at hr;obtain⟨k,rfl⟩:=Int.eq_ofNat_of_zero_le (show 0≤s by omega);have hk:k<nS c t:=by omega
  have SF:=Cb h.plan.ok h.plan.ti hk;have PG:=Za (fun W (h:Zt W pb gp c t)=>Zhm _ SF.pg h SF.at_);have LD:Hid (k<g.ow.length∧pgN c t k<g.di.length):=Za ⟨by rw[h.ok.ol];exact hk,by rw[h.ok.dl];exact SF.lt⟩;clear SF;simp only[Zy4] at hr;have n1:=h.n1;have ql:=h.ok.ql;have hf:=h.ring.fn;by_cases hq:g.q.length<n
  ·rw[if_pos hq] at hr;cases hr;have t1:decide ((g.q.length:Int)=(n:Int))=false:=Zyx (by omega);clear h hs;have rr:((f:Int)+(g.q.length:Int)).tmod (n:Int)=(((f+g.q.length) % n:Nat):Int):=by
    rw[←Int.natCast_add];exact(Int.ofNat_tmod _ _).symm
   have rl:(f+g.q.length) % n<n:=Nat.mod_lt _ (by omega);have n0:(n:Int)≠0:=by omega
   obtain⟨m,hm⟩:=Zb (g.q.length);obtain⟨r,hrr⟩:=Zb ((f+g.q.length) % n);have R:=Za hrr;have M:=Za hm;rw[hrr] at rr rl;rw[hm] at v5 t1 rr hq ql;clear hrr hm;go_enter func365,ntmps365;go_wp2_with fail;refine(Yl H.out).zz ?_;go_wp2_with fail;refine(PG.out _ H.out.plan).ze fun w1 x1=>?_;replace v0:=x1.cell v0;replace v1:=x1.cell v1;replace v3:=x1.cell v3;replace v4:=x1.cell v4;replace v5:=x1.cell v5;go_wp2_with fail;have c0:=fun d os=>cell_regrown v0 d os;have c1:=fun d os=>cell_regrown v1 d os;have c3:=fun d os=>cell_regrown v3 d os;have c5:=fun d os=>cell_regrown v5 d os
   refine wp_region_quiet_below (by kernel_rfl) (by kernel_rfl) ?_
   repeat (any_goals (first|go_big_quiet_step (fail)|quiet_step (fail)))
   refine Zc fun WQ xq=>?_;replace v0:=xq.cell v0;replace v1:=xq.cell v1;replace v3:=xq.cell v3;replace v4:=xq.cell v4;replace v5:=xq.cell v5;clear c0 c1 c3 c5;have HQ:=Za (H.out.ext (x1.trans xq));obtain⟨y,vr⟩:=HQ.out.ring.all r rl;have vf:=HQ.out.ring.fz r;go_wp2_with fail
   go_region
   have nb:=HQ.out.nb;have nr:=HQ.out.nr;have no:=HQ.out.no;have nd:=HQ.out.nd;have xs:Chg (fun k=>k=rg) WQ (WQ.setCell ⟨rg,r,none⟩ (.int .i64 (k:Int))).drew:=(Chg.setCell (P:=fun k=>k=rg) (p:=⟨rg,r,none⟩) (Chg.refl _ WQ) (.inl rfl) _).drew;have ring3:V5 (WQ.setCell ⟨rg,r,none⟩ (.int .i64 (k:Int))).drew rg n f (g.q++[(k:Int)]):=by
    have:=HQ.out.ring.push (by rw[M.out];exact hq) (k:Int);rw[R.out] at this;exact this.chg (Q:=fun _=>False) (Chg.refl _ _).drew (fun a=>a)
   obtain⟨W3,hW3⟩:=Zb ((WQ.setCell ⟨rg,r,none⟩ (.int .i64 (k:Int))).drew);rw[hW3] at xs ring3 ⊢;have RI:=Za ring3;have XS:=Za xs;have B3:=Za (HQ.out.box.chg xs nb.2.2.2.2.2.2);have v5':W3.cell? ⟨b,5,none⟩=some (.int .i64 (m:Int)):=by rw[←M.out];exact B3.out.c 5 _ rfl
   have f5:=B3.out.f 5;clear v0 v1 v3 v4 v5 vr vf xs ring3 hW3;go_wp2;go_ret;have B4:=B3.out.set (i:=5) (by simp[gcs]) (.int .i64 ((m:Int)+1));have xb:Chg (fun k=>k=b) W3 (W3.setCell ⟨b,5,none⟩ (.int .i64 ((m:Int)+1))):=Chg.setCell (P:=fun k=>k=b) (p:=⟨b,5,none⟩) (Chg.refl _ W3) (.inl rfl) _;have xa:Chg (fun k=>k=b∨k=rg) WQ (W3.setCell ⟨b,5,none⟩ (.int .i64 ((m:Int)+1))):=(XS.out.mono fun k q=>.inr q).trans (xb.mono fun k q=>.inl q);refine⟨rfl,⟨f,⟨HQ.out.plan.chg xa (fun q=>q.elim (fun e=>nb.1 e.symm) fun e=>nr.1 e.symm) (fun q=>q.elim (fun e=>nb.2.1 e.symm) fun e=>nr.2.1 e.symm),
    HQ.out.ow.chg xa (fun q=>q.elim (fun e=>nb.2.2.1 e.symm) fun e=>nr.2.2.1 e.symm) (fun _ q=>q.elim (fun e=>nb.2.2.2.1 e.symm) fun e=>no.2.2.2.2.2 e),
    HQ.out.di.chg xa (fun q=>q.elim (fun e=>nb.2.2.2.2.1 e.symm) fun e=>nr.2.2.2 e.symm) (fun _ q=>q.elim (fun e=>nb.2.2.2.2.2.1 e.symm) fun e=>nd.2.2.2.2 e),
    HOK.out,n1,?_,RI.out.chg xb (fun e=>nb.2.2.2.2.2.2 e.symm),nb,no,nd,nr⟩⟩,(Zy3 (x1.trans xq)).trans (xa.mono fun k q=>q.elim .inl fun e=>.inr (.inr (.inr e)))⟩
   have e5:(gcs ob db pb rg n f g).set 5 (.int .i64 ((m:Int)+1))=gcs ob db pb rg n f { g with q:=g.q++[(k:Int)] }:=by
    simp[gcs,M.out]
   rw[e5] at B4;exact B4
  ·rw[if_neg hq] at hr;cases hr;obtain hqn:g.q.length=n:=by omega
   rw[hqn] at v5;have OW:=Za (fun W (h:Lt W ob og db dg g.ow g.di)=>Zlv h LD.out.1 LD.out.2);clear h hs;go_enter func365,ntmps365;go_wp2_with fail;refine(Yl H.out).zz ?_;go_wp2_with fail;refine(PG.out _ H.out.plan).ze fun w1 x1=>?_;replace v0:=x1.cell v0;replace v1:=x1.cell v1;replace v3:=x1.cell v3;replace v5:=x1.cell v5;go_wp2_with fail;have c0:=fun d os=>cell_regrown v0 d os;have c1:=fun d os=>cell_regrown v1 d os;have c3:=fun d os=>cell_regrown v3 d os;have c5:=fun d os=>cell_regrown v5 d os
   refine wp_region_quiet_below (by kernel_rfl) (by kernel_rfl) ?_
   repeat (any_goals (first|go_big_quiet_step (fail)|quiet_step (fail)))
   refine Zc fun WQ xq=>?_;replace v0:=xq.cell v0;replace v1:=xq.cell v1;go_wp2_with fail;refine(OW.out _ ((H.out.ext (x1.trans xq)).debts)).mono ?_;rintro e w2 ⟨rfl,d2,k2⟩;go_wp2;go_ret;exact⟨rfl,⟨f,(H.out.ext (x1.trans xq)).paid d2 k2 HOK.out⟩,(Zy3 (x1.trans xq)).trans (k2.mono fun k q=>Iu q)⟩
theorem Vu.stored{f':Nat}{q':List Int}{a' e':Nat}(h:Vu w b pb gp ob og db dg rg c t n f g)(hx:Chg (fun k=>k=b∨k=rg) w w')
  (hok:GOk c t n ⟨q',g.ow,g.di,a',e'⟩) (hb:Zn w' b (gcs ob db pb rg n f' ⟨q',g.ow,g.di,a',e'⟩)) (hr:V5 w' rg n f' q'):Vu w' b pb gp ob og db dg rg c t n f' ⟨q',g.ow,g.di,a',e'⟩:=
 have nb:=h.nb;have nr:=h.nr;have no:=h.no;have nd:=h.nd
 ⟨h.plan.chg hx (fun q=>q.elim (fun e=>nb.1 e.symm) fun e=>nr.1 e.symm) (fun q=>q.elim (fun e=>nb.2.1 e.symm) fun e=>nr.2.1 e.symm),
  h.ow.chg hx (fun q=>q.elim (fun e=>nb.2.2.1 e.symm) fun e=>nr.2.2.1 e.symm) (fun _ q=>q.elim (fun e=>nb.2.2.2.1 e.symm) fun e=>no.2.2.2.2.2 e),
  h.di.chg hx (fun q=>q.elim (fun e=>nb.2.2.2.2.1 e.symm) fun e=>nr.2.2.2 e.symm) (fun _ q=>q.elim (fun e=>nb.2.2.2.2.2.1 e.symm) fun e=>nd.2.2.2.2 e),
  hok,h.n1,hb,hr,nb,no,nd,nr⟩
theorem Uo{w:World}{b i:Nat}(v:Value):Chg (fun k=>k=b) w (w.setCell ⟨b,i,none⟩ v):=Chg.setCell (P:=fun k=>k=b) (p:=⟨b,i,none⟩) (Chg.refl _ w) (.inl rfl) _
theorem Zlw{x:Int}{is:Bool}(h:Vu w b pb gp ob og db dg rg c t n f g)(hr:Rb g=(g',x,is)) :
  Calls prog 306 #[b] w fun r w'=>r=.returned (.tuple #[.int .i64 x,is])∧Ri w' b pb gp ob og db dg rg c t n g'∧Chg (grB b og dg rg) w w':=by
 have H:=Za h;have v3:=h.box.c 3 _ rfl;have v4:=h.box.c 4 _ rfl;have v5:=h.box.c 5 _ rfl;have hok:=Cc h.ok;rw[hr] at hok;have HOK:=Za hok;clear hok;obtain⟨q,ow,di,a,en⟩:=g;cases q with
 | nil=>
  cases hr;clear h;have v5':w.cell? ⟨b,5,none⟩=some (.int .i64 0):=v5;clear v5;go_enter func306,ntmps306;go_wp2_with fail;refine(Yl H.out).zz ?_;go_wp2;go_ret2;exact⟨rfl,⟨f,H.out⟩,Chg.refl _ _⟩
 | cons y r=>
  cases hr;have hf:=h.ring.fn;have n1:=h.n1;have ql:=h.ok.ql;obtain⟨vr,RG⟩:=h.ring.pop;have v5':w.cell? ⟨b,5,none⟩=some (.int .i64 ((r.length+1:Nat):Int)):=v5;simp only[List.length_cons] at ql;clear v5 h;obtain⟨m,hm⟩:=Zb (r.length+1);have M:=Za hm;rw[hm] at v5' ql;have m0:((m:Int)==0)=false:=by simp;omega
  have rr:((f:Int)+1).tmod (n:Int)=(((f+1) % n:Nat):Int):=by
   rw[show((f:Int)+1)=((f+1:Nat):Int) from rfl];exact(Int.ofNat_tmod _ _).symm
  have n0:(n:Int)≠0:=by omega
  have m1:1≤m:=by omega
  clear hm;go_enter func306,ntmps306;go_wp2_with fail;refine(Yl H.out).zz ?_;go_wp2_with fail;have c3:=fun d os=>cell_regrown v3 d os;have c4:=fun d os=>cell_regrown v4 d os;have cr:=fun d os=>cell_regrown vr d os
  refine wp_region_quiet_below (by kernel_rfl) (by kernel_rfl) ?_
  repeat (any_goals (first|go_big_quiet_step (fail)|quiet_step (fail)))
  refine Zc fun WQ xq=>?_;replace v3:=xq.cell v3;replace v4:=xq.cell v4;replace v5:=xq.cell v5';clear c3 c4 cr vr v5';have HQ:=Za (H.out.ext xq);have RQ:=Za (RG.chg (Zy3 (P:=fun _=>False) xq) (fun a=>a));have f4:=HQ.out.box.f 4;have f5:=HQ.out.box.f 5;clear RG;go_wp2_with fail
  go_region
  go_wp2;go_ret2;have B4:=(HQ.out.box.set (i:=4) (by simp[gcs]) (.int .i64 (((f:Int)+1) % (n:Int)))).set (i:=5) (by simp[gcs]) (.int .i64 ((m:Int)-1));have xb:=((Uo (w:=WQ) (b:=b) (i:=4) (.int .i64 (((f:Int)+1) % (n:Int)))).trans (Uo (i:=5) (.int .i64 ((m:Int)-1)))).drew;have e1:((f:Int)+1) % (n:Int)=(((f+1) % n:Nat):Int):=by simp
  have e2:((m:Int)-1)=((r.length:Nat):Int):=by have:=M.out;omega
  have e5:((gcs ob db pb rg n f ⟨x :: r,ow,di,a,en⟩).set 4 (.int .i64 (((f:Int)+1) % (n:Int)))).set 5 (.int .i64 ((m:Int)-1))=gcs ob db pb rg n ((f+1) % n) ⟨r,ow,di,a,en⟩:=by
   rw[e1,e2];rfl
  rw[e5] at B4;refine⟨rfl,⟨(f+1) % n,HQ.out.stored (xb.mono fun k q=>.inl q) HOK.out (B4.ext ((Zy2 _).drew)) (RQ.out.chg xb fun e=>HQ.out.nb.2.2.2.2.2.2 e.symm)⟩,(Zy3 xq).trans (xb.mono fun k q=>.inl q)⟩
theorem Zh6(h:Vu w b pb gp ob og db dg rg c t n f g) :
  Calls prog 389 #[b] w fun r w'=>r=.returned (.tuple #[])∧Ri w' b pb gp ob og db dg rg c t n (Ql c t)∧Chg (grB b og dg rg) w w':=by
 have H:=Za h;have v0:=h.box.c 0 _ rfl;have v1:=h.box.c 1 _ rfl;have CO:=Za (In g.ow h.ow);clear h;go_enter func389,ntmps389;go_wp2_with fail;refine(Yl H.out).zz ?_;go_wp2_with fail;refine CO.out.mono ?_;rintro e w1 ⟨⟨v,rfl⟩,r1,k1⟩;have nb:=H.out.nb;have no:=H.out.no;have nd:=H.out.nd;replace v1:=k1.cell (fun q=>nb.2.2.2.1 q.2) v1;have R1:=Za r1;have K1:=Za k1;clear r1 k1 nb no nd;go_wp2_with fail;refine(In g.di (H.out.di.near K1.out (fun _=>H.out.no.2.2.2.1) (fun _ _=>H.out.no.2.2.2.2.1))).mono ?_;rintro e w2 ⟨⟨v,rfl⟩,r2,k2⟩;have hp:GOk c t n { g with ow:=List.replicate g.ow.length false,di:=List.replicate g.di.length false }:=
  ⟨H.out.ok.ql,H.out.ok.qs,by simpa using H.out.ok.ol,by simpa using H.out.ok.dl,H.out.ok.wk,H.out.ok.le⟩
 have KK:=(K1.out.mono fun k q=>.inl q.2:Chg (deB og dg) w w1).trans (k2.mono fun k q=>.inr q.2);have G2:=Za (H.out.paid ⟨R1.out.near k2 (fun _=>H.out.nd.2.2.1) (fun _ _=>H.out.no.2.2.2.2.1.symm),r2,H.out.debts.n⟩ KK hp);have KD:=Za KK;have d4:=G2.out.box.c 4 _ rfl;have d5:=G2.out.box.c 5 _ rfl;have d6:=G2.out.box.c 6 _ rfl;have d7:=G2.out.box.c 7 _ rfl;have f4:=G2.out.box.f 4;have f5:=G2.out.box.f 5;have f6:=G2.out.box.f 6;have f7:=G2.out.box.f 7;clear r2 k2 hp KK;go_wp2
 go_end0
 have B:=(((G2.out.box.set (i:=4) (by simp[gcs]) (.int .i64 0)).set (i:=5) (by simp[gcs]) (.int .i64 0)).set (i:=6) (by simp[gcs]) (.int .i64 0)).set (i:=7) (by simp[gcs]) (.int .i64 0);have xb:=(((Uo (w:=w2) (b:=b) (i:=4) (.int .i64 0)).trans (Uo (i:=5) (.int .i64 0))).trans (Uo (i:=6) (.int .i64 0))).trans (Uo (i:=7) (.int .i64 0));have hc:=N6 (c:=c) (t:=t) n;have R0:=(G2.out.ring.clear (by have:=H.out.n1;omega)).chg xb fun e=>G2.out.nb.2.2.2.2.2.2 e.symm
 have eo:=H.out.ok.ol;have ed:=H.out.ok.dl;have HK:GOk c t n ⟨[],List.replicate g.ow.length false,List.replicate g.di.length false,0,0⟩:=by rw[eo,ed];exact hc
 have fin:=G2.out.stored (f':=0) (q':=[]) (a':=0) (e':=0) (xb.mono fun k q=>.inl q) HK B R0;simp only[eo,ed] at fin;exact⟨rfl,⟨0,fin⟩,(KD.out.mono fun k q=>Iu q).trans (xb.mono fun k q=>.inl q)⟩
theorem Zh7(r:Bool)(h:Vu w b pb gp ob og db dg rg c t n f g)(hr:N5 g=r) :
  Calls prog 302 #[b] w fun e w'=>e=.returned (.bool r)∧Ext w w':=by
 have H:=Za h;have v5:=h.box.c 5 _ rfl;have v6:=h.box.c 6 _ rfl;have v7:=h.box.c 7 _ rfl;obtain⟨m,hm⟩:=Zb (g.q.length);obtain⟨o,ho⟩:=Zb (Zk8 g);unfold N5 at hr;have OD:=Za ho;rw[hm,ho] at hr;rw[hm] at v5;obtain⟨A,hA⟩:=Zb (g.at_);obtain⟨E,hE⟩:=Zb (g.en);rw[hA,hE] at hr;rw[hA] at v6;rw[hE] at v7;clear h hm ho hA hE;by_cases h1:m=0
 ·subst h1;have e1:(((0:Nat):Int)==0)=true:=rfl;by_cases h2:A=E
  ·subst h2;have e2:((A:Int)==(A:Int))=true:=by simp
   have hr':decide (o=0)=r:=by simpa using hr
   subst hr';go_enter func302,ntmps302;go_wp2_with fail;have c5:=fun d os=>cell_regrown v5 d os;have c6:=fun d os=>cell_regrown v6 d os;have c7:=fun d os=>cell_regrown v7 d os
   refine wp_region_quiet_below (by kernel_rfl) (by kernel_rfl) ?_
   repeat (any_goals (first|go_big_quiet_step ((first|(go_at_call 337;exact Vp (Yl (H.out.ext (Zk _ _ _))))|(go_at_call 338;exact Vp (Rj (H.out.ext (Zk _ _ _)) OD.out))))|quiet_step ((first|(go_at_call 337;exact Vp (Yl (H.out.ext (Zk _ _ _))))|(go_at_call 338;exact Vp (Rj (H.out.ext (Zk _ _ _)) OD.out))))))
   refine Zc fun WQ xq=>?_;go_wp2;go_ret;refine⟨?_,xq⟩;have:((o:Int)==0)=decide (o=0):=by by_cases h:o=0<;>simp[h]
   rw[←this];rfl
  ·have e2:((A:Int)==(E:Int))=false:=by simp;omega
   have hr':false=r:=by simpa [h2] using hr
   subst hr';clear hr;go_enter func302,ntmps302;go_wp2_with fail;have c5:=fun d os=>cell_regrown v5 d os;have c6:=fun d os=>cell_regrown v6 d os;have c7:=fun d os=>cell_regrown v7 d os
   refine wp_region_quiet_below (by kernel_rfl) (by kernel_rfl) ?_
   repeat (any_goals (first|go_big_quiet_step ((first|(go_at_call 337;exact Vp (Yl (H.out.ext (Zk _ _ _))))|(go_at_call 338;exact Vp (Rj (H.out.ext (Zk _ _ _)) OD.out))))|quiet_step ((first|(go_at_call 337;exact Vp (Yl (H.out.ext (Zk _ _ _))))|(go_at_call 338;exact Vp (Rj (H.out.ext (Zk _ _ _)) OD.out))))))
   refine Zc fun WQ xq=>?_;go_wp2;go_ret;exact⟨rfl,xq⟩
 ·have e1:((m:Int)==0)=false:=by simp;omega
  have hr':false=r:=by simpa [h1] using hr
  subst hr';clear hr;go_enter func302,ntmps302;go_wp2_with fail;have c5:=fun d os=>cell_regrown v5 d os;have c6:=fun d os=>cell_regrown v6 d os;have c7:=fun d os=>cell_regrown v7 d os
  refine wp_region_quiet_below (by kernel_rfl) (by kernel_rfl) ?_
  repeat (any_goals (first|go_big_quiet_step ((first|(go_at_call 337;exact Vp (Yl (H.out.ext (Zk _ _ _))))|(go_at_call 338;exact Vp (Rj (H.out.ext (Zk _ _ _)) OD.out))))|quiet_step ((first|(go_at_call 337;exact Vp (Yl (H.out.ext (Zk _ _ _))))|(go_at_call 338;exact Vp (Rj (H.out.ext (Zk _ _ _)) OD.out))))))
  refine Zc fun WQ xq=>?_;go_wp2;go_ret;exact⟨rfl,xq⟩
end
theorem Zqc{b gp k:Nat}{c:Zh}{t:Nat}{p:Int}(x m:Int){w:World}(hx:Qx c t p k=x)(hm:Qy c t p k=m)(h:Zt w b gp c t)(hk:Qk c t p k) :
  Calls prog 341 #[b,.int .i64 p] w fun e w'=>e=.returned (.tuple #[.int .i64 x,.int .i64 m,(0:Int)])∧Ext w w':=by
 subst hx hm;exact Ztz h hk
section
variable{w w':World}{b pb gp ob og db dg rg:Nat}{c:Zh}{t n f:Nat}{g g':GS}
theorem Zlx{x:Int}{is went:Bool}(h:Vu w b pb gp ob og db dg rg c t n f g)(hT:Tab w)(hr:Qa c t g=(g',x,is,went)) :
  Calls prog 310 #[b] w fun r w'=>r=.returned (.tuple #[.int .i64 x,is,went])∧Ri w' b pb gp ob og db dg rg c t n g'∧Chg (grB b og dg rg) w w':=by
 have H:=Za h;have HT:=Za hT;obtain⟨v0,v1,v2⟩:=h.box.k3;have v5:=h.box.c 5 _ rfl;have v6:=h.box.c 6 _ rfl;have v7:=h.box.c 7 _ rfl;unfold Qa at hr;by_cases hw:g.at_=g.en
 ·rw[if_pos hw] at hr;rw[←hw] at v7;obtain⟨a0,ha0⟩:=Zb (g.at_);rw[ha0] at v6 v7;have t1:((a0:Int)==(a0:Int))=true:=by simp
  have NX:=Za (Zk7 g.di);by_cases hq:g.q.length=0
  ·rw[if_pos hq] at hr;rw[hq] at v5;have t2:decide ((0:Int)<((0:Nat):Int))=false:=rfl;cases hfd:Zox g.di with
   | none=>
    rw[hfd] at hr NX;cases hr;clear h hT hq hfd hw ha0;go_enter func310,ntmps310;go_wp2_with fail;refine(Yl H.out).zz ?_;go_wp2_with fail;have c6:=fun d os=>cell_regrown v6 d os;have c7:=fun d os=>cell_regrown v7 d os
    refine wp_region_quiet_below (by kernel_rfl) (by kernel_rfl) ?_
    repeat (any_goals (first|go_big_quiet_step (fail)|quiet_step (fail)))
    refine Zc fun WQ xq=>?_;replace v1:=xq.cell v1;replace v2:=xq.cell v2;replace v5:=xq.cell v5;clear c6 c7 v6 v7;go_wp2_with fail;refine(Sq g.di _ _ (H.out.di.ext xq) (HT.out.ext xq) NX.out).ze fun w2 x2=>?_;replace v1:=x2.cell v1;replace v2:=x2.cell v2;replace v5:=x2.cell v5;go_wp2
    go_ret3
    exact⟨rfl,⟨f,H.out.ext (xq.trans x2)⟩,Zy3 (xq.trans x2)⟩
   | some p=>
    rw[hfd] at hr NX;have HR:=Za hr;have pl:p<g.di.length:=(Il hfd).1;have pg:p<nG c t:=by rw[←h.ok.dl];exact pl
    have PF:=Ca h.plan.ok h.plan.ti pg;have IN:=Za (fun W (h:Zt W pb gp c t)=>Zqc _ _ PF.fs PF.mn h PF.at_);have BS:=Za (Vt (is:=false) pl);have TK:=Za (Zfl h.plan.ok h.plan.ti h.ok pg);have ns:=h.plan.ok.nS_le h.plan.ti;have hle:=PF.le;obtain⟨F,hF⟩:=Zb (fsN c t p);obtain⟨M,hM⟩:=Zb (mnN c t p);have FM:=Za (And.intro hF hM);rw[hF,hM] at IN hle;clear h hT hr hq hfd hw ha0 PF hF hM;go_enter func310,ntmps310;go_wp2_with fail;refine(Yl H.out).zz ?_;go_wp2_with fail;have c6:=fun d os=>cell_regrown v6 d os;have c7:=fun d os=>cell_regrown v7 d os
    refine wp_region_quiet_below (by kernel_rfl) (by kernel_rfl) ?_
    repeat (any_goals (first|go_big_quiet_step (fail)|quiet_step (fail)))
    refine Zc fun WQ xq=>?_;replace v1:=xq.cell v1;replace v2:=xq.cell v2;replace v5:=xq.cell v5;clear c6 c7 v6 v7;go_wp2_with fail;refine(Sq g.di _ _ (H.out.di.ext xq) (HT.out.ext xq) NX.out).ze fun w2 x2=>?_;replace v1:=x2.cell v1;replace v2:=x2.cell v2;replace v5:=x2.cell v5;go_wp2_with fail;refine(Pb g.di _ 0 (H.out.di.ext (xq.trans x2)) BS.out).mono ?_;rintro e w3 ⟨rfl,r3,k3⟩;replace v2:=k3.cell (fun q=>H.out.nb.2.2.2.2.2.1 q.2) v2;have hd:Lt w3 ob og db dg g.ow (g.di.set p false):=⟨(H.out.ow.ext (xq.trans x2)).near k3 (fun _=>H.out.nd.2.2.1) (fun _ _=>H.out.no.2.2.2.2.1.symm),r3,H.out.debts.n⟩;have kd:Chg (deB og dg) w2 w3:=k3.mono fun k q=>.inr q.2
    have G2:=Za ((H.out.ext (xq.trans x2)).paid hd kd ⟨H.out.ok.ql,H.out.ok.qs,H.out.ok.ol,TK.out.1.dl,H.out.ok.wk,H.out.ok.le⟩);have K2:=Za ((Zy3 (P:=grB b og dg rg) (xq.trans x2)).trans (kd.mono fun k q=>Iu q));clear hd kd r3 k3;go_wp2_with fail;refine(IN.out _ G2.out.plan).ze fun w4 x4=>?_;have G3:=Za (G2.out.ext x4);have d6:=G3.out.box.c 6 _ rfl;have d7:=G3.out.box.c 7 _ rfl;have f6:=G3.out.box.f 6;have f7:=G3.out.box.f 7
    go_upto_region 10 with fail
    have B:=(G3.out.box.set (i:=6) (by simp[gcs]) (.int .i64 (F:Int))).set (i:=7) (by simp[gcs]) (.int .i64 ((F:Int)+(M:Int)));have xb:=(Uo (w:=w4) (b:=b) (i:=6) (.int .i64 (F:Int))).trans (Uo (i:=7) (.int .i64 ((F:Int)+(M:Int))));have G4:Vu ((w4.setCell ⟨b,6,none⟩ (.int .i64 (F:Int))).setCell ⟨b,7,none⟩ (.int .i64 ((F:Int)+(M:Int)))) b pb gp ob og db dg rg c t n f (Lm c t g p):=by
     have hk:=TK.out.1;unfold Lm at hk ⊢;rw[FM.out.1,FM.out.2] at hk ⊢;exact G3.out.stored (xb.mono fun k q=>.inl q) hk B (G3.out.ring.chg xb fun e=>G3.out.nb.2.2.2.2.2.2 e.symm)
    have NE:=Za TK.out.2;have X1:=Za ((K2.out.trans (Zy3 x4)).trans (xb.mono fun k q=>.inl q));obtain⟨W1,hW1⟩:=Zb ((w4.setCell ⟨b,6,none⟩ (.int .i64 (F:Int))).setCell ⟨b,7,none⟩ (.int .i64 ((F:Int)+(M:Int))));obtain⟨g1,hg1⟩:=Zb (Lm c t g p);rw[hW1] at G4 X1 ⊢;rw[hg1] at G4 NE HR;have G1:=Za G4;clear B xb G4 hW1 hg1 d6 d7 f6 f7 v1 v2 v5 TK FM IN hle ns G2 K2 G3 x4 xq x2 BS NX pg pl;have hok1:=Cd G1.out.ok NE.out;have d6:=G1.out.box.c 6 _ rfl;have d0:=G1.out.box.c 0 _ rfl;have d1:=G1.out.box.c 1 _ rfl;have f6:=G1.out.box.f 6;have la:g1.at_<g1.ow.length:=by
     rw[G1.out.ok.ol];rcases G1.out.ok.wk with q|⟨p,q1,q2,q3,q4⟩
     ·exact absurd q NE.out
     ·have:=G1.out.ok.le;omega
    have la2:g1.at_≤65536:=by have:=G1.out.ow.most;omega
    obtain⟨A,hA⟩:=Zb (g1.at_);obtain⟨r,hrr⟩:=Zb (Zu g1.ow g1.at_);have PY:=Za (fun W (h:Lt W ob og db dg g1.ow g1.di)=>Zax r h la hrr);have EA:=Za hA;have ER:=Za hrr;have HK1:=Za hok1;rw[hA] at d6 PY la2;clear hok1 la hA hrr;cases r <;>
    ·go_wp2_with fail;have HK2:GOk c t n { g1 with at_:=g1.at_+1 }:=⟨HK1.out.ql,HK1.out.qs,G1.out.ok.ol,HK1.out.dl,HK1.out.wk,HK1.out.le⟩;have B:=G1.out.box.set (i:=6) (by simp[gcs]) (.int .i64 ((A:Int)+1));have e6:(gcs ob db pb rg n f g1).set 6 (.int .i64 ((A:Int)+1))=gcs ob db pb rg n f { g1 with at_:=g1.at_+1 }:=by rw[EA.out];rfl
     rw[e6] at B;have xb:=Uo (w:=W1) (b:=b) (i:=6) (.int .i64 ((A:Int)+1));have G2:=Za (G1.out.stored (xb.mono fun k q=>.inl q) HK2 B (G1.out.ring.chg xb fun e=>G1.out.nb.2.2.2.2.2.2 e.symm));have XB:=Za xb;refine(PY.out _ G2.out.debts).mono ?_;rintro e w2 ⟨rfl,d2,k2⟩;go_wp2
     go_ret3
     have G3:=G2.out.paid d2 k2 (by have q:=HK1.out;simp only[Tx,EA.out] at q ⊢;exact q);simp only[EA.out] at G3;unfold Tx at HR;rw[ER.out,EA.out] at HR;cases HR.out;exact⟨rfl,⟨f,G3⟩,X1.out.trans ((XB.out.mono fun k q=>.inl q).trans (k2.mono fun k q=>Iu q))⟩
  ·rw[if_neg hq] at hr;cases hr;obtain⟨m,hm⟩:=Zb (g.q.length);rw[hm] at v5;have t2:decide ((0:Int)<(m:Int))=true:=Zyy (by omega);obtain⟨p',q',NX⟩:∃p' q',Hid (Te g.di 0 true p' q'):=⟨_,_,NX⟩;have t3:decide (0<m)=true:=Zyy (by omega);have t4:¬m=0:=by omega
   clear h hT hq hw ha0 hm;go_enter func310,ntmps310;go_wp2_with fail;refine(Yl H.out).zz ?_;go_wp2_with fail;have c6:=fun d os=>cell_regrown v6 d os;have c7:=fun d os=>cell_regrown v7 d os
   refine wp_region_quiet_below (by kernel_rfl) (by kernel_rfl) ?_
   repeat (any_goals (first|go_big_quiet_step (fail)|quiet_step (fail)))
   refine Zc fun WQ xq=>?_;replace v1:=xq.cell v1;replace v2:=xq.cell v2;replace v5:=xq.cell v5;clear c6 c7 v6 v7;go_wp2_with fail;refine(Sq g.di _ _ (H.out.di.ext xq) (HT.out.ext xq) NX.out).ze fun w2 x2=>?_;replace v1:=x2.cell v1;replace v2:=x2.cell v2;replace v5:=x2.cell v5;go_wp2
   go_ret3
   exact⟨rfl,⟨f,H.out.ext (xq.trans x2)⟩,Zy3 (xq.trans x2)⟩
 ·rw[if_neg hw] at hr;obtain⟨a0,ha0⟩:=Zb (g.at_);obtain⟨e0,he0⟩:=Zb (g.en);have HW:=Za hw;rw[ha0] at v6 hw;rw[he0] at v7 hw;have t1:((a0:Int)==(e0:Int))=false:=by simp;omega
  have t2:decide ((a0:Int)=(e0:Int))=false:=Zyx (by omega);have HR:=Za hr;clear h hT hr ha0 he0;go_enter func310,ntmps310;go_wp2_with fail;refine(Yl H.out).zz ?_;go_wp2_with fail;have c6:=fun d os=>cell_regrown v6 d os;have c7:=fun d os=>cell_regrown v7 d os
  refine wp_region_quiet_below (by kernel_rfl) (by kernel_rfl) ?_
  repeat (any_goals (first|go_big_quiet_step (fail)|quiet_step (fail)))
  refine Zc fun WQ xq=>?_;obtain⟨W1,hW1⟩:=Zb (WQ);obtain⟨g1,hg1⟩:=Zb (g);rw[hg1] at HR HW;rw[hW1] at xq ⊢;have G1:=Za (hg1▸H.out.ext xq);have NE:=HW;have X1:=Za (Zy3 (P:=grB b og dg rg) xq);clear hg1 hW1 HW H xq c6 c7 v0 v1 v2 v5 v6 v7 HT hw t1 t2
  ·skip
   have hok1:=Cd G1.out.ok NE.out;have d6:=G1.out.box.c 6 _ rfl;have d0:=G1.out.box.c 0 _ rfl;have d1:=G1.out.box.c 1 _ rfl;have f6:=G1.out.box.f 6;have la:g1.at_<g1.ow.length:=by
    rw[G1.out.ok.ol];rcases G1.out.ok.wk with q|⟨p,q1,q2,q3,q4⟩
    ·exact absurd q NE.out
    ·have:=G1.out.ok.le;omega
   have la2:g1.at_≤65536:=by have:=G1.out.ow.most;omega
   obtain⟨A,hA⟩:=Zb (g1.at_);obtain⟨r,hrr⟩:=Zb (Zu g1.ow g1.at_);have PY:=Za (fun W (h:Lt W ob og db dg g1.ow g1.di)=>Zax r h la hrr);have EA:=Za hA;have ER:=Za hrr;have HK1:=Za hok1;rw[hA] at d6 PY la2;clear hok1 la hA hrr;cases r <;>
   ·go_wp2_with fail;have HK2:GOk c t n { g1 with at_:=g1.at_+1 }:=⟨HK1.out.ql,HK1.out.qs,G1.out.ok.ol,HK1.out.dl,HK1.out.wk,HK1.out.le⟩;have B:=G1.out.box.set (i:=6) (by simp[gcs]) (.int .i64 ((A:Int)+1));have e6:(gcs ob db pb rg n f g1).set 6 (.int .i64 ((A:Int)+1))=gcs ob db pb rg n f { g1 with at_:=g1.at_+1 }:=by rw[EA.out];rfl
    rw[e6] at B;have xb:=Uo (w:=W1) (b:=b) (i:=6) (.int .i64 ((A:Int)+1));have G2:=Za (G1.out.stored (xb.mono fun k q=>.inl q) HK2 B (G1.out.ring.chg xb fun e=>G1.out.nb.2.2.2.2.2.2 e.symm));have XB:=Za xb;refine(PY.out _ G2.out.debts).mono ?_;rintro e w2 ⟨rfl,d2,k2⟩;go_wp2
    go_ret3
    have G3:=G2.out.paid d2 k2 (by have q:=HK1.out;simp only[Tx,EA.out] at q ⊢;exact q);simp only[EA.out] at G3;unfold Tx at HR;rw[ER.out,EA.out] at HR;cases HR.out;exact⟨rfl,⟨f,G3⟩,X1.out.trans ((XB.out.mono fun k q=>.inl q).trans (k2.mono fun k q=>Iu q))⟩
theorem Zly:(prog.info? 3).map (fun i=>(i.zero,i.size,i.bytes))=some (some (.int .i64 0),1,8):=by kernel_rfl
theorem Zh8(n:Nat)(h:n≤65536):∀W:World,(Instr.makeSlice 22 (.int .i64 (n:Int)) (.int .i64 (n:Int))).run prog W=.ok (.slice (some ⟨W.heap.size,0,none⟩) n n) (W.alloc (.cells (madeCells #[(0:Int)] n) 3)):=by
 intro W;exact run_make_row' 22 3 (.int .i64 0) 8 underlying22 Zly rfl .i64 .i64 n (by omega) (by omega) W
def Zue(pb gp:Nat)(c:Zh)(t n:Nat)(w:World)(r:Value)(w':World):Prop:=
 ∃b ob og db dg rg,r=.pointer (some ⟨b,0,none⟩)∧Ri w' b pb gp ob og db dg rg c t n (Ql c t)∧w.heap.size≤b∧w.heap.size≤ob∧w.heap.size≤og∧w.heap.size≤db∧w.heap.size≤dg∧w.heap.size≤rg∧Ext w w'
theorem Zqd(h:Zt w pb gp c t)(hn:1≤n∧n≤64) :
  Calls prog 183 #[pb,.int .i64 n] w fun e w'=>∃r,e=.returned (.tuple #[r,(0:Int)])∧Zue pb gp c t n w r w':=by
 have ho:=h.ok;have ht:=h.ti;have sn:=ho.nS_eq ht;have gn:=ho.nG_eq ht;have sle:=ho.nS_le ht;have spo:=ho.nS_pos ht;have gpo:=ho.nG_pos ht;have gle:=ho.sG_le ht (Zy1 _);have m8:=ho.cl.most;have SL:=Za (fun W (h:Zt W pb gp c t)=>Yx (nS c t:Int) sn.symm h);have PL:=Za (fun W (h:Zt W pb gp c t)=>Zc7 (nG c t:Int) gn.symm h);have H:=Za h;have B1:=Za (fun W:World=>N7 (w:=W) (nS c t) (by omega));have B2:=Za (fun W:World=>N7 (w:=W) (nG c t) (by omega));have hmk:=Zh8 n (by omega);clear h sn gn gle;obtain⟨N,hN⟩:∃n,nS c t=n:=⟨_,rfl⟩;obtain⟨G,hG⟩:∃n,nG c t=n:=⟨_,rfl⟩;rw[hN] at SL B1 sle spo;rw[hG] at PL B2 gpo;have EN:=Za hN;have EG:=Za hG;clear hN hG;go_enter func183,ntmps183;go_wp2_with fail;refine(SL.out _ H.out).zz ?_;go_wp2_with fail;refine(SL.out _ H.out).zz ?_;go_wp2_with fail;refine(B1.out _).mono ?_;rintro e w1 ⟨b1,g1,rfl,h1,l1,l2,x1⟩;go_wp2_with fail;refine(PL.out _ (H.out.ext x1)).zz ?_;go_wp2_with fail;refine(B2.out _).mono ?_;rintro e w2 ⟨b2,g2,rfl,h2,k1,k2,x2⟩;go_wp2;go_ret2;have y1:=(Zy2 w2).alloc (.cells (madeCells #[(0:Int)] n) 3);have y2:=(Zy2 (w2.alloc (.cells (madeCells #[(0:Int)] n) 3))).alloc (.cells #[b1,b2,pb,.slice (some ⟨w2.heap.size,0,none⟩) n n,(0:Int),(0:Int),(0:Int),(0:Int)] 327);have y:=y1.trans y2;have hb:Zn _ (w2.heap.size+1) (gcs b1 b2 pb w2.heap.size n 0 (Ql c t)):=Zn.new (w2.alloc (.cells (madeCells #[(0:Int)] n) 3)) (gcs b1 b2 pb w2.heap.size n 0 (Ql c t)) 327 (by simp);have hr:V5 (w2.alloc (.cells (madeCells #[(0:Int)] n) 3)) w2.heap.size n 0 []:=
  ⟨by omega,Nat.zero_le _,fun i hi=>⟨0,by rw[Zg,Im hi]⟩,fun i hi=>absurd hi (Zzb i),fun o=>World.frozen?_alloc_at _ _ _ _ rfl⟩
 have p1:=H.out.lt;have s1:=x1.size;have s2:=x2.size;have o1:=h1.lt;have o2:=h1.glt (by rw[Zza];omega);have o3:=h2.lt;have o4:=h2.glt (by rw[Zza];omega);have l2':=l2 spo;have k2':=k2 gpo;have a1:=h1.apart (by rw[Zza];omega);have a2:=h2.apart (by rw[Zza];omega);have R1:=(h1.ext x2).ext y;have R2:=h2.ext y;rw[←EN.out] at R1;rw[←EG.out] at R2;exact⟨_,rfl,w2.heap.size+1,b1,g1,b2,g2,w2.heap.size,by simp,⟨0,⟨(H.out.ext (x1.trans x2)).ext y,R1,R2,N6 n,hn,hb,hr.chg (Zy3 (P:=fun _=>False) y2) (fun a=>a),by omega,by omega,by omega,by omega⟩⟩,by omega,by omega,by omega,by omega,by omega,by omega,(x1.trans x2).trans y⟩
end
end Go.Proofs.YtfcldaembdedjaaGreatDoor
