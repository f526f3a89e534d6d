/-
  Parts of the proof of TopCycles: Mk2, ArenaE, ArenaF, ArenaG, Swp, Mk3, Mk4, Mk5.
-/
import Derived.Test.YtfcldaembdedjaaGreatDoorQ07
import Derived.Laws.IdiomCopy
import Derived.Deep.CutRange
set_option linter.unusedVariables false
set_option linter.unusedSimpArgs false
set_option maxRecDepth 100000
set_option maxHeartbeats 16000000
namespace Go.Proofs.YtfcldaembdedjaaGreatDoor
open Go.RowKit Tryz
section
variable{w w':World}{B:CB}{c:Zh}{t n:Nat}{gens:Int}{ws:List Int}{l:List Ent}{ms:List Int}{m m':MK}
theorem Gm{P:Program}(w:World)(t e ty:TypeId)(z:Value)(ht:P.underlying t=some (.slice e))(hv:∀w,(zeroValue e).run P w=.ok z w)(zs:List Value)(b o n c:Nat)(hn:0<n)(hz:(Builtin.zeroCells z.cells n).toList=zs)(h1:∀v∈zs,v.oneCell'=true)
  (hc:∀j,j<zs.length→(w.cell? ⟨b,o+j,none⟩).isSome=true) (hf:∀j,j<zs.length→w.frozen? ⟨b,o+j,none⟩=false) :
  (Builtin.clear_ #[t] ty #[.slice (some ⟨b,o,none⟩) n c]).run P w=.ok (.tuple #[]) (w.setCells b o zs):=by
 have hst:=run_storeCells_cells (P:=P) b o zs 0 w (by simpa using hc) (by simpa using hf) h1;simp only[Nat.add_zero] at hst;obtain⟨m,rfl⟩:∃m,n=m+1:=⟨n-1,by omega⟩;simp[Builtin.clear_,run_underlying ht,hv,hz,hst]
def hz3:Nat→List Value
 | 0=>[]
 | k+1=>hz3 k++[.int .i64 0,.int .i64 0,.bool false]
theorem Pm:∀k,(hz3 k).length=k*3
 | 0=>rfl
 | k+1=>by show(hz3 k++_).length=_;rw[Zy9,Pm k];simp;omega
theorem Zmt:∀(k j i:Nat),j<k→i<3→(hz3 k)[j*3+i]?=[Value.int .i64 0,.int .i64 0,.bool false][i]?
 | 0,j,_,hj,_=>absurd hj (Zzb _)
 | k+1,j,i,hj,hi=>by
  show(hz3 k++_)[j*3+i]?=_
  by_cases e:j<k
  ·rw[List.getElem?_append_left (by rw[Pm];omega)];exact Zmt k j i e hi
  ·obtain rfl:j=k:=by omega
   rw[List.getElem?_append_right (by rw[Pm];omega),Pm,show j*3+i-j*3=i by omega]
theorem Zqz(n:Nat):(Builtin.zeroCells (Value.agg #[(0:Int),(0:Int),false]).cells n).toList=hz3 n:=by
 apply List.ext_getElem?
 intro i;have e:(Value.agg #[(0:Int),(0:Int),false]).cells=#[.int .i64 0,.int .i64 0,.bool false]:=rfl;rw[e];by_cases hi:i<n*3
 ·have h1:=Zmt n (i / 3) (i % 3) (by omega) (by omega);rw[show i / 3*3+i % 3=i by omega] at h1;rw[h1];have h3:i % 3<3:=Nat.mod_lt _ (by decide);simp[Builtin.zeroCells,hi];obtain h|h|h:i % 3=0∨i % 3=1∨i % 3=2:=by omega
  all_goals simp[h]
 ·rw[List.getElem?_eq_none (by simp[Builtin.zeroCells];omega),List.getElem?_eq_none (by rw[Pm];omega)]
theorem Zuk{k:Nat}:∀v∈hz3 k,v.oneCell'=true:=by
 induction k with
 | zero=>intro v hv;cases hv
 | succ k ih=>
  intro v hv;rcases List.mem_append.1 hv with h|h
  ·exact ih v h
  ·simp at h;rcases h with rfl|rfl<;>rfl
theorem Yr.some3{g:Nat}{hs:List Pe}(h:Yr w g hs){j:Nat}(hj:j<hs.length*3):(w.cell? ⟨g,j,none⟩).isSome=true:=by
 have e:j=j / 3*3+j % 3:=by omega
 have hk:j / 3<hs.length:=by omega
 obtain q|q|q:j % 3=0∨j % 3=1∨j % 3=2:=by omega
 ·rw[e,q,Nat.add_zero,h.slot _ hk];rfl
 ·rw[e,q,h.fld _ hk];rfl
 ·rw[e,q,h.is _ hk];rfl
theorem Yr.cleared{g:Nat}{hs:List Pe}(h:Yr w g hs):Yr (w.setCells g 0 (hz3 hs.length)) g (List.replicate hs.length Tk):=by
 have key:∀j i v,j<hs.length→i<3→[Value.int .i64 0,.int .i64 0,.bool false][i]?=some v→(w.setCells g 0 (hz3 hs.length)).cell? ⟨g,j*3+i,none⟩=some v:=by
  intro j i v hj hi hv;have h1:=World.cell?_setCells_in g (hz3 hs.length) 0 w (fun k hk=>by rw[Nat.zero_add];exact h.some3 (by rw[Pm] at hk;exact hk)) (j*3+i) (by rw[Pm];omega);rw[Nat.zero_add] at h1;rw[h1];have h2:=Zmt hs.length j i hj hi;rw[hv] at h2;rw[←h2];exact(List.getElem?_eq_getElem _).symm
 refine⟨fun k hk=>?_,fun k hk=>?_,fun k hk=>?_,fun o=>by rw[World.frozen?_setCells];exact h.fz o⟩<;>rw[Zza] at hk<;>rw[Rh]
 ·exact key k 0 _ hk (by decide) rfl
 ·exact key k 1 _ hk (by decide) rfl
 ·exact key k 2 _ hk (by decide) rfl
theorem Nh(w:World)(b i:Nat)(x:Value):Chg (fun k=>k=b) w (w.setCell ⟨b,i,none⟩ x):=Chg.setCell (P:=fun k=>k=b) (p:=⟨b,i,none⟩) (Chg.refl _ w) (.inl rfl) x
theorem Ye.boxSet(h:Ye w B c t n gens ws l ms m){i:Nat}{v:Value}{r s:Nat}{a:Bool}(hi:i<10)(e:(mcs B m).set i v=mcs B { m with root:=r,act:=a,steps:=s })(hr:r≤Xy c t l)(hs:s<1099511627776) :
  Ye (w.setCell ⟨B.kb,i,none⟩ v) B c t n gens ws l ms { m with root:=r,act:=a,steps:=s }∧Chg B.mkP w (w.setCell ⟨B.kb,i,none⟩ v):=by
 refine h.boxTo ?_ (Nh w B.kb i v) hr hs;have:=h.box.set (i:=i) (by simp[mcs];exact hi) v;rw[e] at this;exact this
theorem Zba{v:Bool}(h:Ye w B c t n gens ws l ms m)(ha:m.act=v):Calls prog 387 #[B.kb,.bool v] w fun e w'=>e=.returned (.int .i64 9)∧w=w':=by
 have c8:w.cell? ⟨B.kb,8,none⟩=some (.bool v):=by rw[←ha];exact h.box.c 8 _ rfl
 have H:=Za h;clear h ha;go_enter func387,ntmps387;go_wp2_with fail;refine(Mm H.out).zz ?_;go_wp2;go_ret;exact⟨rfl,rfl⟩
theorem Zbb{v:Bool}(h:Ye w B c t n gens ws l ms m)(ha:m.act=!v):Calls prog 387 #[B.kb,v] w fun e w'=>e=.returned (.int .i64 0)∧Ye w' B c t n gens ws l ms { m with act:=v }∧Chg B.mkP w w':=by
 have c8:w.cell? ⟨B.kb,8,none⟩=some (.bool (!v)):=by rw[←ha];exact h.box.c 8 _ rfl
 have f8:=h.box.f 8;have H:=Za h;have BS:=Za (h.boxSet (i:=8) (v:=.bool v) (a:=v) (r:=m.root) (s:=m.steps) (by decide) rfl h.ok.rt h.st);clear h ha;cases v
 all_goals
  go_enter func387,ntmps387;go_wp2_with fail;refine(Mm H.out).zz ?_;go_wp2;go_ret;exact⟨rfl,BS.out.1,BS.out.2⟩
theorem Zmu(h:Ye w B c t n gens ws l ms m):Calls prog 369 #[B.kb] w fun e w'=>∃k:Int,e=.returned (.int .i64 k)∧Ye w' B c t n gens ws l ms { m with act:=false }∧Chg B.mkP w w':=by
 by_cases ha:m.act=false
 ·have T:=Za (Zba h ha);have H:=Za h;have E:=Za ha;clear h ha;go_enter func369,ntmps369;go_wp2_with fail;refine(T.out).zz ?_;go_wp2;go_ret;refine⟨9,rfl,?_,Chg.refl _ _⟩;have:=H.out;obtain⟨col,fl,g,hs,root,act,steps⟩:=m;have e:act=false:=E.out;subst e;exact this
 ·have T:=Za (Zbb (v:=false) h (by simpa using ha));clear h ha;go_enter func369,ntmps369;go_wp2_with fail;refine T.out.mono ?_;rintro e w1 ⟨rfl,h1,h2⟩;go_wp2;go_ret;exact⟨0,rfl,h1,h2⟩
theorem Zil(h:Ye w B c t n gens ws l ms m)(ha:m.act=false)(hf:m.fl+1<1099511627776):Calls prog 372 #[B.kb] w fun e w'=>e=.returned (.int .i64 0)∧Ye w' B c t n gens ws l ms (Rd c t m)∧Chg B.mkP w w':=by
 have T:=Za (Zbb (v:=true) h (by rw[ha];rfl));have OL:=Za h.ok.cl;have ORD:=Za h.ord;have HL:=Za h.hl;have HF:=Za hf;have NK:Hid (¬tiB B.cb B.cg B.kb∧¬grB B.gb B.og B.dg B.rg B.kb∧B.hd≠B.kb):=Za (by
  have:=h.ord.c;have:=h.ord.h;have:=h.ord.k;unfold tiB grB;omega)
 have hv:∀w,(zeroValue 357).run prog w=.ok (.agg #[(0:Int),(0:Int),false]) w:=fun w=>by kernel_rfl
 have HV:=Za hv;clear h ha hf hv;go_enter func372,ntmps372;go_wp2_with fail;refine T.out.mono ?_;rintro e w1 ⟨rfl,h1,x1⟩;have H1:=Za h1;have X1:=Za x1;have c4:w1.cell? ⟨B.kb,4,none⟩=some (B.cb:Value):=h1.box.c 4 _ rfl;clear h1 x1;go_wp2_with fail;obtain⟨xs,ht⟩:=H1.out.tint;refine(Zlz ht HF.out).mono ?_;rintro e w2 ⟨rfl,h2,x2⟩;have h2':=H1.out.tintTo h2 x2 (by rw[Zza];exact OL.out);have H2:=Za h2'.1;have X2:=Za (X1.out.trans h2'.2);have c5:w2.cell? ⟨B.kb,5,none⟩=some (B.gb:Value):=h2'.1.box.c 5 _ rfl;clear h2 x2 h2' ht c4;go_wp2_with fail;obtain⟨f,hg⟩:=H2.out.grey;refine(Zh6 hg).mono ?_;rintro e w3 ⟨rfl,h3,x3⟩;have h3':=H2.out.greyTo h3 x3 (N6 n) (fun s _ hb=>by simp only[Ql] at hb;rw[Uv] at hb;cases hb);have H3:=Za h3'.1;have X3:=Za (X2.out.trans h3'.2);have c6:w3.cell? ⟨B.kb,6,none⟩=some (.slice (some ⟨B.hd,0,none⟩) m.hs.length B.hcap):=h3'.1.box.c 6 _ rfl;have hcl:∀ty,(Builtin.clear_ #[286] ty #[.slice (some ⟨B.hd,0,none⟩) m.hs.length B.hcap]).run prog w3=.ok (.tuple #[]) (w3.setCells B.hd 0 (hz3 m.hs.length)):=fun ty=>
  Gm w3 _ 357 ty (.agg #[(0:Int),(0:Int),false]) underlying286 HV.out (hz3 m.hs.length) B.hd 0 m.hs.length B.hcap HL.out.1 (Zqz _) Zuk
   (fun j hj=>by rw[Nat.zero_add];exact h3'.1.hands.some3 (by rw[Pm] at hj;exact hj)) (fun j _=>h3'.1.hands.fz _)
 have h4':=h3'.1.handsTo (hs':=List.replicate m.hs.length Tk) h3'.1.hands.cleared (Chg.setCells _ _ (Chg.refl _ _) rfl) (by simp) (fun k=>by rw[Rh];exact Zlm);have h5:=h4'.1.boxSet (i:=7) (v:=.int .i64 0) (r:=0) (a:=true) (s:=m.steps) (by decide) rfl (Nat.zero_le _) H1.out.st;have h6:=h5.1.boxSet (i:=9) (v:=.int .i64 0) (r:=0) (a:=true) (s:=0) (by decide) rfl (Nat.zero_le _) (by decide);have F4:=h4'.1.box.f 7;have F5:=h5.1.box.f 9;have C4:=h4'.1.box.c 7 _ rfl;have C5:=h5.1.box.c 9 _ rfl;have H6:=Za h6.1;have X6:=Za (((X3.out.trans h4'.2).trans h5.2).trans h6.2);have c7:(w3.setCells B.hd 0 (hz3 m.hs.length)).cell? ⟨B.kb,7,none⟩=some (.int .i64 (m.root:Int)):=C4;clear h3 x3 h3' h4' h5 h6 hg c5 C4;obtain⟨W4,hW4⟩:∃W,w3.setCells B.hd 0 (hz3 m.hs.length)=W:=⟨_,rfl⟩;rw[hW4] at hcl F4 F5 C5 H6 X6 c7;clear hW4;go_wp2;go_ret;refine⟨rfl,?_,X6.out⟩;have:=H6.out;unfold Rd;rw[OL.out] at this;exact this
def U9(c:Zh)(t n:Nat)(m:MK)(s:Int):MK:=if m.act=true then Xi c t n m s else m
def Ta(c:Zh)(t:Nat)(m:MK)(s:Int):MK:=if m.act=true then Yf c t m s else m
theorem Zbc:Zi prog 339:=Zi.mk func339 (by kernel_rfl) rfl
theorem Ba:Zi prog 355:=Zi.mk func355 (by kernel_rfl) rfl
theorem Zim{s p k:Int}(h:Ye w B c t n gens ws l ms m)(hk:Iv m.col s=(p,k)):Calls prog 329 #[B.kb,.int .i64 s] w fun e w'=>e=.returned (.int .i64 k)∧Ye w' B c t n gens ws l ms (U9 c t n m s)∧Chg B.mkP w w':=by
 have touch:Calls prog 354 #[B.kb,.int .i64 s,.func (.func 339) #[B.kb] #[]] w fun e w'=>e=.returned (.int .i64 k)∧Ye w' B c t n gens ws l ms (U9 c t n m s)∧Chg B.mkP w w':=by
  have hen:=Zbc;unfold Zi at hen;have OF:=Za (I7 h hk);have SH:=Za (Lw (s:=s) h);have c8:w.cell? ⟨B.kb,8,none⟩=some (.bool m.act):=h.box.c 8 _ rfl;have k2:k=0∨k=2:=by unfold Iv at hk;split at hk<;>cases hk;exact .inl rfl;exact .inr rfl
  have no:k=2∨m.act=false→U9 c t n m s=m:=fun e=>by
   unfold U9;split
   ·rename_i qa;rcases e with e|e
    ·unfold Iv at hk;split at hk
     ·cases hk;cases e
     ·rename_i q;unfold Xi;rw[if_neg (fun z=>q ⟨z.1,by have:=h.ok.cl;have:=z.2.1;omega⟩)]
    ·rw[e] at qa;cases qa
   ·rfl
  have H:=Za (fun e=>show Ye w B c t n gens ws l ms (U9 c t n m s) by rw[no e];exact h);have YES:=Za (fun e:m.act=true=>show U9 c t n m s=Xi c t n m s by unfold U9;rw[if_pos e]);clear h hk no;rcases k2 with rfl|rfl
  ·cases ha:m.act
   ·have H1:=Za (H.out (.inr ha));rw[ha] at c8;clear ha;go_enter func354,ntmps354;go_wp2_with fail;refine(OF.out).zz ?_;go_wp2;go_ret;exact⟨rfl,H1.out,Chg.refl _ _⟩
   ·have E:=Za (YES.out ha);rw[ha] at c8;clear ha;go_enter func354,ntmps354;go_wp2_with fail;refine(OF.out).zz ?_;go_wp2_with fail;refine SH.out.mono ?_;rintro e w1 ⟨rfl,h1,h2⟩;rw[←E.out] at h1;go_wp2;go_ret;exact⟨rfl,h1,h2⟩
  ·have H1:=Za (H.out (.inl rfl));go_enter func354,ntmps354;go_wp2_with fail;refine(OF.out).zz ?_;go_wp2;go_ret;exact⟨rfl,H1.out,Chg.refl _ _⟩
 have T:=Za touch;clear touch h hk;go_enter func329,ntmps329;go_wp2_with fail;refine T.out.mono ?_;rintro e w1 ⟨rfl,h1,h2⟩;go_wp2;go_ret;exact⟨rfl,h1,h2⟩
theorem Zdx{s:Int}{z:Nat}(h:Ye w B c t n gens ws l ms m)(hz:w.cell? ⟨z,0,none⟩=some (B.kb:Value)):Calls prog 355 #[.int .i64 s,.pointer (some ⟨z,0,none⟩)] w fun e w'=>e=.returned (.tuple #[])∧Ye w' B c t n gens ws l ms (Yf c t m s)∧Chg B.mkP w w':=by
 obtain⟨xs,ht⟩:=h.tint;have c4:=h.box.c 4 _ rfl;have BL:=Za (Kk (s:=s) ht);have H:=Za h;have ol:=h.ok.cl;have E:(if 0≤s∧s<(m.col.length:Int) then m.col.set s.toNat 2 else m.col)=(Yf c t m s).col:=by
  unfold Yf;rw[ol];split<;>rfl
 have EC:=Za E;have EM:=Za (show({ m with col:=(Yf c t m s).col,fl:=m.fl }:MK)=Yf c t m s by unfold Yf;split<;>rfl);have LN:=Za (show(Yf c t m s).col.length=nS c t by unfold Yf;split;(simp[ol]);exact ol);clear h ht ol E;go_enter func355,ntmps355;go_wp2_with fail;refine BL.out.mono ?_;rintro e w1 ⟨k,rfl,h1,x1⟩;rw[EC.out] at h1;have h2:=H.out.tintTo h1 x1 LN.out;rw[EM.out] at h2;go_wp2
 go_end0
 exact⟨rfl,h2.1,h2.2⟩
theorem Zin{s p k:Int}(h:Ye w B c t n gens ws l ms m)(hk:Iv m.col s=(p,k)):Calls prog 322 #[B.kb,.int .i64 s] w fun e w'=>e=.returned (.int .i64 k)∧Ye w' B c t n gens ws l ms (Ta c t m s)∧Chg B.mkP w w':=by
 have touch:∀(W:World) (z:Nat),Ext w W→W.cell? z=some (B.kb:Value)→Calls prog 354 #[B.kb,.int .i64 s,.func (.func 355) #[] #[z]] W fun e w'=>e=.returned (.int .i64 k)∧Ye w' B c t n gens ws l ms (Ta c t m s)∧Chg B.mkP W w':=by
  intro W z hx hz;have hen:=Ba;unfold Zi at hen;have OF:=Za (I7 (h.ext hx) hk);have SH:=Za (Zdx (s:=s) (h.ext hx) hz);have c8:W.cell? ⟨B.kb,8,none⟩=some (.bool m.act):=hx.cell (h.box.c 8 _ rfl);have k2:k=0∨k=2:=by unfold Iv at hk;split at hk<;>cases hk;exact .inl rfl;exact .inr rfl
  have no:k=2∨m.act=false→Ta c t m s=m:=fun e=>by
   unfold Ta;split
   ·rename_i qa;rcases e with e|e
    ·unfold Iv at hk;split at hk
     ·cases hk;cases e
     ·rename_i q;unfold Yf;rw[if_neg (fun z=>q ⟨z.1,by have:=h.ok.cl;have:=z.2;omega⟩)]
    ·rw[e] at qa;cases qa
   ·rfl
  have H:=Za (fun e=>show Ye W B c t n gens ws l ms (Ta c t m s) by rw[no e];exact h.ext hx);have YES:=Za (fun e:m.act=true=>show Ta c t m s=Yf c t m s by unfold Ta;rw[if_pos e]);clear h hk no hx;rcases k2 with rfl|rfl
  ·cases ha:m.act
   ·have H1:=Za (H.out (.inr ha));rw[ha] at c8;clear ha;go_enter func354,ntmps354;go_wp2_with fail;refine(OF.out).zz ?_;go_wp2;go_ret;exact⟨rfl,H1.out,Chg.refl _ _⟩
   ·have E:=Za (YES.out ha);rw[ha] at c8;clear ha;go_enter func354,ntmps354;go_wp2_with fail;refine(OF.out).zz ?_;go_wp2_with fail;refine SH.out.mono ?_;rintro e w1 ⟨rfl,h1,h2⟩;rw[←E.out] at h1;go_wp2;go_ret;exact⟨rfl,h1,h2⟩
  ·have H1:=Za (H.out (.inl rfl));go_enter func354,ntmps354;go_wp2_with fail;refine(OF.out).zz ?_;go_wp2;go_ret;exact⟨rfl,H1.out,Chg.refl _ _⟩
 have T:=Za touch;have c1:=Zr w (B.kb:Value) 114;have T2:=Za (touch _ _ ((Zy2 w).alloc _) c1);clear touch h hk T c1;go_enter func322,ntmps322;go_wp2_with fail;refine T2.out.mono ?_;rintro e w1 ⟨rfl,h1,h2⟩;go_wp2;go_ret;exact⟨rfl,h1,(Zy3 ((Zy2 w).alloc _)).trans h2⟩
end
section
open Go.RowKit Go.Shelf
attribute [local go_sem] Oper.semAt_some
abbrev Ot(r:List Bool):={ i:Nat // i<r.length∧Zu r i=true }
def Zwj{r:List Bool}(x:Ot r):Array Value:=#[.int .i64 (x.1:Int)]
def Yz(r:List Bool):Nat→List (Ot r)
 | 0=>[]
 | n+1=>Yz r n++if h:n<r.length∧Zu r n=true then [⟨n,h⟩] else []
theorem Fz(r:List Bool):∀n,(Yz r n).length≤n
 | 0=>Zy1 _
 | n+1=>by
  have:=Fz r n;rw[Yz,Zy9];split<;>simp<;>omega
theorem Zio{r:List Bool}{n:Nat}(h:n<r.length∧Zu r n=true):Yz r (n+1)=Yz r n++[⟨n,h⟩]:=by rw[Yz,dif_pos h]
theorem F7{r:List Bool}{n m:Nat}(hnm:n≤m)(h:∀j,n≤j→j<m→Zu r j=false):Yz r m=Yz r n:=by
 induction m with
 | zero=>
  obtain rfl:n=0:=by omega
  rfl
 | succ m ih=>
  rcases Nat.lt_or_ge m n with g|g
  ·obtain rfl:n=m+1:=by omega
   rfl
  ·rw[Yz,ih g fun j h1 h2=>h j h1 (by omega),dif_neg (by rw[h m g (by omega)];simp),List.append_nil]
theorem Oe{r:List Bool}{x:Ot r}:∀{n:Nat},x∈Yz r n ↔ x.1<n
 | 0=>by simp[Yz]
 | n+1=>by
  rw[Yz,List.mem_append,Oe];by_cases h:n<r.length∧Zu r n=true
  ·rw[dif_pos h,List.mem_singleton]
   constructor
   ·rintro (h1|rfl)
    ·omega
    ·exact Nat.lt_succ_self _
   ·intro h1;rcases Nat.lt_or_ge x.1 n with g|g
    ·exact .inl g
    ·exact .inr (Subtype.ext (show x.1=n by omega))
  ·rw[dif_neg h];simp only[List.not_mem_nil,or_false]
   constructor
   ·omega
   ·intro h1;rcases Nat.lt_or_ge x.1 n with g|g
    ·exact g
    ·have e:x.1=n:=by omega
     exact absurd (e▸x.2) h
theorem I8{r:List Bool}{n:Nat}{p:Int}(h:Te r n true p true):∃i:Nat,p=i∧n≤i∧∃h:i<r.length∧Zu r i=true,Yz r (i+1)=Yz r n++[⟨i,h⟩]:=by
 rcases h with ⟨_,i,rfl,h1,h2,h3,h4⟩|⟨h,_⟩
 ·refine⟨i,rfl,by omega,⟨h2,h3⟩,?_⟩;rw[Zio ⟨h2,h3⟩,F7 (n:=n) (by omega) fun j h5 h6=>h4 j (by omega) h6]
 ·cases h
theorem Zip{r:List Bool}{n:Nat}{p:Int}(hn:n≤r.length)(h:Te r n true p false):Yz r r.length=Yz r n:=by
 rcases h with ⟨h,_⟩|⟨_,_,h⟩
 ·cases h
 ·exact F7 hn fun j h1 h2=>h j (by omega) h2
theorem Tab.chg{Q:Nat→Prop}{w w':World}(h:Tab w)(hx:Chg Q w w')(hq:¬Q 2):Tab w':=fun j hj=>hx.cell hq (h j hj)
theorem Zq0(n:Nat)(hn:1≤n)(l Bl rb rg:Nat){r:List Bool}(Q:Nat→Prop)(q0:¬Q Bl)(q1:¬Q rb)(q2:¬Q rg)(q3:¬Q 2)(J Jx:List (Ot r)→World→Prop)(hJe:∀pre V V',J pre V→Ext V V'→J pre V')
  (hY:∀pre x W,J pre W→pre.length<r.length→YieldAt Fence.wide (n-1) prog l (Zwj x) W fun e W'=>
   (e=.returned (.bool true)∧J (pre++[x]) W'∧Chg Q W W')∨(e=.returned (.bool false)∧Jx (pre++[x]) W'))
  (W:World) (cl:W.cell? Bl=some (rb:Value)) (hR:Z1 W rb rg r) (hT:Tab W) (h0:J [] W) :
  CallsIn Fence.wide n prog 393 #[.func (.yield l) #[] #[],Bl] W fun e W'=>(∃v,e=.returned v) ∧
   ((∃ys,ys=Yz r r.length∧J ys W')∨(∃pre,(∃j,j≤r.length∧pre=Yz r j)∧Jx pre W')):=by
 have most:=hR.most;have HY:=Za hY;have JE:=Za hJe;have H0:=Za h0;have HR:=Za hR;have HT:=Za hT;have CL:=Za cl;obtain⟨p,q,hnx⟩:=Na r ((0:Nat):Int) true;have NX:=Za hnx;clear hY hJe h0 hR hT hnx;refine callsIn_of_wp func393 rfl trivial ?_ rfl;simp only[ntmps393,List.size_toArray,List.length_cons,List.length_nil,Nat.reduceAdd,Nat.reduceSub,Array.replicate_succ,Array.replicate_zero,List.push_toArray,List.append_toArray,List.nil_append,List.cons_append]
 gi_wp2_with (first
  | (refine⟨trivial,?_⟩;gi_at_call 317;refine(callsIn_wide.2 (Sq r p q HR.out HT.out NX.out)).mono ?_;rintro e W1 ⟨rfl,x1⟩;have X1:=Za x1))
 gi_loopw [3,4] (fun iv qv wr=>∃(m:Nat) (p:Int) (q:Bool),m≤r.length∧iv=.int .i64 p∧qv=.bool q∧Hid (Te r m true p q)∧Hid (J (Yz r m) wr)∧Hid (Chg Q W wr)) (fun iv qv _=>match qv with|.bool true=>r.length-(intOf iv).toNat+1|_=>0)
 case atStart=>exact⟨0,p,q,Nat.zero_le _,rfl,rfl,NX,Za (JE.out _ _ _ H0.out X1.out),Za (Zy3 X1.out)⟩
 case round=>
  obtain⟨m,p,q,hm,rfl,rfl,NX,HJ,HC⟩:=hrel;cases q
  ·have he:=Zip hm NX.out;have HE:=Za he;clear he
   gi_wp2
   go_end0
   exact⟨⟨_,rfl⟩,.inl ⟨_,rfl,HE.out▸HJ.out⟩⟩
  ·obtain⟨i,rfl,hmi,hi,he⟩:=I8 NX.out;have hlt:(Yz r m).length<r.length:=by have:=Fz r m;omega
   have hi1:=hi.1;have cl:=HC.out.cell q0 CL.out;have hy0:=HY.out _ ⟨i,hi⟩ wr HJ.out hlt;have HE:=Za he;have ef:Zwj (r:=r) ⟨i,hi⟩=#[.int .i64 (i:Int)]:=rfl;rw[ef] at hy0;obtain⟨fn,tmps,assign,body,hy,hR⟩:=hy0;clear ef he
   gi_wp2
   have hR2:=hR.mono (R':=fun e W'=>∃bb:Bool,e=.returned (.bool bb)∧Hid ((bb=true∧J (Yz r m++[⟨i,hi⟩]) W'∧Chg Q wr W')∨(bb=false∧Jx (Yz r m++[⟨i,hi⟩]) W'))) (fun e W' h=>by
    rcases h with ⟨rfl,h1,h2⟩|⟨rfl,h1⟩
    ·exact⟨true,rfl,.inl ⟨rfl,h1,h2⟩⟩
    ·exact⟨false,rfl,.inr ⟨rfl,h1⟩⟩)
   clear hR;refine hR2.mono ?_;rintro e W4 ⟨bb,rfl,hbb⟩;clear hR2 hy;rcases hbb.out with ⟨rfl,hJ3,hk3⟩|⟨rfl,hJx3⟩
   ·obtain⟨p',q',hnx⟩:=Na r ((i+1:Nat):Int) true;have HJ3:=Za hJ3;have HK3:=Za (HC.out.trans hk3);have hr4:=HR.out.chg HK3.out q1 fun _=>q2
    have ht4:=HT.out.chg HK3.out q3;have cl4:=HK3.out.cell q0 CL.out;have hnx':=hnx;rw[show((i+1:Nat):Int)=(i:Int)+1 from rfl] at hnx';have NN:=Za hnx;have CN:=Za (Sq r p' q' hr4 ht4 hnx');clear hbb hJ3 hk3 hr4 ht4 hnx hnx'
    gi_wp2_with (first
     | (refine⟨trivial,?_⟩;gi_at_call 317;refine(callsIn_wide.2 CN.out).mono ?_;rintro e W5 ⟨rfl,x5⟩;have X5:=Za x5))
    go_roundw
    case rel=>exact⟨i+1,p',q',by omega,rfl,rfl,NN,Za (by rw[HE.out];exact JE.out _ _ _ HJ3.out X5.out),Za (HK3.out.trans (Zy3 X5.out))⟩
    case measure=>
     cases q'
     ·simp[intOf]
     ·obtain⟨i',rfl,h1,h2,_⟩:=I8 NN.out;have:=h2.1;simp[intOf];omega
   ·have HX3:=Za hJx3;clear hbb hJx3
    gi_wp2
    refine bodyPost_ret (results_none rfl _ _ _) rfl ?_;exact⟨⟨_,rfl⟩,.inr ⟨_,⟨i+1,hi.1,HE.out.symm⟩,HX3.out⟩⟩
end
section
open Go.RowKit Go.Shelf
attribute [local go_sem] Oper.semAt_some
theorem Chg.past{P:Nat→Prop}{v A B:World}{row:Option Nat}(h:Chg P v A)(hg:A.grownBy B row)(hr:∀r,row=some r→v.heap.size≤r∧∃o:Obj,A.heap[r]?=some o∧o.isCells=false):Chg P v B:=
 ⟨hg.os.trans h.os,hg.tape.trans h.tape,hg.output.trans h.output,Zy6 h.size hg.size,fun k hk hp=>(hg.block k (Zy5 hk h.size) (fun e=>by have:=(hr k e.symm).1;omega)).trans (h.block k hk hp)⟩
theorem Chg.grown{N:Nat}{A B:World}{row:Option Nat}(hg:A.grownBy B row)(hr:∀r,row=some r→N≤r∧∃o:Obj,A.heap[r]?=some o∧o.isCells=false):Chg (fun k=>N≤k) A B:=
 ⟨hg.os,hg.tape,hg.output,hg.size,fun k hk hp=>hg.block k hk (fun e=>hp (hr k e.symm).1)⟩
theorem Chg.putObj{P:Nat→Prop}{a W:World}(h:Chg P a W){l:Nat}(hp:P l)(o:Obj):Chg P a (W.putObj l o):=
 h.trans ⟨(grownBy_putObj' W l o).os,(grownBy_putObj' W l o).tape,(grownBy_putObj' W l o).output,(grownBy_putObj' W l o).size,fun k hk hn=>(grownBy_putObj' W l o).block k hk (by intro e;cases e;exact hn hp)⟩
theorem Chg.new{P:Nat→Prop}{v A B:World}(h:Chg P v A)(k:Chg (fun k=>v.heap.size≤k) A B):Chg P v B:=
 ⟨k.os.trans h.os,k.tape.trans h.tape,k.output.trans h.output,Zy6 h.size k.size,fun i hi hp=>(k.block i (Zy5 hi h.size) (by omega)).trans (h.block i hi hp)⟩
theorem Chg.keeps{P:Nat→Prop}{A B:World}(h:Chg P A B)(hc:∀k,P k→∃o:Obj,A.heap[k]?=some o∧o.isCells=true):KeepsOthers A B:=
 ⟨h.size,fun k o hk ho=>(h.block k (Array.getElem?_eq_some_iff.1 hk).1 (fun hp=>by
  obtain⟨o',h1,h2⟩:=hc k hp;rw[hk] at h1;cases h1;rw[ho] at h2;cases h2)).trans hk⟩
variable{w w':World}{b pb gp rb rg lb lg:Nat}{c:Zh}{t:Nat}{bs bs' r:List Bool}{u:Int}
theorem Y9.tab(h:Y9 w b pb gp rb rg c t bs u)(hT:Tab w):¬arB b rg 2:=by
 have t0:=hT 0 (by decide);rintro (e|e)
 ·have c0:=h.c0;rw[←e] at c0;rw[c0] at t0;cases t0
 ·have c0:=h.row.word h.pos 0 (Sl h.pos);rw[←e] at c0;rw[c0] at t0;cases t0
theorem Y9.cells(h:Y9 w b pb gp rb rg c t bs u):∀k,arB b rg k→∃o:Obj,w.heap[k]?=some o∧o.isCells=true:=by
 rintro k (rfl|rfl)
 ·exact cells_of_cell h.c0
 ·exact cells_of_cell (h.row.word h.pos 0 (Sl h.pos))
theorem Y9.apart(h:Y9 w b pb gp rb rg c t bs u)(hl:Z1 w lb lg r)(h0:0<r.length)(hn:lg≠rg):¬arB b rg lb∧¬arB b rg lg:=by
 obtain⟨a,cap,l0,_⟩:=hl.ex
 constructor
 ·rintro (e|e)
  ·rw[e,h.c0] at l0;cases l0
  ·have:=h.row.word h.pos 0 (Sl h.pos);rw[e,this] at l0;cases l0
 ·rintro (e|e)
  ·have:=hl.word h0 0 (Sl h0);rw[e,h.c0] at this;cases this
  ·exact hn e
theorem I9{pre:List (Ot r)}{x:Ot r}:∀{j:Nat},Yz r j=pre++[x]→pre=Yz r x.1∧∀y∈pre,y.1≠x.1
 | 0,h=>by simp[Yz] at h
 | j+1,h=>by
  rw[Yz] at h;by_cases hj:j<r.length∧Zu r j=true
  ·rw[dif_pos hj] at h;obtain⟨e1,e2⟩:=List.append_inj' h rfl
   injection e2 with e2 _
   subst e2;refine⟨e1.symm,fun y hy=>?_⟩;rw[←e1] at hy;have:=Oe.1 hy;show y.1≠j
   omega
  ·rw[dif_neg hj,List.append_nil] at h;exact I9 h
theorem Ziq(i:Nat):(Yz r r.length).any (fun y=>y.1==i)=Zu r i:=by
 cases hb:Zu r i
 ·rw[List.any_eq_false];intro y _ e;have e:y.1=i:=by simpa using e
  have:=y.2.2;rw[e,hb] at this;cases this
 ·rw[List.any_eq_true];have hi:i<r.length:=by
   rcases Nat.lt_or_ge i r.length with g|g
   ·exact g
   ·rw[Un g] at hb;cases hb
  exact⟨⟨i,hi,hb⟩,Oe.2 hi,by simp⟩
def K6(w3:World)(b pb gp rb rg:Nat)(c:Zh)(t:Nat)(bs r:List Bool)(pre:List (Ot r))(W:World):Prop:=
 Chg (arB b rg) w3 W∧∃bs' u,Y9 W b pb gp rb rg c t bs' u∧-64*(pre.length:Int)≤u∧u≤1048576∧bs'.length=bs.length∧(∀i,Zu bs' i=(Zu bs i&&!(pre.any fun y=>y.1==i)))∧((∃j,pre=Yz r j)→u=Xh c t bs')
theorem K6.own{w3:World}{l:List (Ot r)}{A B:World}{row:Option Nat}(h:K6 w3 b pb gp rb rg c t bs r l A)(l1:b<w3.heap.size∧pb<w3.heap.size∧gp<w3.heap.size∧rb<w3.heap.size∧rg<w3.heap.size)(hg:A.grownBy B row)
  (hr:∀r,row=some r→w3.heap.size≤r∧∃o:Obj,A.heap[r]?=some o∧o.isCells=false):K6 w3 b pb gp rb rg c t bs r l B:=by
 obtain⟨h1,bs',u,h2,h3⟩:=h;have hc:=Chg.grown hg hr;exact⟨h1.past hg hr,bs',u,h2.chg hc (by omega) ⟨by omega,by omega⟩ ⟨by omega,by omega⟩,h3⟩
theorem K6.start(h:X7 w b pb gp rb rg c t bs):K6 w b pb gp rb rg c t bs r [] w:=by
 have bd:=Ik h.plan.ok h.plan.ti bs;exact⟨Chg.refl _ _,bs,_,h,by simpa using bd.1,bd.2,rfl,fun i=>by simp,fun _=>rfl⟩
theorem K6.round{w3 W:World}{pre:List (Ot r)}{x:Ot r}(h:K6 w3 b pb gp rb rg c t bs r pre W)(hl:pre.length<r.length)(hrl:r.length=nS c t)(hs:∀i,Zu r i=true→Zu bs i=true) :
  Calls prog 392 #[b,.int .i64 x.1] W fun e W'=>e=.returned (.tuple #[])∧K6 w3 b pb gp rb rg c t bs r (pre++[x]) W'∧KeepsOthers W W'∧Chg (arB b rg) W W':=by
 obtain⟨h1,bs',u,h2,h3,h4,h5,h6,h7⟩:=h;have hx:x.1<bs'.length:=by have:=x.2.1;rw[h2.len];omega
 have ln:=h2.plan.ok.nS_le h2.plan.ti;have sz:=Ij h2.plan.ok h2.plan.ti (s:=x.1) (by rw[←h2.len];exact hx);have kc:=h2.cells;refine(Zdn h2 hx ⟨by omega,h4⟩).mono ?_;rintro e W' ⟨rfl,q1,q2⟩;refine⟨rfl,⟨h1.trans q2,_,_,q1,by rw[Zy9,List.length_singleton];omega,by omega,by rw[List.length_set];exact h5,fun i=>?_,fun hj=>?_⟩,q2.keeps kc,q2⟩
 ·rw[Z8 hx,List.any_append,h6];by_cases e:i=x.1
  ·subst e;simp
  ·rw[if_neg e];have e':(x.1==i)=false:=by simpa using Ne.symm e
   simp[e']
 ·obtain⟨j,hj⟩:=hj;obtain⟨e1,e2⟩:=I9 hj.symm;have hb:Zu bs' x.1=true:=by
   rw[h6,hs _ x.2.2];simp only[Bool.true_and,Bool.not_eq_true'];rw[List.any_eq_false];intro y hy;simpa using e2 y hy
  rw[Zk6 h2.len hx hb,h7 ⟨_,e1⟩]
theorem K6.done{w3 W:World}(h:K6 w3 b pb gp rb rg c t bs r (Yz r r.length) W):X7 W b pb gp rb rg c t (Dy bs r):=by
 obtain⟨h1,bs',u,h2,h3,h4,h5,h6,h7⟩:=h;have e:bs'=Dy bs r:=Zyn (by rw[Ii];exact h5) fun i _=>by rw[h6,Ziq,N4]
 rw[←e];have:=h7 ⟨_,rfl⟩;subst this;exact h2
theorem F8(n:Nat)(hn:1≤n)(Bl lb lg N:Nat)(Q:Nat→Prop)(hN:r.length=N)(q0:¬Q Bl)(q1:¬Q lb)(q2:¬Q lg)(q3:¬Q 2)(w:World)(cl:w.cell? Bl=some (lb:Value))(hR:Z1 w lb lg r)(hT:Tab w) :
  SeqStopsK Fence.wide n prog 393 #[Bl] (Zwj (r:=r)) (Chg Q) (fun ys=>ys=Yz r r.length) (fun pre=>∃j,j≤r.length∧pre=Yz r j) N w:=fun l J Jx W hW hJ _ hY h0=>by
 have hx:Ext w W:=hW;subst hN;exact Zq0 n hn l Bl lb lg Q q0 q1 q2 q3 J Jx (fun pre V V' h hz=>hJ pre V V' none h ⟨Below.os hz,Below.tape hz,Below.output hz,Below.size hz,fun k hk _=>Below.block hz k hk⟩ (fun r e=>by cases e)) hY W (hx.cell cl) (hR.ext hx) (fun j hj=>hx.cell (hT j hj)) h0
theorem F9(pp:Option Addr){w:World} :
  Calls prog 391 #[.pointer pp] w fun e w'=>e=.returned (.func (.func 393) #[] #[w.heap.size]) ∧
   w'=w.alloc (.cells #[.pointer pp] 129):=by
 go_enter func391,ntmps391;go_wp2;go_ret;exact⟨rfl,rfl⟩
end
section
open Go.RowKit Go.Shelf
attribute [local go_sem] Oper.semAt_some
variable{w w':World}{b pb gp rb rg lb lg:Nat}{c:Zh}{t:Nat}{bs bs' r:List Bool}{u:Int}
theorem Zq1(w:World)(v0 v1:Value)(t0 t1:TypeId) :
  ((w.alloc (.cells #[v0] t0)).alloc (.cells #[v1] t1)).cell? w.heap.size=some v0 ∧
  (((w.alloc (.cells #[v0] t0)).alloc (.cells #[v1] t1)).cell? ⟨w.heap.size+1,0,none⟩=some v1∧((w.alloc (.cells #[v0] t0)).alloc (.cells #[v1] t1)).frozen? ⟨w.heap.size+1,0,none⟩=false):=by
 have c1:=Zg (w.alloc (.cells #[v0] t0)) #[v1] t1 0;have f1:((w.alloc (.cells #[v0] t0)).alloc (.cells #[v1] t1)).frozen? ⟨(w.alloc (.cells #[v0] t0)).heap.size,0,none⟩=false:=World.frozen?_alloc_at _ _ _ _ rfl;simp only[World.size_alloc] at c1 f1;exact⟨((Zy2 _).alloc _).cell (Zg w _ _ 0),c1,f1⟩
theorem Bb{q:Int}(h:X7 w b pb gp rb rg c t bs)(hT:Tab w)(hl:Z1 w lb lg r)(hn:lg≠rg)(hrl:r.length=bs.length)(hr:Wz bs r=(bs',q)) :
  Calls prog 385 #[b,lb] w fun e w'=>e=.returned (.int .i64 q)∧X7 w' b pb gp rb rg c t bs'∧Chg (arB b rg) w w':=by
 have H:=Za h;have HR:=Za hr;have HT:=Za hT;have HL:=Za hl;have RL:=Za hrl;have AP:=Za (h.apart hl (by rw[hrl];exact h.pos) hn);have TB:=Za (h.tab hT);have LT:=Za h.lt;have l0:=hl.lt;have l1:=hl.glt (by rw[hrl];exact h.pos);have hmost:=hl.most;obtain⟨N,hN⟩:=Zb (bs.length);have LN1:Hid (∀W,Ext w W→Calls prog 114 #[lb] W fun e w'=>e=.returned (.int .i64 N)∧W=w'):=Za fun W x=>by
  have:=Cf r (hl.ext x);rw[hrl,hN] at this;exact this
 have LN2:Hid (∀W,Ext w W→Calls prog 114 #[rb] W fun e w'=>e=.returned (.int .i64 N)∧W=w'):=Za fun W x=>by
  have:=Cf bs (h.row.ext x);rw[hN] at this;exact this
 have CPY:=Za (fun W (x:Ext w W)=>Ci r (hl.ext x));have HN:=Za hN;obtain⟨z,hz⟩:=Zb (w.heap.size);obtain⟨W0,hW0⟩:=Zb ((w.alloc (.cells #[b] 63)).alloc (.cells #[(0:Int)] 28));have x0:Ext w W0:=by rw[←hW0];exact((Zy2 _).alloc _).alloc _
 obtain⟨k0,k1⟩:=(by rw[←hW0,←hz];exact Zq1 w _ _ _ _:W0.cell? z=some (b:Value)∧(W0.cell? ⟨z+1,0,none⟩=some (.int .i64 0)∧W0.frozen? ⟨z+1,0,none⟩=false));have sz:W0.heap.size=z+2:=by rw[←hW0,←hz];simp
 have HZ:=Za hz;have c1:=x0.cell h.c1;have xd:Ext w W0.drew:=x0.drew;clear h hl hT hn hr hrl hN;refine(callsIn_wide (n:=4)).1 ?_;refine callsIn_of_wp_marks func385 rfl trivial ?_ rfl;simp only[ntmps385,List.size_toArray,List.length_cons,List.length_nil,Nat.reduceAdd,Nat.reduceSub,Array.replicate_succ,Array.replicate_zero,List.push_toArray,List.append_toArray,List.nil_append,List.cons_append]
 gi_wp2_with (first|(refine⟨trivial,?_⟩;gi_at_call 48;refine(callsIn_wide.2 (Wg (H.out.ext x0))).mono ?_;rintro e w' ⟨rfl,rfl⟩))
 refine wpIn_mono (Q:=fun e a' W'=>e=.normal∧∃b1:Nat,a'={ tmps:=#[(b:Value),(lb:Value),(z:Value),undef,.pointer (some ⟨z+1,0,none⟩),undef,undef,.bool false,(b:Value),.bool false,.bool false,(lb:Value),.pointer (some ⟨b1,0,none⟩),.bool false,.bool false,(lb:Value),.int .i64 N,(b:Value),(b:Value),.pointer (some ⟨b,1,none⟩),(rb:Value),.int .i64 N,.bool false,.bool false,undef,undef,undef,undef,undef,undef,undef,undef,undef,undef,undef,undef,undef,undef,undef,undef],defers:=[] }∧Ext W0 W') ?_ ?_
 ·refine Vb ?_
  gi_region_with (first
   | (refine⟨trivial,?_⟩;gi_at_call 219;refine(callsIn_wide.2 (CPY.out _ xd)).mono ?_;rintro e W1 ⟨b1,g1,rfl,_,_,_,x1⟩;have k0':=x1.cell ((Zy2 _).drew.cell k0);have k1':=x1.cell ((Zy2 _).drew.cell k1.1);have f1':=x1.frozenAt ((Zy2 _).drew.cell k1.1) ((Zy2 _).drew.frozenAt k1.1 k1.2);have c1':=x1.cell ((Zy2 _).drew.cell c1);have xx:=xd.trans x1)
   | (refine⟨trivial,?_⟩;gi_at_call 114;first|(refine(callsIn_wide.2 (LN1.out _ xx)).mono ?_;rintro e w' ⟨rfl,rfl⟩)|(refine(callsIn_wide.2 (LN2.out _ xx)).mono ?_;rintro e w' ⟨rfl,rfl⟩)|fail))
  all_goals
   refine NoPanic.normal ?_;exact⟨rfl,_,rfl,(Zy2 _).drew.trans x1⟩
 ·rintro e a' W1 ⟨rfl,b1,rfl,x1⟩;have K0:=x1.cell k0;have K1:=x1.cell k1.1;have F1:=x1.frozenAt k1.1 k1.2;have C1:=x1.cell c1;have X1:=Za (x0.trans x1);have x1':=x1.size;clear k0 k1 c1 xd x1 x0 hW0
  gi_wp2_with (first|(refine⟨trivial,?_⟩;gi_at_call 391;refine(callsIn_wide.2 (F9 _)).mono ?_;rintro e w' ⟨rfl,rfl⟩))
  obtain⟨y,hy⟩:=Zb (W1.heap.size);obtain⟨W2,hW2⟩:∃V,W1.alloc (.cells #[lb] 129)=V:=⟨_,rfl⟩;have x2:Ext W1 W2:=by rw[←hW2];exact(Zy2 _).alloc _
  have cy:W2.cell? y=some (lb:Value):=by rw[←hW2,←hy];exact Zg W1 _ _ 0
  have sz2:W2.heap.size=y+1:=by rw[←hW2,←hy];simp
  have X2:=Za (X1.out.trans x2);have zy:z+2≤y:=by rw[←hy,←sz];exact x1'
  have k0:=x2.cell K0;have k1:=x2.cell K1;have f1:=x2.frozenAt K1 F1;have c1:=x2.cell C1;have K:=Za (And.intro k0 (And.intro k1 (And.intro f1 c1)));obtain⟨ab,abg⟩:=AP.out;have lt:=LT.out;have ST:=Za (F8 (r:=r) 3 (by decide) y lb lg N (fun k=>arB b rg k∨W2.heap.size≤k) (RL.out.trans HN.out) (by unfold arB;omega) (by unfold arB at ab ⊢;omega) (by unfold arB at abg ⊢;omega) (by have:=TB.out;have t:2<w.heap.size:=Zj (HT.out 0 (by decide));have:=X2.out.size;unfold arB at *;omega) W2 cy (HL.out.ext X2.out) (HT.out.ext X2.out));rw[hW2,hy];clear cy hW2 k0 k1 f1 c1 K0 K1 F1 C1 x2 ab abg;refine wpIn_rangeFunc_ownF rfl (by omega) (gf:=393) (lb:=#[(y:Value)]) rfl trivial (enters_of func393 (by kernel_rfl) rfl)
   ST.out (fun h k=>h.trans k) (fun W l o o' hl _ _ _=>(Chg.refl _ W).putObj (.inr hl) o') (Below.refl _ _) (fun _=>rfl)
   (fun pre W=>Below W2.heap.size W2 W∧∀x∈pre,Zu bs x.1=true)
   (fun cc _ W=>(cc=.ret∧W.cell? ⟨z+1,0,none⟩=some (.int .i64 9)∧∃i,Zu r i=true∧Zu bs i=false)∧Below w.heap.size w W)
   (OwnFrom.and (ownFrom_below (Zy1 _) (Zy1 _)) (Own.from (fun _ _ _ _ hs _ _=>hs) _))
   (fun cc=>OwnFrom.and (Own.from (fun s A B row hs hg hr=>⟨hs.1,cell_kept hs.2.1 hg hr,hs.2.2⟩) _) (ownFrom_below (Zy1 _) X2.out.size))
   ⟨Below.refl _ _,fun x hx=>by cases hx⟩
   (fun x=>{ tmps:=#[(b:Value),(lb:Value),(z:Value),undef,.pointer (some ⟨z+1,0,none⟩),.int .i64 (x.1:Int),undef,.bool false,(b:Value),.bool false,.bool false,(lb:Value),(b1:Value),.bool false,.bool false,(lb:Value),.int .i64 N,(b:Value),(b:Value),.pointer (some ⟨b,1,none⟩),(rb:Value),.int .i64 N,.bool false,.bool false,(lb:Value),.func (.func 393) #[] #[y],.int .i64 (x.1:Int),undef,undef,undef,undef,undef,undef,undef,undef,undef,undef,undef,undef,undef],defers:=[] }) ?assign ?body ?done ?stop
  case assign=>
   intro l x W K hK;simp only[Zwj]
   gi_wp2
   exact hK
  case body=>
   rintro l pre x W ⟨hB,hall⟩ hlen;have hB':Ext W2 W:=hB;have k0:=hB'.cell K.out.1;have k1:=hB'.cell K.out.2.1;have f1:=hB'.frozenAt K.out.2.1 K.out.2.2.1;have c1:=hB'.cell K.out.2.2.2;have HB:=Za hB';have HA:=Za hall;obtain⟨n,hn⟩:=Zb (x.1);have XN:=Za (show n<r.length∧Zu r n=true by rw[←hn];exact x.2);have HX:=Za hn;simp only[hn];clear hB hB' hall hn;cases hb:Zu bs n
   ·have GE:=Za (Cg (i:=(n:Int)) bs false (H.out.row.ext (X2.out.trans HB.out)) (by rw[Tj,hb]));have HBB:=Za hb;clear hb
    gi_wp2_with (first|(refine⟨trivial,?_⟩;gi_at_call 49;refine(CallsIn.inRound l (callsIn_wide.2 GE.out)).mono ?_;rintro e w' ⟨rfl,rfl⟩))
    refine⟨KeepsOthers.setCell _ _ _,⟨rfl,Zyz _ _ _ k1,n,XN.out.2,HBB.out⟩,(X2.out.trans HB.out).setCell (p:=⟨z+1,0,none⟩) (by have:=HZ.out;show w.heap.size≤z+1;omega) _⟩
   ·have GE:=Za (Cg (i:=(n:Int)) bs true (H.out.row.ext (X2.out.trans HB.out)) (by rw[Tj,hb]));have HBB:=Za hb;clear hb
    gi_wp2_with (first|(refine⟨trivial,?_⟩;gi_at_call 49;refine(CallsIn.inRound l (callsIn_wide.2 GE.out)).mono ?_;rintro e w' ⟨rfl,rfl⟩))
    refine⟨KeepsOthers.refl _,Chg.refl _ _,HB.out,fun x' hx'=>?_⟩;rcases List.mem_append.1 hx' with h|h
    ·exact HA.out x' h
    ·rw[List.mem_singleton.1 h,HX.out];exact HBB.out
  case stop=>
   rintro D cc pre W hD _ ⟨⟨rfl,c9,i,hi1,hi2⟩,hB⟩ hK
   gi_wp2
   refine⟨by simp,.inl ⟨_,_,rfl,run_takeDeferred hK,?_⟩⟩;have e1:=cell_kept c9 (grownBy_putObj' _ D (.deferred none)) (fun r e=>by cases e;exact⟨_,hK,rfl⟩);have hr:=HR.out;unfold Wz at hr;rw[if_neg (fun hh=>by
    have hin:i<bs.length:=by
     rcases Nat.lt_or_ge i r.length with g|g
     ·have:=RL.out;omega
     ·rw[Un g] at hi1;cases hi1
    rw[hh i hin hi1] at hi2;cases hi2)] at hr
   cases hr;have hE:Ext w (W.putObj D (.deferred none)):=Chg.ext (((Zy3 (P:=fun _=>False) hB).new ((Chg.refl _ W).putObj (by have:=X2.out.size;show w.heap.size≤D;omega) _)));refine⟨.int .i64 9,?_,rfl,H.out.ext hE,Zy3 hE⟩;simp[results,f385,go_sem,e1]
  case done=>
   rintro D ys W hD rfl ⟨hB,hall⟩ hK;have hB':Ext W2 W:=hB;have HS:Hid (∀i,Zu r i=true→Zu bs i=true):=Za fun i hi=>by
    have hir:i<r.length:=by
     rcases Nat.lt_or_ge i r.length with g|g
     ·exact g
     ·rw[Un g] at hi;cases hi
    exact hall ⟨i,hir,hi⟩ (Oe.2 hir)
   have hr:=HR.out;unfold Wz at hr;rw[if_pos (fun i _ hi=>HS.out i hi)] at hr;obtain⟨rfl,rfl⟩:Dy bs r=bs'∧0=q:=by cases hr;exact⟨rfl,rfl⟩
   have k0:=hB'.cell K.out.1;have HB:=Za (X2.out.trans hB');have HK1:=Za hK;have HB2:=Za hB';clear hr hall hB hB' hK
   gi_wp2_with (first|(refine⟨trivial,?_⟩;gi_at_call 391;refine(callsIn_wide.2 (F9 _)).mono ?_;rintro e w' ⟨rfl,rfl⟩))
   obtain⟨y2,hy2⟩:∃y,W.heap.size=y:=⟨_,rfl⟩;obtain⟨W3,hW3⟩:∃V,W.alloc (.cells #[lb] 129)=V:=⟨_,rfl⟩;have x3:Ext W W3:=by rw[←hW3];exact(Zy2 _).alloc _
   have cy:W3.cell? y2=some (lb:Value):=by rw[←hW3,←hy2];exact Zg W _ _ 0
   have sz3:W3.heap.size=y2+1:=by rw[←hW3,←hy2];simp
   have X3:=Za (HB.out.trans x3);have zy2:y≤y2:=by have:=HB2.out.size;omega
   have Dlt:D<W.heap.size:=(Array.getElem?_eq_some_iff.1 HK1.out).1;have k0:=x3.cell k0;have k1:=x3.cell (HB2.out.cell K.out.2.1);have f1:=x3.frozenAt (HB2.out.cell K.out.2.1) (HB2.out.frozenAt K.out.2.1 K.out.2.2.1);have K3:=Za (And.intro k0 (And.intro k1 f1));have D3:=Za (x3.block HK1.out);obtain⟨ab,abg⟩:=AP.out;have ST2:=Za (F8 (r:=r) 3 (by decide) y2 lb lg N (fun k=>arB b rg k∨W3.heap.size≤k) (RL.out.trans HN.out) (by unfold arB;omega) (by unfold arB at ab ⊢;omega) (by unfold arB at abg ⊢;omega) (by have:=TB.out;have t:2<w.heap.size:=Zj (HT.out 0 (by decide));have:=X3.out.size;unfold arB at *;omega) W3 cy (HL.out.ext X3.out) (HT.out.ext X3.out));have l3:b<W3.heap.size∧pb<W3.heap.size∧gp<W3.heap.size∧rb<W3.heap.size∧rg<W3.heap.size:=by have:=X3.out.size;omega
   have LN:=Za (show r.length=nS c t by rw[RL.out];exact H.out.len);rw[hW3,hy2];clear cy hW3 k0 k1 f1 x3 ab abg ST;refine wpIn_rangeFunc_ownF rfl (by omega) (gf:=393) (lb:=#[(y2:Value)]) rfl trivial (enters_of func393 (by kernel_rfl) rfl)
    ST2.out (fun h k=>h.trans k) (fun W l o o' hl _ _ _=>(Chg.refl _ W).putObj (.inr hl) o') (Below.refl _ _) (fun _=>rfl)
    (fun pre V=>K6 W3 b pb gp rb rg c t bs r pre V)
    (fun _ _ _=>False)
    (fun s A B row hs hg hr=>hs.own l3 hg hr)
    (fun cc s A B row hs hg hr=>hs.elim)
    (K6.start (H.out.ext X3.out))
    (fun x=>{ tmps:=#[(b:Value),(lb:Value),(z:Value),undef,.pointer (some ⟨z+1,0,none⟩),undef,.int .i64 (x.1:Int),.bool false,(b:Value),.bool false,.bool false,(lb:Value),(b1:Value),.bool false,.bool false,(lb:Value),.int .i64 N,(b:Value),(b:Value),.pointer (some ⟨b,1,none⟩),(rb:Value),.int .i64 N,.bool false,.bool false,(lb:Value),.func (.func 393) #[] #[y],undef,undef,undef,undef,undef,undef,undef,undef,(lb:Value),.func (.func 393) #[] #[y2],.int .i64 (x.1:Int),undef,undef,undef],defers:=[] }) ?assign ?body ?done ?stop
   case assign=>
    intro l x W K hK;simp only[Zwj]
    gi_wp2
    exact hK
   case body=>
    rintro l pre x V hG hlen;have nz:¬arB b rg z:=by unfold arB;omega
    have k0:=hG.1.cell (p:=⟨z,0,none⟩) nz K3.out.1;have GR:=Za (hG.round (x:=x) (by have:=RL.out;have:=HN.out;omega) LN.out HS.out);clear hG nz
    gi_wp2_with (first|(refine⟨trivial,?_⟩;gi_at_call 392;refine(CallsIn.inRound l (callsIn_wide.2 GR.out)).mono ?_;rintro e W' ⟨rfl,g1,g2,g3⟩))
    exact⟨g2,g3.mono fun k hk=>.inl hk,g1⟩
   case stop=>
    rintro D2 cc pre V _ _ hf _;exact hf.elim
   case done=>
    rintro D2 ys V hD2 rfl hG hK2;have nz1:¬arB b rg (z+1):=by unfold arB;omega
    have nD:¬arB b rg D:=by unfold arB;omega
    have k1:=hG.1.cell (p:=⟨z+1,0,none⟩) nz1 K3.out.2.1;have f1:V.frozen? ⟨z+1,0,none⟩=false:=by rw[hG.1.frozen (p:=⟨z+1,0,none⟩) (Zj K3.out.2.1) nz1];exact K3.out.2.2
    have kD:V.heap[D]?=some (.deferred (some [])):=by rw[hG.1.block D (by omega) nD];exact D3.out
    have HG:=Za hG;have HK2:=Za hK2;have KD:=Za kD;clear hG hK2 kD nz1 nD
    gi_wp2
    have hK2':=(KeepsOthers.setCell V ⟨z+1,0,none⟩ (.int .i64 0)).same D2 _ HK2.out rfl;have hKD':=(KeepsOthers.setCell V ⟨z+1,0,none⟩ (.int .i64 0)).same D _ KD.out rfl;refine⟨by simp,.inl ⟨_,_,rfl,run_takeDeferred hK2',?_⟩⟩;have hKD2:((V.setCell ⟨z+1,0,none⟩ (.int .i64 0)).putObj D2 (.deferred none)).heap[D]?=some (.deferred (some [])):=by
     rw[World.putObj_heap_other (by omega)];exact hKD'
    refine⟨by simp,.inl ⟨_,_,rfl,run_takeDeferred hKD2,?_⟩⟩;have e0:=Zyz V ⟨z+1,0,none⟩ (.int .i64 0) k1;have e1:=cell_kept e0 (grownBy_putObj' _ D2 (.deferred none)) (fun r e=>by cases e;exact⟨_,hK2',rfl⟩);have e2:=cell_kept e1 (grownBy_putObj' _ D (.deferred none)) (fun r e=>by cases e;exact⟨_,hKD2,rfl⟩);have hc:Chg (fun k=>w.heap.size≤k) V (((V.setCell ⟨z+1,0,none⟩ (.int .i64 0)).putObj D2 (.deferred none)).putObj D (.deferred none)):=
     (((Chg.refl _ V).setCell (p:=⟨z+1,0,none⟩) (.inl (by show w.heap.size≤z+1;omega)) _).putObj (by show w.heap.size≤D2;omega) _).putObj (by show w.heap.size≤D;omega) _
    have lt:=LT.out;refine⟨.int .i64 0,?_,rfl,HG.out.done.chg hc (by omega) ⟨by omega,by omega⟩ ⟨by omega,by omega⟩,((Zy3 X3.out).trans HG.out.1).new hc⟩;simp[results,f385,go_sem,e2]
end
section
def Zj0(B:CB)(s:SW):List Value:=[(B.ab:Value),(B.bb:Value),(B.kb:Value),(B.sr:Value),.int .i64 (s.at_:Int),.bool s.act]
def CB.swP(B:CB)(k:Nat):Prop:=B.a8≤k∧k<B.a9
def CB.inP(B:CB)(k:Nat):Prop:=k=B.gw∨(B.a0≤k∧k<B.a9)
def CB.cyP(B:CB)(k:Nat):Prop:=k=B.gw∨(B.yb≤k∧k<B.a9)
theorem Ye.chgY{P:Nat→Prop}{w w':World}{B:CB}{c:Zh}{t n:Nat}{gens:Int}{ws:List Int}{l:List Ent}{ms:List Int}{m:MK}(h:Ye w B c t n gens ws l ms m)(hx:Chg P w w')(hP:∀k,k≠B.yb→k<B.a8→¬P k):Ye w' B c t n gens ws l ms m:=by
 obtain⟨o1,o2,o3,o4,o5,o6,o7,o8,o9,o10⟩:=h.ord;have q:∀k,k≠B.yb∧k<B.a8→¬P k:=fun k hk=>hP k hk.1 hk.2
 exact⟨h.ord,h.body.chgB hx (q _ (by omega)) ⟨q _ (by omega),q _ (by omega),q _ (by omega)⟩ ⟨q _ (by omega),q _ (by omega)⟩ (q _ (by omega)),h.tab.chg hx (q _ (by omega)) (q _ (by omega)),
  h.pin.chgP hx (q _ (by omega)) ⟨q _ (by omega),q _ (by omega)⟩ (q _ (by omega)),h.pl,h.box.chg hx (q _ (by omega)),h.hands.chg h.hl.1 hx (q _ (by omega)),h.hl,h.tint.chg hx (q _ (by omega)) (q _ (by omega)),
  h.grey.chgG hx (q _ (by omega)) ⟨q _ (by omega),q _ (by omega)⟩ ⟨q _ (by omega),q _ (by omega)⟩ ⟨q _ (by omega),q _ (by omega)⟩ (q _ (by omega)),h.dbr.chgT hx (q _ (by omega)),h.ok,h.st,Zy6 h.top hx.size⟩
structure Vl(w:World)(B:CB)(c:Zh)(t n:Nat)(gens:Int)(y:CY):Prop where
 k:Ye w B c t n gens y.ws y.l y.ms y.m
 ar:X7 w B.ab B.pb B.gp B.ar B.ag c t y.bs
 box:Zn w B.sb (Zj0 B y.s)
 row:Z1 w B.sr B.sg y.s.d
 o9:(B.a8≤B.sb∧B.sb<B.a9)∧(B.a8≤B.sr∧B.sr<B.a9)∧(B.a8≤B.sg∧B.sg<B.a9)∧B.sr≠B.sb∧B.sg≠B.sb
 dl:y.s.d.length=nS c t
 sl:y.s.at_≤nS c t
 top:B.a9≤w.heap.size
variable{w w':World}{B:CB}{c:Zh}{t n:Nat}{gens wk:Int}{y:CY}
theorem Vl.pos(h:Vl w B c t n gens y):1≤nS c t∧nS c t≤65536:=by
 have:=h.k.ko.nS_pos h.k.ti;have:=h.row.most;have:=h.dl;omega
theorem Y9.chgA{P:Nat→Prop}{b pb gp rb rg:Nat}{bs:List Bool}{u:Int}(h:Y9 w b pb gp rb rg c t bs u)(hx:Chg P w w')(hb:¬P b∧¬P rb∧¬P rg)(hp:¬P pb∧¬P gp):Y9 w' b pb gp rb rg c t bs u:=h.chg hx hb.1 hp hb.2
theorem Vl.chg{P:Nat→Prop}(h:Vl w B c t n gens y)(hx:Chg P w w')(hP:∀k,k≠B.yb→k<B.a9→¬P k):Vl w' B c t n gens y:=by
 obtain⟨o1,o2,o3,o4,o5,o6,o7,o8,o9,o10⟩:=h.k.ord;have p:=h.o9;have q:∀k,k≠B.yb∧k<B.a9→¬P k:=fun k hk=>hP k hk.1 hk.2
 exact⟨h.k.chgY hx (fun k h1 h2=>hP k h1 (by omega)),h.ar.chgA hx ⟨q _ (by omega),q _ (by omega),q _ (by omega)⟩ ⟨q _ (by omega),q _ (by omega)⟩,h.box.chg hx (q _ (by omega)),h.row.chg hx (q _ (by omega)) fun _=>q _ (by omega),h.o9,h.dl,h.sl,Zy6 h.top hx.size⟩
theorem Vl.ext(h:Vl w B c t n gens y)(hx:Ext w w'):Vl w' B c t n gens y:=h.chg (P:=fun _=>False) (Zy3 hx) (fun _ _ _ a=>a)
theorem Vl.swTo{P:Nat→Prop}{s':SW}(h:Vl w B c t n gens y)(hx:Chg P w w')(hP:∀k,P k→B.swP k)(hb:Zn w' B.sb (Zj0 B s'))(hr:Z1 w' B.sr B.sg s'.d)(dl:s'.d.length=nS c t)(sl:s'.at_≤nS c t):Vl w' B c t n gens { y with s:=s' }∧Chg B.inP w w':=by
 obtain⟨o1,o2,o3,o4,o5,o6,o7,o8,o9,o10⟩:=h.k.ord;have hQ:∀k,k<B.a8→¬P k:=fun k hk q=>by have:=hP k q;unfold CB.swP at this;omega
 exact⟨⟨h.k.chg hx hQ,h.ar.chgA hx ⟨hQ _ (by omega),hQ _ (by omega),hQ _ (by omega)⟩ ⟨hQ _ (by omega),hQ _ (by omega)⟩,hb,hr,h.o9,dl,sl,Zy6 h.top hx.size⟩,
  hx.mono fun k q=>.inr (by have:=hP k q;unfold CB.swP at this;omega)⟩
theorem Vl.mkTo{m':MK}(h:Vl w B c t n gens y)(hm:Ye w' B c t n gens y.ws y.l y.ms m')(hx:Chg B.mkP w w'):Vl w' B c t n gens { y with m:=m' }∧Chg B.inP w w':=by
 obtain⟨o1,o2,o3,o4,o5,o6,o7,o8,o9,o10⟩:=h.k.ord;have p:=h.o9;have hQ:∀k,(k<B.a5∨B.a8≤k)→¬B.mkP k:=fun k hk q=>by unfold CB.mkP at q;omega
 exact⟨⟨hm,h.ar.chgA hx ⟨hQ _ (by omega),hQ _ (by omega),hQ _ (by omega)⟩ ⟨hQ _ (by omega),hQ _ (by omega)⟩,h.box.chg hx (hQ _ (by omega)),h.row.chg hx (hQ _ (by omega)) fun _=>hQ _ (by omega),h.o9,h.dl,h.sl,Zy6 h.top hx.size⟩,
  hx.mono fun k q=>.inr (by unfold CB.mkP at q;omega)⟩
theorem Vl.arTo{bs':List Bool}(h:Vl w B c t n gens y)(ha:X7 w' B.ab B.pb B.gp B.ar B.ag c t bs')(hx:Chg (arB B.ab B.ag) w w'):Vl w' B c t n gens { y with bs:=bs' }∧Chg B.inP w w':=by
 obtain⟨o1,o2,o3,o4,o5,o6,o7,o8,o9,o10⟩:=h.k.ord;have p:=h.o9;have hQ:∀k,(k<B.a2∨B.a3≤k)→¬arB B.ab B.ag k:=fun k hk q=>by unfold arB at q;omega
 have mk:=h.k;refine⟨⟨⟨mk.ord,mk.body.chgB hx (hQ _ (by omega)) ⟨hQ _ (by omega),hQ _ (by omega),hQ _ (by omega)⟩ ⟨hQ _ (by omega),hQ _ (by omega)⟩ (hQ _ (by omega)),mk.tab.chg hx (hQ _ (by omega)) (hQ _ (by omega)),
  mk.pin.chgP hx (hQ _ (by omega)) ⟨hQ _ (by omega),hQ _ (by omega)⟩ (hQ _ (by omega)),mk.pl,mk.box.chg hx (hQ _ (by omega)),mk.hands.chg mk.hl.1 hx (hQ _ (by omega)),mk.hl,mk.tint.chg hx (hQ _ (by omega)) (hQ _ (by omega)),
  mk.grey.chgG hx (hQ _ (by omega)) ⟨hQ _ (by omega),hQ _ (by omega)⟩ ⟨hQ _ (by omega),hQ _ (by omega)⟩ ⟨hQ _ (by omega),hQ _ (by omega)⟩ (hQ _ (by omega)),mk.dbr.chgT hx (hQ _ (by omega)),mk.ok,mk.st,Zy6 mk.top hx.size⟩,
  ha,h.box.chg hx (hQ _ (by omega)),h.row.chg hx (hQ _ (by omega)) fun _=>hQ _ (by omega),h.o9,h.dl,h.sl,Zy6 h.top hx.size⟩,hx.mono fun k q=>.inr (by unfold arB at q;omega)⟩
theorem Vl.wsTo{ws':List Int}(h:Vl w B c t n gens y)(hb:Zy w' B.bb B.mb B.gw B.gm B.pb B.gp c t ws')(hx:Chg (isB B.gw) w w'):Vl w' B c t n gens { y with ws:=ws' }∧Chg B.inP w w':=by
 obtain⟨o1,o2,o3,o4,o5,o6,o7,o8,o9,o10⟩:=h.k.ord;have p:=h.o9;have hQ:∀k,k≠B.gw→¬isB B.gw k:=fun k hk q=>hk q
 have mk:=h.k;refine⟨⟨⟨mk.ord,hb,mk.tab.chg hx (hQ _ (by omega)) (hQ _ (by omega)),
  mk.pin.chgP hx (hQ _ (by omega)) ⟨hQ _ (by omega),hQ _ (by omega)⟩ (hQ _ (by omega)),mk.pl,mk.box.chg hx (hQ _ (by omega)),mk.hands.chg mk.hl.1 hx (hQ _ (by omega)),mk.hl,mk.tint.chg hx (hQ _ (by omega)) (hQ _ (by omega)),
  mk.grey.chgG hx (hQ _ (by omega)) ⟨hQ _ (by omega),hQ _ (by omega)⟩ ⟨hQ _ (by omega),hQ _ (by omega)⟩ ⟨hQ _ (by omega),hQ _ (by omega)⟩ (hQ _ (by omega)),mk.dbr.chgT hx (hQ _ (by omega)),mk.ok,mk.st,Zy6 mk.top hx.size⟩,
  h.ar.chgA hx ⟨hQ _ (by omega),hQ _ (by omega),hQ _ (by omega)⟩ ⟨hQ _ (by omega),hQ _ (by omega)⟩,h.box.chg hx (hQ _ (by omega)),h.row.chg hx (hQ _ (by omega)) fun _=>hQ _ (by omega),h.o9,h.dl,h.sl,Zy6 h.top hx.size⟩,hx.mono fun k q=>.inl q⟩
theorem Vl.tabTo{l':List Ent}(h:Vl w B c t n gens y)(ht:Si w' B.tb B.tg B.tcap gens l')(hx:Chg (taB B.tb B.tg) w w')(hl:l'.length=y.l.length):Vl w' B c t n gens { y with l:=l' }∧Chg B.inP w w':=by
 obtain⟨o1,o2,o3,o4,o5,o6,o7,o8,o9,o10⟩:=h.k.ord;have p:=h.o9;have hQ:∀k,(k<B.a3∨B.a4≤k)→¬taB B.tb B.tg k:=fun k hk q=>by unfold taB at q;omega
 have mk:=h.k;have rt:y.m.root≤Xy c t l':=by have:=mk.ok.rt;unfold Xy at this ⊢;omega
 refine⟨⟨⟨mk.ord,mk.body.chgB hx (hQ _ (by omega)) ⟨hQ _ (by omega),hQ _ (by omega),hQ _ (by omega)⟩ ⟨hQ _ (by omega),hQ _ (by omega)⟩ (hQ _ (by omega)),ht,
  mk.pin.chgP hx (hQ _ (by omega)) ⟨hQ _ (by omega),hQ _ (by omega)⟩ (hQ _ (by omega)),mk.pl,mk.box.chg hx (hQ _ (by omega)),mk.hands.chg mk.hl.1 hx (hQ _ (by omega)),mk.hl,mk.tint.chg hx (hQ _ (by omega)) (hQ _ (by omega)),
  mk.grey.chgG hx (hQ _ (by omega)) ⟨hQ _ (by omega),hQ _ (by omega)⟩ ⟨hQ _ (by omega),hQ _ (by omega)⟩ ⟨hQ _ (by omega),hQ _ (by omega)⟩ (hQ _ (by omega)),mk.dbr.chgT hx (hQ _ (by omega)),⟨mk.ok.cl,mk.ok.g,mk.ok.d,mk.ok.hd,rt⟩,mk.st,Zy6 mk.top hx.size⟩,
  h.ar.chgA hx ⟨hQ _ (by omega),hQ _ (by omega),hQ _ (by omega)⟩ ⟨hQ _ (by omega),hQ _ (by omega)⟩,h.box.chg hx (hQ _ (by omega)),h.row.chg hx (hQ _ (by omega)) fun _=>hQ _ (by omega),h.o9,h.dl,h.sl,Zy6 h.top hx.size⟩,hx.mono fun k q=>.inr (by unfold taB at q;omega)⟩
theorem Vl.pinTo{P:Nat→Prop}{ms':List Int}(h:Vl w B c t n gens y)(hp:Xw w' B.nb B.nr B.nrg B.ng ms')(hx:Chg P w w')(hP:∀k,P k→k=B.nrg∨k=B.ng)(hl:ms'.length=y.ms.length):Vl w' B c t n gens { y with ms:=ms' }∧Chg B.inP w w':=by
 obtain⟨o1,o2,o3,o4,o5,o6,o7,o8,o9,o10⟩:=h.k.ord;have p:=h.o9;have hQ:∀k,(k<B.a4∨B.a5≤k)→¬P k:=fun k hk q=>by have:=hP k q;omega
 have mk:=h.k;refine⟨⟨⟨mk.ord,mk.body.chgB hx (hQ _ (by omega)) ⟨hQ _ (by omega),hQ _ (by omega),hQ _ (by omega)⟩ ⟨hQ _ (by omega),hQ _ (by omega)⟩ (hQ _ (by omega)),mk.tab.chg hx (hQ _ (by omega)) (hQ _ (by omega)),
  hp,by (try simp only);rw[hl];exact mk.pl,mk.box.chg hx (hQ _ (by omega)),mk.hands.chg mk.hl.1 hx (hQ _ (by omega)),mk.hl,mk.tint.chg hx (hQ _ (by omega)) (hQ _ (by omega)),
  mk.grey.chgG hx (hQ _ (by omega)) ⟨hQ _ (by omega),hQ _ (by omega)⟩ ⟨hQ _ (by omega),hQ _ (by omega)⟩ ⟨hQ _ (by omega),hQ _ (by omega)⟩ (hQ _ (by omega)),mk.dbr.chgT hx (hQ _ (by omega)),mk.ok,mk.st,Zy6 mk.top hx.size⟩,
  h.ar.chgA hx ⟨hQ _ (by omega),hQ _ (by omega),hQ _ (by omega)⟩ ⟨hQ _ (by omega),hQ _ (by omega)⟩,h.box.chg hx (hQ _ (by omega)),h.row.chg hx (hQ _ (by omega)) fun _=>hQ _ (by omega),h.o9,h.dl,h.sl,Zy6 h.top hx.size⟩,hx.mono fun k q=>.inr (by have:=hP k q;omega)⟩
theorem Of(h:Vl w B c t n gens y):Calls prog 303 #[B.sb] w fun e w'=>e=.returned (.bool false)∧w=w':=by
 have c3:=h.box.c 3 _ rfl;clear h;go_enter func303,ntmps303;go_wp2;go_ret;exact⟨rfl,rfl⟩
theorem Pn{a:Bool}(h:Vl w B c t n gens y)(ha:y.s.act=a):Calls prog 268 #[B.sb] w fun e w'=>e=.returned (.bool a)∧w=w':=by
 have c5:w.cell? ⟨B.sb,5,none⟩=some (.bool a):=by rw[←ha];exact h.box.c 5 _ rfl
 have H:=Za h;clear h ha;go_enter func268,ntmps268;go_wp2_with fail;refine(Of H.out).zz ?_;go_wp2;go_ret;exact⟨rfl,rfl⟩
theorem Rl{r:Bool}(h:Vl w B c t n gens y)(hr:Qn y.s=r):Calls prog 264 #[B.sb] w fun e w'=>e=.returned (.bool r)∧Ext w w':=by
 have c4:=h.box.c 4 _ rfl;have c3:=h.box.c 3 _ rfl;obtain⟨N,hN⟩:=Zb (y.s.d.length);obtain⟨k,hk⟩:=Zb (y.s.at_);obtain⟨a,ha⟩:=Zb (y.s.act);have AC:=Za (fun W (x:Ext w W)=>Pn (h.ext x) ha);have LN:=Za (fun W (x:Ext w W)=>(Cf y.s.d (h.row.ext x)).mono (R':=fun e w'=>e=.returned (.int .i64 (N:Int))∧W=w') fun e w' q=>by rw[←hN];exact q);unfold Qn at hr;rw[hN,hk,ha] at hr;rw[hk] at c4;have H:=Za h;have k4:=fun d os=>cell_regrown c4 d os;have k3:=fun d os=>cell_regrown c3 d os
 clear h hN hk ha;cases a
 ·simp at hr;subst hr;go_enter func264,ntmps264;go_wp2_with fail;refine wp_region_quiet_below (by kernel_rfl) (by kernel_rfl) ?_
  repeat (any_goals (first|go_big_quiet_step (first|(go_at_call 268;with_reducible exact Vp (AC.out _ (Zk _ _ _))))|quiet_step (first|(go_at_call 268;with_reducible exact Vp (AC.out _ (Zk _ _ _))))))
  refine Zc fun WQ xq=>?_;go_wp2;go_ret;exact⟨rfl,xq⟩
 ·by_cases e:k=N
  ·subst e;simp at hr;subst hr;go_enter func264,ntmps264;go_wp2_with fail;refine wp_region_quiet_below (by kernel_rfl) (by kernel_rfl) ?_
   repeat (any_goals (first|go_big_quiet_step (first|(go_at_call 268;with_reducible exact Vp (AC.out _ (Zk _ _ _)))|(go_at_call 114;with_reducible exact Vp (LN.out _ (Zk _ _ _))))|quiet_step (first|(go_at_call 268;with_reducible exact Vp (AC.out _ (Zk _ _ _)))|(go_at_call 114;with_reducible exact Vp (LN.out _ (Zk _ _ _))))))
   refine Zc fun WQ xq=>?_;go_wp2;go_ret;exact⟨rfl,xq⟩
  ·have te:((k:Int)==(N:Int))=false:=by simp;omega
   have te2:(k==N)=false:=by simp;omega
   simp[e] at hr;subst hr;go_enter func264,ntmps264;go_wp2_with fail;refine wp_region_quiet_below (by kernel_rfl) (by kernel_rfl) ?_
   repeat (any_goals (first|go_big_quiet_step (first|(go_at_call 268;with_reducible exact Vp (AC.out _ (Zk _ _ _)))|(go_at_call 114;with_reducible exact Vp (LN.out _ (Zk _ _ _))))|quiet_step (first|(go_at_call 268;with_reducible exact Vp (AC.out _ (Zk _ _ _)))|(go_at_call 114;with_reducible exact Vp (LN.out _ (Zk _ _ _))))))
   refine Zc fun WQ xq=>?_;go_wp2;go_ret;exact⟨rfl,xq⟩
theorem Wn(w:World)(b k:Nat)(v:Value):Chg (fun j=>j=b) w (w.setCell ⟨b,k,none⟩ v):=Chg.setCell (P:=fun j=>j=b) (p:=⟨b,k,none⟩) (Chg.refl _ w) (.inl rfl) v
theorem Zdy(h:Vl w B c t n gens y):Calls prog 263 #[B.sb] w fun e w'=>(∃k:Int,e=.returned (.int .i64 k))∧Vl w' B c t n gens { y with s:={ y.s with act:=true } }∧Chg B.inP w w':=by
 have c5:=h.box.c 5 _ rfl;have f5:=h.box.f 5;have H:=Za h;have p:=h.o9;have FIN:=Za (h.swTo (s':={ y.s with act:=true }) (Wn w B.sb 5 (.bool true)) (fun k q=>by unfold CB.swP;omega) (h.box.set (i:=5) (by simp[Zj0]) (.bool true)) (h.row.chg (Wn w B.sb 5 (.bool true)) p.2.2.2.1 fun _=>p.2.2.2.2) h.dl h.sl);cases ha:y.s.act
 ·rw[ha] at c5;clear h p ha;go_enter func263,ntmps263;go_wp2_with fail;refine(Of H.out).zz ?_;go_wp2;go_ret;exact⟨⟨_,rfl⟩,FIN.out⟩
 ·have E:Vl w B c t n gens { y with s:={ y.s with act:=true } }:=by rw[←ha];exact h
  have EE:=Za E;rw[ha] at c5;clear h p ha E;go_enter func263,ntmps263;go_wp2_with fail;refine(Of H.out).zz ?_;go_wp2;go_ret;exact⟨⟨_,rfl⟩,EE.out,Chg.refl _ _⟩
theorem Zir(h:Vl w B c t n gens y)(hd:Qn y.s=true):Calls prog 367 #[B.sb] w fun e w'=>(∃k:Int,e=.returned (.tuple #[.int .i64 k,(0:Int)]))∧Vl w' B c t n gens { y with bs:=(Wz y.bs y.s.d).1,s:=⟨List.replicate y.s.d.length false,0,false⟩ }∧Chg B.inP w w':=by
 have H:=Za h;have p:=h.o9;have DN:=Za (Rl h hd);obtain⟨bs',q,hg⟩:∃bs' q,Wz y.bs y.s.d=(bs',q):=⟨_,_,rfl⟩;have HG:=Za hg;obtain⟨K,hK⟩:=Zb (Dz y.s.d y.s.d.length);have CT:=Za (fun W (x:Ext w W)=>Zam y.s.d K (h.row.ext x) hK);have o:=h.k.ord;have GA:=Za (fun W (x:Ext w W)=>(Bb ((h.ext x).ar) ((h.ext x).k.dbr) ((h.ext x).row) (by have:=o.a;have:=o.t;have:=o.n;have:=o.k;have:=o.c;have:=o.h;omega) (by rw[h.dl,h.ar.len]) hg).mono
  (R':=fun e W'=>e=.returned (.int .i64 q)∧Vl W' B c t n gens { y with bs:=bs' }∧Chg B.inP W W') fun e W' r=>⟨r.1,(h.ext x).arTo r.2.1 r.2.2⟩)
 rw[hg];have dl:=h.dl;clear h o hg hK hd;go_enter func367,ntmps367;go_wp2_with fail;refine(Of H.out).zz ?_;go_wp2_with fail;refine DN.out.ze fun w1 x1=>?_;have b1:=(H.out.ext x1).box;have c3:=b1.c 3 _ rfl;go_wp2_with fail;refine(CT.out _ x1).zz ?_;go_wp2_with fail;have c0:=b1.c 0 _ rfl;have X1:=Za x1;clear x1 b1
 go_region_with ((go_at_call 385;refine(GA.out _ X1.out.drew).mono ?_;rintro e w2 ⟨rfl,i2,x2⟩))
 all_goals
  have c3:=i2.box.c 3 _ rfl;have I2:=Za i2;have X2:=Za ((Zy3 X1.out.drew).trans x2);clear i2 x2;go_wp2_with fail;refine(In y.s.d I2.out.row).mono ?_;rintro e w3 ⟨⟨v,rfl⟩,r3,x3⟩;have nb:¬tch B.sg y.s.d B.sb:=fun q=>p.2.2.2.2 q.2.symm
  have nr:¬tch B.sg y.s.d B.sr:=fun q=>(I2.out.row.apart q.1) q.2.symm
  have b3:Zn w3 B.sb (Zj0 B y.s):=I2.out.box.chg x3 nb;obtain⟨i3,y3⟩:=I2.out.swTo (s':={ y.s with d:=List.replicate y.s.d.length false }) x3 (fun k q=>by unfold CB.swP;have:=q.2;omega) b3 r3 (by (try simp only);rw[Zza];exact dl) I2.out.sl;have f4:=b3.f 4;have f5:=b3.f 5;have c4:=b3.c 4 _ rfl;have c5:=b3.c 5 _ rfl;have cx:=(Wn w3 B.sb 5 (.bool false)).trans (Wn _ B.sb 4 (.int .i64 0));have FIN:=Za (i3.swTo (s':=⟨List.replicate y.s.d.length false,0,false⟩) cx (fun k q=>by unfold CB.swP;have q1:k=B.sb:=q;omega) ((b3.set (i:=5) (by show 5<6;decide) (.bool false)).set (i:=4) (by show 4<6;decide) (.int .i64 0)) (r3.chg cx p.2.2.2.1 fun _=>p.2.2.2.2) (by (try simp only);rw[Zza];exact dl) (Nat.zero_le _));have Y3:=Za y3;clear i3 y3 r3 x3 b3 cx nb nr;go_wp2;go_ret2;exact⟨⟨_,rfl⟩,FIN.out.1,(X2.out.trans Y3.out).trans FIN.out.2⟩
end
section
variable{w w':World}{B:CB}{c:Zh}{t n:Nat}{gens:Int}{ws:List Int}{l:List Ent}{ms:List Int}{m m':MK}
theorem hd0{W V:World}{u:TypeId}(x:Ext (W.alloc (.cells #[(0:Int),(0:Int),(0:Int)] u)) V):(V.cell? W.heap.size=some (.int .i64 0)∧V.cell? ⟨W.heap.size,1,none⟩=some (.int .i64 0)∧V.cell? ⟨W.heap.size,2,none⟩=some (.int .i64 0))∧V.frozen? W.heap.size=false∧V.frozen? ⟨W.heap.size,1,none⟩=false∧V.frozen? ⟨W.heap.size,2,none⟩=false:=by
 have b:Zn V W.heap.size [(0:Int),(0:Int),(0:Int)]:=(Zn.new W [(0:Int),(0:Int),(0:Int)] u rfl).ext x;exact⟨⟨b.c 0 _ rfl,b.c 1 _ rfl,b.c 2 _ rfl⟩,b.f 0,b.f 1,b.f 2⟩
theorem Lx{V:World}{cb cg hd k S fl:Nat}{col:List Nat}(h:Uy V cb cg fl col)(nh:¬tiB cb cg hd){x0 x1:Value}(v0:V.cell? ⟨hd,k*3,none⟩=some x0)(v1:V.cell? ⟨hd,k*3+1,none⟩=some x1){x2:Value}(v2:V.cell? ⟨hd,k*3+2,none⟩=some x2)(vf:∀o,V.frozen? ⟨hd,o,none⟩=false) :
  ∀W,Ext V W→Calls prog 340 #[cb,.int .i64 S] W fun e w'=>∃k':Int,e=.returned (.int .i64 k')∧Hid (Uy w' cb cg fl (if 0≤(S:Int)∧(S:Int)<(col.length:Int) then col.set (S:Int).toNat 2 else col)∧Chg (tiB cb cg) V w') ∧
   w'.cell? ⟨hd,k*3,none⟩=some x0∧w'.cell? ⟨hd,k*3+1,none⟩=some x1∧w'.cell? ⟨hd,k*3+2,none⟩=some x2∧w'.frozen? ⟨hd,k*3,none⟩=false∧w'.frozen? ⟨hd,k*3+1,none⟩=false∧w'.frozen? ⟨hd,k*3+2,none⟩=false:=by
 intro W x;obtain⟨xs,hxs⟩:=h;refine(Kk (s:=(S:Int)) (hxs.ext x)).mono ?_;rintro e w' ⟨k',a,b,d⟩;have hx:Chg (tiB cb cg) V w':=(Zy3 x).trans d;have fr:∀o,w'.frozen? ⟨hd,o,none⟩=false:=fun o=>by rw[hx.frozen (p:=⟨hd,o,none⟩) (show hd<V.heap.size from Zj v0) nh];exact vf o
 exact⟨k',a,Za ⟨b,hx⟩,hx.cell nh v0,hx.cell nh v1,hx.cell nh v2,fr _,fr _,fr _⟩
theorem Zvt{g a b:Nat}(h:a≠b):(⟨g,a,none⟩:Addr)≠⟨g,b,none⟩:=fun e=>h (by injection e)
theorem Ye.scanOn{k S f:Nat}(h:Ye w B c t n gens ws l ms m)(hk:k<m.hs.length)(e1:(Zq m.hs k).slot=(S:Int))(hi:(Zq m.hs k).is=true)(hS:S<nS c t)(hf:f+2≤szN c t S) :
  Ye (w.setCell ⟨B.hd,k*3+1,none⟩ (.int .i64 ((f:Int)+1))) B c t n gens ws l ms { m with hs:=m.hs.set k ⟨(Zq m.hs k).slot,(f:Int)+1,true⟩ }∧Chg B.mkP w (w.setCell ⟨B.hd,k*3+1,none⟩ (.int .i64 ((f:Int)+1))):=by
 have hh:=h.hands.setFld hk ((f:Int)+1);rw[hi] at hh;refine h.handsTo hh (Nh w B.hd (k*3+1) _) (by simp) (fun j=>?_);rw[Rg hk];split
 ·exact fun _=>⟨S,f+1,e1,rfl,hS,by omega⟩
 ·exact h.ok.hd j
theorem Ye.scanEnd{k S:Nat}{v:Int}{W5:World}(h:Ye w B c t n gens ws l ms m)(hk:k<m.hs.length)(hS:S<nS c t)
  (ht:Uy W5 B.cb B.cg m.fl (if 0≤(S:Int)∧(S:Int)<(m.col.length:Int) then m.col.set (S:Int).toNat 2 else m.col)) (hx:Chg (tiB B.cb B.cg) (w.setCell ⟨B.hd,k*3+1,none⟩ (.int .i64 v)) W5) :
  Ye (((W5.setCell ⟨B.hd,k*3,none⟩ (.int .i64 0)).setCell ⟨B.hd,k*3+1,none⟩ (.int .i64 0)).setCell ⟨B.hd,k*3+2,none⟩ (.bool false)) B c t n gens ws l ms { Yf c t m (S:Int) with hs:=m.hs.set k Tk } ∧
  Chg B.mkP w (((W5.setCell ⟨B.hd,k*3,none⟩ (.int .i64 0)).setCell ⟨B.hd,k*3+1,none⟩ (.int .i64 0)).setCell ⟨B.hd,k*3+2,none⟩ (.bool false)):=by
 obtain⟨o1,o2,o3,o4,o5,o6,o7,o8,o9,o10⟩:=h.ord;have hq:¬tiB B.cb B.cg B.hd:=fun q=>by unfold tiB at q;omega
 have h4:=h.hands.setFld hk v;have h5:=h4.chg (by rw[List.length_set];exact h.hl.1) hx hq;have h6:=h5.set (by simpa using hk) Tk;rw[List.set_set] at h6;have x4:Chg (fun j=>j=B.hd∨tiB B.cb B.cg j) w W5:=((Nh w B.hd (k*3+1) _).mono fun j q=>.inl q).trans (hx.mono fun j q=>.inr q);have x6:Chg (fun j=>j=B.hd∨tiB B.cb B.cg j) w (((W5.setCell ⟨B.hd,k*3,none⟩ (.int .i64 0)).setCell ⟨B.hd,k*3+1,none⟩ (.int .i64 0)).setCell ⟨B.hd,k*3+2,none⟩ (.bool false)):=
  x4.trans ((((Nh W5 B.hd (k*3) _).trans (Nh _ B.hd (k*3+1) _)).trans (Nh _ B.hd (k*3+2) _)).mono fun j q=>.inl q)
 have x56:=((Nh W5 B.hd (k*3) (.int .i64 0)).trans (Nh _ B.hd (k*3+1) (.int .i64 0))).trans (Nh _ B.hd (k*3+2) (.bool false));have hP:∀j,(j=B.hd∨tiB B.cb B.cg j)→B.mkP j:=fun j q=>by unfold tiB at q;unfold CB.mkP;omega
 have hQ:∀j,(j<B.a6∨B.kb≤j)→¬(j=B.hd∨tiB B.cb B.cg j):=fun j hj q=>by unfold tiB at q;omega
 have ol:=h.ok.cl;have bo:=(Mh h.ok (S:Int)).1;have be:=T8 (c:=c) (t:=t) m (S:Int);have bs:(Yf c t m (S:Int)).steps=m.steps:=by unfold Yf;split<;>rfl
 have ec:(if 0≤(S:Int)∧(S:Int)<(m.col.length:Int) then m.col.set (S:Int).toNat 2 else m.col)=(Yf c t m (S:Int)).col:=by unfold Yf;rw[ol];split<;>rfl
 rw[ec] at ht;refine⟨h.turn (m':={ Yf c t m (S:Int) with hs:=m.hs.set k Tk }) x6 hP ?_ h6 (by simp) ?_ ?_ ?_ ?_,x6.mono hP⟩
 ·have:=h.box.chg x6 (hQ _ (by omega));unfold mcs at this ⊢;simp only[List.length_set,be.2.1,be.2.2.1,bs];exact this
 ·simp only[be.2.2.2.2];exact ht.chg x56 (by omega) (by omega)
 ·simp only[be.2.2.2.1];exact h.grey.chgG x6 (hQ _ (by omega)) ⟨hQ _ (by omega),hQ _ (by omega)⟩ ⟨hQ _ (by omega),hQ _ (by omega)⟩ ⟨hQ _ (by omega),hQ _ (by omega)⟩ (hQ _ (by omega))
 ·exact bo.hand be.1 hk Zlm
 ·simp only[bs];exact h.st
theorem Zmv{k:Nat}(h:Ye w B c t n gens ws l ms m)(hk:k<m.hs.length)(hi:(Zq m.hs k).is=true):Calls prog 308 #[B.kb,.pointer (some ⟨B.hd,k*3,none⟩)] w fun e w'=>e=.returned (.bool true)∧Ye w' B c t n gens ws l ms (St c t n ws m k)∧Chg B.mkP w w':=by
 have H:=Za h;have HK:=Za hk;have c0:w.cell? B.kb=some (B.bb:Value):=h.box.c 0 _ rfl;have c4:w.cell? ⟨B.kb,4,none⟩=some (B.cb:Value):=h.box.c 4 _ rfl;have s0:=h.hands.slot k hk;have s1:=h.hands.fld k hk;obtain⟨S,f,e1,e2,h3,h4⟩:=h.ok.hd k hi;rw[e1] at s0;rw[e2] at s1;obtain⟨hd,q,hh⟩:∃hd q,Zz c t ws (S:Int)=(hd,q):=⟨_,_,rfl⟩;obtain⟨A,hA⟩:=Zb (w.alloc (.cells #[(0:Int),(0:Int),(0:Int)] 78));obtain⟨zb,hzb⟩:∃z,w.heap.size=z:=⟨_,rfl⟩;have xA:Ext w A:=by rw[←hA];exact(Zy2 _).alloc _
 have bA:Zn A zb [(0:Int),(0:Int),(0:Int)]:=by rw[←hA];exact Zn.new w _ _ hzb
 have c0A:=xA.cell c0;have s0A:=xA.cell s0;obtain⟨p0,p1,p2⟩:=bA.k3;obtain⟨q0,q1,q2⟩:=bA.g3;have HD1:=Za (Xf (h.body.ext (Zy2 w).drew) hh);have HD2:Hid (Calls prog 115 #[B.bb,(S:Int)] A.drew fun e w'=>e=.returned (.tuple #[.agg #[hd.c,hd.r,hd.w],.int .i64 q])∧Ext w w'∧Zn w' zb [(0:Int),(0:Int),(0:Int)]):=
  Za ((Xf (h.body.ext xA.drew) hh).mono fun e w' ⟨p,x⟩=>⟨p,xA.drew.trans x,bA.ext ((Zy2 _).drew.trans x)⟩)
 obtain⟨tx,e3,hr⟩:∃a b,U2 c t ws (S:Int) (f:Int)=(a,b):=⟨_,_,rfl⟩;have HR:=Za hr;have HH:=Za hh;have E1:=Za e1;have E2:=Za e2;have E4:=Za h4;have E3:=Za h3;have HI:=Za hi;have f64:f<64:=by have:=(Me h.ko h.ti h3).2.2;omega
 clear h hk hi h4 h3 hh hr e1 e2 xA bA;go_enter func308,ntmps308;go_wp2_with fail
 go_cut [5,6] from 7 to 75 (fun s5 s6 wx=>s6=.int .i64 q∧∃z,s5=.pointer (some ⟨z,0,none⟩)∧Hid (Ext w wx∧Zn wx z [hd.c,hd.r,hd.w]∧w.heap.size≤z))
 case first=>
  go_region_with (go_at_call 115;first|(with_reducible refine HD1.out.ze fun w1 x1=>?_;replace x1:=(Zy2 w).drew.trans x1)|(with_reducible refine HD2.out.mono ?_;rintro e w1 ⟨rfl,x1,bx⟩;obtain⟨d0,d1,d2⟩:=bx.k3;obtain⟨g0,g1,g2⟩:=bx.g3))
  all_goals
   go_wp2
   go_meet
   first
    | exact⟨rfl,_,rfl,Za ⟨x1.alloc _,Zn.new w1 _ _ rfl,x1.size⟩⟩
    | exact⟨rfl,_,rfl,Za ⟨((x1.setCell (p:=⟨zb,0,none⟩) (by show w.heap.size≤zb;omega) _).setCell (p:=⟨zb,1,none⟩) (by show w.heap.size≤zb;omega) _).setCell (p:=⟨zb,2,none⟩) (by show w.heap.size≤zb;omega) _,bx.set3 _ _ _,by omega⟩⟩
 case rest=>
  obtain⟨rfl,z,rfl,HC⟩:=hcut;have HW:=Za (H.out.ext HC.out.1);have hz1:=HC.out.2.2;clear hA hzb c0A s0A p0 p1 p2 q0 q1 q2 HD1 HD2;have c0:=HC.out.1.cell c0;have s0:=HC.out.1.cell s0;have s1:=HC.out.1.cell s1;have RF:=Za (fun W (x:Ext wc W)=>Jp (HW.out.body.ext x) HR.out);have k0:=fun d os=>cell_regrown c0 d os;have k1:=fun d os=>cell_regrown s0 d os;have k2:=fun d os=>cell_regrown s1 d os
  go_wp2_with fail;refine wp_region_quiet_below (by kernel_rfl) (by kernel_rfl) ?_
  repeat (any_goals (first|go_big_quiet_step ((go_at_call 117;with_reducible exact reg (RF.out _ (Zk _ _ _))))|quiet_step ((go_at_call 117;with_reducible exact reg (RF.out _ (Zk _ _ _))))))
  refine Zc fun WQ xq=>?_;have HQ:=Za (HW.out.ext xq);have ZQ:=Za (HC.out.2.1.ext xq);have XQ:=Za (HC.out.1.trans xq);clear k0 k1 k2 s0 s1 c0 RF;have MKZ:Hid (¬B.mkP z):=Za (fun q=>by unfold CB.mkP at q;have:=H.out.top;omega);obtain⟨m1,hm1⟩:=Zb (Xx c t n ws m (Zq m.hs k));have HM1:=Za hm1;have ml:=Pg (c:=c) (t:=t) (n:=n) (ws:=ws) m (Zq m.hs k);rw[hm1] at ml;have ML:=Za ml;have HR':=HR.out;rw[←E1.out,←E2.out] at HR';unfold Xx at hm1;rw[HR'] at hm1;simp only at hm1;have NX:(e3=0∧0≤tx→Calls prog 339 #[B.kb,.int .i64 tx] WQ fun e w'=>e=.returned (.tuple #[])∧Ye w' B c t n gens ws l ms m1∧Chg B.mkP WQ w')∧(¬(e3=0∧0≤tx)→Ye WQ B c t n gens ws l ms m1):=by
   refine⟨fun e=>?_,fun e=>?_⟩
   ·rw[if_pos e] at hm1;rw[←hm1];exact Lw HQ.out
   ·rw[if_neg e] at hm1;rw[←hm1];exact HQ.out
  have NX:=Za NX;clear hm1 HR' ml;have hS:(e3=0∧0≤tx)∨(e3≠0)∨(e3=0∧tx<0):=by omega
  rcases hS with ⟨rfl,hS⟩|hS|⟨rfl,hS⟩
  ·go_wp2_with fail;refine(NX.out.1 (by simpa using hS)).mono ?_;rintro e w5 ⟨rfl,h5,x5⟩;have HX:=Za h5;have CX:=Za ((Zy3 XQ.out).trans x5);have ZX:=Za (ZQ.out.chg x5 MKZ.out);clear h5 x5 HQ ZQ XQ NX hS;have q1:w5.cell? ⟨B.hd,k*3+1,none⟩=some (.int .i64 (f:Int)):=by
    have:=HX.out.hands.fld k (by rw[ML.out.1];exact HK.out);rw[ML.out.1,E2.out] at this;exact this
   have q2:=HX.out.hands.fz (k*3+1);go_wp2_with fail;have HKL:=Za (show k<m1.hs.length by rw[ML.out.1];exact HK.out);obtain⟨V,hV⟩:=Zb (w5.setCell ⟨B.hd,k*3+1,none⟩ (.int .i64 ((f:Int)+1)));have zV:Zn V z [hd.c,hd.r,hd.w]:=by rw[←hV];exact ZX.out.far (by intro e;exact MKZ.out (by unfold CB.mkP;have:=H.out.ord.h;have:=H.out.ord.k;have:=H.out.ord.c;have e':B.hd=z:=e;omega)) _
   have v1:V.cell? ⟨B.hd,k*3+1,none⟩=some (.int .i64 ((f:Int)+1)):=by rw[←hV];exact Zyz _ _ _ q1
   have v0:V.cell? ⟨B.hd,k*3,none⟩=some (.int .i64 (S:Int)):=by
    rw[←hV,Zy0 _ _ _ _ (Zvt (by omega))];have:=HX.out.hands.slot k HKL.out;rw[ML.out.1,E1.out] at this;exact this
   have vb:V.cell? ⟨B.kb,4,none⟩=some (B.cb:Value):=by
    rw[←hV,cell_far _ _ _ _ (by show B.hd≠B.kb;have:=H.out.ord.h;omega)];exact HX.out.box.c 4 _ rfl
   have vz:=zV.c 1 _ rfl;have VF:Hid (∀o,V.frozen? ⟨B.hd,o,none⟩=false):=Za (fun o=>by rw[←hV,World.frozen?_setCell];exact HX.out.hands.fz o);have VI:Hid (V.cell? ⟨B.hd,k*3+2,none⟩=some (.bool true)):=Za (by
    rw[←hV,Zy0 _ _ _ _ (Zvt (by omega))];have:=HX.out.hands.is k HKL.out;rw[ML.out.1,HI.out] at this;exact this)
   have TV:Hid (Uy V B.cb B.cg m1.fl m1.col):=Za (by
    have:=H.out.ord.c;have:=H.out.ord.h;rw[←hV];exact HX.out.tint.chg (Nh _ B.hd (k*3+1) _) (by omega) (by omega))
   have ON:=Za (fun hf:f+2≤szN c t S=>by have:=HX.out.scanOn (S:=S) (f:=f) HKL.out (by rw[ML.out.1];exact E1.out) (by rw[ML.out.1];exact HI.out) E3.out hf;rw[hV] at this;exact this);have EN:=Za (fun W5 ht (hx:Chg (tiB B.cb B.cg) V W5)=>HX.out.scanEnd (S:=S) (v:=(f:Int)+1) (W5:=W5) HKL.out E3.out ht (by rw[hV];exact hx));rw[hV];clear hV zV q1 q2;have NH:¬tiB B.cb B.cg B.hd:=fun q=>by have:=H.out.ord.c;have:=H.out.ord.h;unfold tiB at q;omega
   have BL:=Za (Lx (V:=V) (S:=S) (k:=k) TV.out NH v0 v1 VI.out VF.out);by_cases hq:q=0∧¬hd.r≤(f:Int)+1
   ·obtain⟨rfl,hr2⟩:=hq;have g2:decide (hd.r≤(f:Int)+1)=false:=Zyx hr2;have hl:=Yd (c:=c) (t:=t) (ws:=ws) (s:=(S:Int)) (by rw[HH.out]);rw[HH.out] at hl;have sz:=(Me H.out.ko H.out.ti E3.out).1;have l1:=hl.2.2.1.2.2;have l2:=hl.2.2.1.1.2.2.1;have on:=ON.out (by simp only at l1 l2;omega);have E:Hid (St c t n ws m k={ m1 with hs:=m1.hs.set k ⟨(Zq m1.hs k).slot,(f:Int)+1,true⟩ }):=Za (by
     unfold St;rw[E1.out,HH.out,E2.out,if_neg (by rintro (q|q);exact q rfl;exact hr2 q),HM1.out,ML.out.1,E1.out])
    have ON2:=Za on;clear on l1 l2 sz hl ON EN BL TV VI VF
    go_quiet (fail)
    go_wp2;go_ret;refine⟨rfl,?_,?_⟩
    ·rw[E.out];exact ON2.out.1.ext ((Zy2 _).drewN _)
    ·exact(CX.out.trans ON2.out.2).drewN _
   ·have E:Hid (St c t n ws m k={ Yf c t m1 (S:Int) with hs:=m1.hs.set k Tk }):=Za (by
     unfold St;rw[E1.out,HH.out,E2.out,if_pos (by by_cases q0:q=0;right;exact Decidable.byContradiction fun z=>hq ⟨q0,z⟩;exact .inl q0),HM1.out,ML.out.1])
    have hq2:(q≠0)∨(q=0∧hd.r≤(f:Int)+1):=by omega
    clear hq ON;rcases hq2 with hq|⟨rfl,hq⟩
    all_goals
     first
      | (have g1:(q != 0)=true:=by simp[hq])
      | (have g2:decide (hd.r≤(f:Int)+1)=true:=Zyy hq)
     go_quiet (fail)
     go_wp2_with fail
     go_region_with (go_at_call 340;with_reducible refine(BL.out _ ?_).mono ?_;(focus (repeat (first|with_reducible exact Zy2 _|with_reducible refine Ext.drew ?_|with_reducible refine Ext.drewN ?_ _)));rintro e w6 ⟨kk,rfl,ET,u0,u1,u2,g0,g1',g2'⟩)
     all_goals
      go_wp2;go_ret;have en:=EN.out _ ET.out.1 ET.out.2;refine⟨rfl,?_,CX.out.trans en.2⟩;rw[E.out];exact en.1
  ·have t3:(e3==0)=false:=by simp[hS]
   have HX:=Za (NX.out.2 (fun q=>hS q.1));have CX:=Za (Zy3 (P:=B.mkP) XQ.out);have ZX:=ZQ;clear HQ ZQ XQ NX;have q1:WQ.cell? ⟨B.hd,k*3+1,none⟩=some (.int .i64 (f:Int)):=by
    have:=HX.out.hands.fld k (by rw[ML.out.1];exact HK.out);rw[ML.out.1,E2.out] at this;exact this
   have q2:=HX.out.hands.fz (k*3+1);go_wp2_with fail;have HKL:=Za (show k<m1.hs.length by rw[ML.out.1];exact HK.out);obtain⟨V,hV⟩:=Zb (WQ.setCell ⟨B.hd,k*3+1,none⟩ (.int .i64 ((f:Int)+1)));have zV:Zn V z [hd.c,hd.r,hd.w]:=by rw[←hV];exact ZX.out.far (by intro e;exact MKZ.out (by unfold CB.mkP;have:=H.out.ord.h;have:=H.out.ord.k;have:=H.out.ord.c;have e':B.hd=z:=e;omega)) _
   have v1:V.cell? ⟨B.hd,k*3+1,none⟩=some (.int .i64 ((f:Int)+1)):=by rw[←hV];exact Zyz _ _ _ q1
   have v0:V.cell? ⟨B.hd,k*3,none⟩=some (.int .i64 (S:Int)):=by
    rw[←hV,Zy0 _ _ _ _ (Zvt (by omega))];have:=HX.out.hands.slot k HKL.out;rw[ML.out.1,E1.out] at this;exact this
   have vb:V.cell? ⟨B.kb,4,none⟩=some (B.cb:Value):=by
    rw[←hV,cell_far _ _ _ _ (by show B.hd≠B.kb;have:=H.out.ord.h;omega)];exact HX.out.box.c 4 _ rfl
   have vz:=zV.c 1 _ rfl;have VF:Hid (∀o,V.frozen? ⟨B.hd,o,none⟩=false):=Za (fun o=>by rw[←hV,World.frozen?_setCell];exact HX.out.hands.fz o);have VI:Hid (V.cell? ⟨B.hd,k*3+2,none⟩=some (.bool true)):=Za (by
    rw[←hV,Zy0 _ _ _ _ (Zvt (by omega))];have:=HX.out.hands.is k HKL.out;rw[ML.out.1,HI.out] at this;exact this)
   have TV:Hid (Uy V B.cb B.cg m1.fl m1.col):=Za (by
    have:=H.out.ord.c;have:=H.out.ord.h;rw[←hV];exact HX.out.tint.chg (Nh _ B.hd (k*3+1) _) (by omega) (by omega))
   have ON:=Za (fun hf:f+2≤szN c t S=>by have:=HX.out.scanOn (S:=S) (f:=f) HKL.out (by rw[ML.out.1];exact E1.out) (by rw[ML.out.1];exact HI.out) E3.out hf;rw[hV] at this;exact this);have EN:=Za (fun W5 ht (hx:Chg (tiB B.cb B.cg) V W5)=>HX.out.scanEnd (S:=S) (v:=(f:Int)+1) (W5:=W5) HKL.out E3.out ht (by rw[hV];exact hx));rw[hV];clear hV zV q1 q2;have NH:¬tiB B.cb B.cg B.hd:=fun q=>by have:=H.out.ord.c;have:=H.out.ord.h;unfold tiB at q;omega
   have BL:=Za (Lx (V:=V) (S:=S) (k:=k) TV.out NH v0 v1 VI.out VF.out);by_cases hq:q=0∧¬hd.r≤(f:Int)+1
   ·obtain⟨rfl,hr2⟩:=hq;have g2:decide (hd.r≤(f:Int)+1)=false:=Zyx hr2;have hl:=Yd (c:=c) (t:=t) (ws:=ws) (s:=(S:Int)) (by rw[HH.out]);rw[HH.out] at hl;have sz:=(Me H.out.ko H.out.ti E3.out).1;have l1:=hl.2.2.1.2.2;have l2:=hl.2.2.1.1.2.2.1;have on:=ON.out (by simp only at l1 l2;omega);have E:Hid (St c t n ws m k={ m1 with hs:=m1.hs.set k ⟨(Zq m1.hs k).slot,(f:Int)+1,true⟩ }):=Za (by
     unfold St;rw[E1.out,HH.out,E2.out,if_neg (by rintro (q|q);exact q rfl;exact hr2 q),HM1.out,ML.out.1,E1.out])
    have ON2:=Za on;clear on l1 l2 sz hl ON EN BL TV VI VF
    go_quiet (fail)
    go_wp2;go_ret;refine⟨rfl,?_,?_⟩
    ·rw[E.out];exact ON2.out.1.ext ((Zy2 _).drewN _)
    ·exact(CX.out.trans ON2.out.2).drewN _
   ·have E:Hid (St c t n ws m k={ Yf c t m1 (S:Int) with hs:=m1.hs.set k Tk }):=Za (by
     unfold St;rw[E1.out,HH.out,E2.out,if_pos (by by_cases q0:q=0;right;exact Decidable.byContradiction fun z=>hq ⟨q0,z⟩;exact .inl q0),HM1.out,ML.out.1])
    have hq2:(q≠0)∨(q=0∧hd.r≤(f:Int)+1):=by omega
    clear hq ON;rcases hq2 with hq|⟨rfl,hq⟩
    all_goals
     first
      | (have g1:(q != 0)=true:=by simp[hq])
      | (have g2:decide (hd.r≤(f:Int)+1)=true:=Zyy hq)
     go_quiet (fail)
     go_wp2_with fail
     go_region_with (go_at_call 340;with_reducible refine(BL.out _ ?_).mono ?_;(focus (repeat (first|with_reducible exact Zy2 _|with_reducible refine Ext.drew ?_|with_reducible refine Ext.drewN ?_ _)));rintro e w6 ⟨kk,rfl,ET,u0,u1,u2,g0,g1',g2'⟩)
     all_goals
      go_wp2;go_ret;have en:=EN.out _ ET.out.1 ET.out.2;refine⟨rfl,?_,CX.out.trans en.2⟩;rw[E.out];exact en.1
  ·have t3:decide (0≤tx)=false:=Zyx (by omega);have HX:=Za (NX.out.2 (fun q=>by omega));have CX:=Za (Zy3 (P:=B.mkP) XQ.out);have ZX:=ZQ;clear HQ ZQ XQ NX;have q1:WQ.cell? ⟨B.hd,k*3+1,none⟩=some (.int .i64 (f:Int)):=by
    have:=HX.out.hands.fld k (by rw[ML.out.1];exact HK.out);rw[ML.out.1,E2.out] at this;exact this
   have q2:=HX.out.hands.fz (k*3+1);go_wp2_with fail;have HKL:=Za (show k<m1.hs.length by rw[ML.out.1];exact HK.out);obtain⟨V,hV⟩:=Zb (WQ.setCell ⟨B.hd,k*3+1,none⟩ (.int .i64 ((f:Int)+1)));have zV:Zn V z [hd.c,hd.r,hd.w]:=by rw[←hV];exact ZX.out.far (by intro e;exact MKZ.out (by unfold CB.mkP;have:=H.out.ord.h;have:=H.out.ord.k;have:=H.out.ord.c;have e':B.hd=z:=e;omega)) _
   have v1:V.cell? ⟨B.hd,k*3+1,none⟩=some (.int .i64 ((f:Int)+1)):=by rw[←hV];exact Zyz _ _ _ q1
   have v0:V.cell? ⟨B.hd,k*3,none⟩=some (.int .i64 (S:Int)):=by
    rw[←hV,Zy0 _ _ _ _ (Zvt (by omega))];have:=HX.out.hands.slot k HKL.out;rw[ML.out.1,E1.out] at this;exact this
   have vb:V.cell? ⟨B.kb,4,none⟩=some (B.cb:Value):=by
    rw[←hV,cell_far _ _ _ _ (by show B.hd≠B.kb;have:=H.out.ord.h;omega)];exact HX.out.box.c 4 _ rfl
   have vz:=zV.c 1 _ rfl;have VF:Hid (∀o,V.frozen? ⟨B.hd,o,none⟩=false):=Za (fun o=>by rw[←hV,World.frozen?_setCell];exact HX.out.hands.fz o);have VI:Hid (V.cell? ⟨B.hd,k*3+2,none⟩=some (.bool true)):=Za (by
    rw[←hV,Zy0 _ _ _ _ (Zvt (by omega))];have:=HX.out.hands.is k HKL.out;rw[ML.out.1,HI.out] at this;exact this)
   have TV:Hid (Uy V B.cb B.cg m1.fl m1.col):=Za (by
    have:=H.out.ord.c;have:=H.out.ord.h;rw[←hV];exact HX.out.tint.chg (Nh _ B.hd (k*3+1) _) (by omega) (by omega))
   have ON:=Za (fun hf:f+2≤szN c t S=>by have:=HX.out.scanOn (S:=S) (f:=f) HKL.out (by rw[ML.out.1];exact E1.out) (by rw[ML.out.1];exact HI.out) E3.out hf;rw[hV] at this;exact this);have EN:=Za (fun W5 ht (hx:Chg (tiB B.cb B.cg) V W5)=>HX.out.scanEnd (S:=S) (v:=(f:Int)+1) (W5:=W5) HKL.out E3.out ht (by rw[hV];exact hx));rw[hV];clear hV zV q1 q2;have NH:¬tiB B.cb B.cg B.hd:=fun q=>by have:=H.out.ord.c;have:=H.out.ord.h;unfold tiB at q;omega
   have BL:=Za (Lx (V:=V) (S:=S) (k:=k) TV.out NH v0 v1 VI.out VF.out);by_cases hq:q=0∧¬hd.r≤(f:Int)+1
   ·obtain⟨rfl,hr2⟩:=hq;have g2:decide (hd.r≤(f:Int)+1)=false:=Zyx hr2;have hl:=Yd (c:=c) (t:=t) (ws:=ws) (s:=(S:Int)) (by rw[HH.out]);rw[HH.out] at hl;have sz:=(Me H.out.ko H.out.ti E3.out).1;have l1:=hl.2.2.1.2.2;have l2:=hl.2.2.1.1.2.2.1;have on:=ON.out (by simp only at l1 l2;omega);have E:Hid (St c t n ws m k={ m1 with hs:=m1.hs.set k ⟨(Zq m1.hs k).slot,(f:Int)+1,true⟩ }):=Za (by
     unfold St;rw[E1.out,HH.out,E2.out,if_neg (by rintro (q|q);exact q rfl;exact hr2 q),HM1.out,ML.out.1,E1.out])
    have ON2:=Za on;clear on l1 l2 sz hl ON EN BL TV VI VF
    go_quiet (fail)
    go_wp2;go_ret;refine⟨rfl,?_,?_⟩
    ·rw[E.out];exact ON2.out.1.ext ((Zy2 _).drewN _)
    ·exact(CX.out.trans ON2.out.2).drewN _
   ·have E:Hid (St c t n ws m k={ Yf c t m1 (S:Int) with hs:=m1.hs.set k Tk }):=Za (by
     unfold St;rw[E1.out,HH.out,E2.out,if_pos (by by_cases q0:q=0;right;exact Decidable.byContradiction fun z=>hq ⟨q0,z⟩;exact .inl q0),HM1.out,ML.out.1])
    have hq2:(q≠0)∨(q=0∧hd.r≤(f:Int)+1):=by omega
    clear hq ON;rcases hq2 with hq|⟨rfl,hq⟩
    all_goals
     first
      | (have g1:(q != 0)=true:=by simp[hq])
      | (have g2:decide (hd.r≤(f:Int)+1)=true:=Zyy hq)
     go_quiet (fail)
     go_wp2_with fail
     go_region_with (go_at_call 340;with_reducible refine(BL.out _ ?_).mono ?_;(focus (repeat (first|with_reducible exact Zy2 _|with_reducible refine Ext.drew ?_|with_reducible refine Ext.drewN ?_ _)));rintro e w6 ⟨kk,rfl,ET,u0,u1,u2,g0,g1',g2'⟩)
     all_goals
      go_wp2;go_ret;have en:=EN.out _ ET.out.1 ET.out.2;refine⟨rfl,?_,CX.out.trans en.2⟩;rw[E.out];exact en.1
theorem Ye.seekEnd{r:Nat}(h:Ye w B c t n gens ws l ms m)(hr:m.root=r)(hl:r+1≤Xy c t l):Ye (w.setCell ⟨B.kb,7,none⟩ (.int .i64 ((r:Int)+1))) B c t n gens ws l ms { m with root:=r+1 }∧Chg B.mkP w (w.setCell ⟨B.kb,7,none⟩ (.int .i64 ((r:Int)+1))):=by
 subst hr;exact h.boxSet (i:=7) (v:=.int .i64 ((m.root:Int)+1)) (r:=m.root+1) (a:=m.act) (s:=m.steps) (by decide) rfl hl h.st
theorem Zmw{p:Value}{r:Bool}(h:Ye w B c t n gens ws l ms m)(hr:Lr c t n l ms m=(m',r)):Calls prog 304 #[B.kb,p] w fun e w'=>e=.returned (.bool r)∧Ye w' B c t n gens ws l ms m'∧Chg B.mkP w w':=by
 have H:=Za h;have c7:w.cell? ⟨B.kb,7,none⟩=some (.int .i64 (m.root:Int)):=h.box.c 7 _ rfl;have c2:w.cell? ⟨B.kb,2,none⟩=some (B.tb:Value):=h.box.c 2 _ rfl;have c3:w.cell? ⟨B.kb,3,none⟩=some (B.nb:Value):=h.box.c 3 _ rfl;have f7:=h.box.f 7;obtain⟨R,hR⟩:=Zb (Xy c t l);obtain⟨r0,hr0⟩:=Zb (m.root);obtain⟨ln,hln⟩:∃k,l.length=k:=⟨_,rfl⟩;have rt:=h.ok.rt;have tl:=h.tab.len;have nl:=h.ko.nS_le h.ti;have RB:R≤17408:=by rw[←hR];unfold Xy;omega
 have HR:=Za hR;have HR0:=Za hr0;have HL:=Za hln;rw[hR,hr0] at rt;rw[hr0] at c7;rw[hln] at tl;have RO:=Za (fun W (x:Ext w W)=>Fy (h.ext x) hR);have SL:=Za (fun W (x:Ext w W)=>Zfz (i:=(r0:Int)) (s:=(Ux l (r0:Int)).1) (r:=(Ux l (r0:Int)).2) (h.tab.ext x) rfl);have LN:=Za (fun W (x:Ext w W)=>I5 (h.tab.ext x) hln);have CN:=Za (fun W (x:Ext w W) (i:Int)=>Pw (i:=i) ms (Lp ms i) (h.pin.ext x) rfl);have SH:=Za (fun W (x:Ext w W) (s:Int)=>Lw (s:=s) (h.ext x));have k7:=fun d os=>cell_regrown c7 d os
 unfold Lr at hr;rw[hr0,hR] at hr;clear h hR hr0 hln;by_cases e0:r0=R
 ·rw[if_pos e0] at hr;cases hr;subst e0;go_enter func304,ntmps304;go_wp2_with fail;refine wp_region_quiet_below (by kernel_rfl) (by kernel_rfl) ?_
  repeat (any_goals (first|go_big_quiet_step ((go_at_call 301;with_reducible exact reg (RO.out _ (Zk _ _ _))))|quiet_step ((go_at_call 301;with_reducible exact reg (RO.out _ (Zk _ _ _))))))
  refine Zc fun WQ xq=>?_;go_wp2;go_ret;exact⟨rfl,H.out.ext xq,Zy3 xq⟩
 ·rw[if_neg e0] at hr;have t0:((r0:Int)==(R:Int))=false:=by simp;omega
  have r1:r0+1≤R:=by omega
  have R1:=Za r1;have hm':=(congrArg Prod.fst hr).symm;have hr':r=true:=(congrArg Prod.snd hr).symm;subst hr';simp only at hm';have HM:=Za hm';clear hr hm' e0 r1;go_enter func304,ntmps304;go_wp2_with fail;refine wp_region_quiet_below (by kernel_rfl) (by kernel_rfl) ?_
  repeat (any_goals (first|go_big_quiet_step ((go_at_call 301;with_reducible exact reg (RO.out _ (Zk _ _ _))))|quiet_step ((go_at_call 301;with_reducible exact reg (RO.out _ (Zk _ _ _))))))
  refine Zc fun WQ xq=>?_;replace c7:=xq.cell c7;replace c2:=xq.cell c2;replace c3:=xq.cell c3;have f7:WQ.frozen? ⟨B.kb,7,none⟩=false:=by rw[xq.frozen (p:=⟨B.kb,7,none⟩) H.out.lt];exact f7
  have X1:=Za xq;clear k7 xq;obtain⟨W1,hW1⟩:=Zb (WQ);subst hW1;have k7:=fun d os=>cell_regrown c7 d os;have k2:=fun d os=>cell_regrown c2 d os
  go_wp2_with fail;refine wp_region_quiet_below (by kernel_rfl) (by kernel_rfl) ?_
  repeat (any_goals (first|go_big_quiet_step ((go_at_call 86;with_reducible exact Vp (SL.out _ (X1.out.trans (Zk _ _ _)))))|quiet_step ((go_at_call 86;with_reducible exact Vp (SL.out _ (X1.out.trans (Zk _ _ _)))))))
  refine Zc fun WQ xq=>?_;replace c7:=xq.cell c7;replace c2:=xq.cell c2;replace c3:=xq.cell c3;have X2:=Za (X1.out.trans xq);clear k7 k2 xq;have k7:=fun d os=>cell_regrown c7 d os;have k2:=fun d os=>cell_regrown c2 d os
  go_wp2_with fail;refine wp_region_quiet_below (by kernel_rfl) (by kernel_rfl) ?_
  repeat (any_goals (first|go_big_quiet_step ((go_at_call 18;with_reducible exact Vp (LN.out _ (X2.out.trans (Zk _ _ _)))))|quiet_step ((go_at_call 18;with_reducible exact Vp (LN.out _ (X2.out.trans (Zk _ _ _)))))))
  refine Zc fun WQ xq=>?_;replace c7:=xq.cell c7;replace c2:=xq.cell c2;replace c3:=xq.cell c3;have X3:=Za (X2.out.trans xq);clear k7 k2 xq;have f7:WQ.frozen? ⟨B.kb,7,none⟩=false:=by rw[X3.out.frozen (p:=⟨B.kb,7,none⟩) H.out.lt];exact H.out.box.f 7
  by_cases hlt:r0<ln
  ·have g1:decide (0≤(r0:Int)-(ln:Int))=false:=Zyx (by omega);have hroot:Qb l ms r0=Ux l (r0:Int):=by unfold Qb;rw[if_pos (by rw[HL.out];exact hlt)]
   have HM2:=HM.out;rw[hroot] at HM2;obtain⟨es,hes⟩:∃s,(Ux l (r0:Int)).1=s:=⟨_,rfl⟩;rw[hes] at HM2 ⊢;cases hb:(Ux l (r0:Int)).2
   ·rw[hb] at HM2;simp only[Bool.false_eq_true,if_false] at HM2;have HM3:=Za HM2;clear HM2 hroot hb hes;go_wp2_with fail;have HM2:=HM3.out;go_ret;have en:=(H.out.ext X3.out).seekEnd (r:=r0) HR0.out (by rw[HR.out];exact R1.out);rw[HM2];exact⟨rfl,en.1,(Zy3 (P:=B.mkP) X3.out).trans en.2⟩
   ·rw[hb] at HM2;simp only[if_true] at HM2;have HM3:=Za HM2;clear HM2 hroot hb hes;go_wp2_with fail;have HM2:=HM3.out;refine(SH.out _ X3.out es).mono ?_;rintro e w5 ⟨rfl,h5,x5⟩;have eq:=Wx (c:=c) (t:=t) (n:=n) m es;have en:=Za (h5.seekEnd (r:=r0) (by rw[eq.2.1];exact HR0.out) (by rw[HR.out];exact R1.out));have c7':w5.cell? ⟨B.kb,7,none⟩=some (.int .i64 (r0:Int)):=by have:=h5.box.c 7 _ rfl;rw[eq.2.1,HR0.out] at this;exact this
    have f7':=h5.box.f 7;have X5:=Za ((Zy3 (P:=B.mkP) X3.out).trans x5);clear h5 x5 eq;go_wp2;go_ret;rw[HM2];exact⟨rfl,en.out.1,X5.out.trans en.out.2⟩
  ·obtain⟨d,hd⟩:∃d:Nat,(r0:Int)-(ln:Int)=d:=⟨r0-ln,by omega⟩;have hroot:Qb l ms r0=((d:Int),decide (0<Lp ms (d:Int))):=by unfold Qb;rw[if_neg (by rw[HL.out];exact hlt),HL.out,hd]
   have HM2:=HM.out;rw[hroot] at HM2;have PC:=Za (CN.out _ X3.out (d:Int));have c3':=c3;by_cases hb:0<Lp ms (d:Int)
   ·rw[Zyy hb] at HM2;simp only[if_true] at HM2;have HM3:=Za HM2;obtain⟨pv,hpv⟩:∃v,Lp ms (d:Int)=v:=⟨_,rfl⟩;rw[hpv] at PC hb;clear HM2 hroot hpv;go_wp2_with fail;refine PC.out.zz ?_;go_wp2_with fail;have HM2:=HM3.out;refine(SH.out _ X3.out (d:Int)).mono ?_;rintro e w6 ⟨rfl,h5,x5⟩;have eq:=Wx (c:=c) (t:=t) (n:=n) m (d:Int);have en:=Za (h5.seekEnd (r:=r0) (by rw[eq.2.1];exact HR0.out) (by rw[HR.out];exact R1.out));have c7':w6.cell? ⟨B.kb,7,none⟩=some (.int .i64 (r0:Int)):=by have:=h5.box.c 7 _ rfl;rw[eq.2.1,HR0.out] at this;exact this
    have f7':=h5.box.f 7;have X5:=Za ((Zy3 (P:=B.mkP) X3.out).trans x5);clear h5 x5 eq;go_wp2;go_ret;rw[HM2];exact⟨rfl,en.out.1,X5.out.trans en.out.2⟩
   ·rw[Zyx hb] at HM2;simp only[Bool.false_eq_true,if_false] at HM2;have HM3:=Za HM2;obtain⟨pv,hpv⟩:∃v,Lp ms (d:Int)=v:=⟨_,rfl⟩;rw[hpv] at PC hb;have hb2:decide (0<pv)=false:=Zyx hb;clear HM2 hroot hpv hb;go_wp2_with fail;refine PC.out.zz ?_;go_wp2_with fail;have HM2:=HM3.out;go_ret;have en:=(H.out.ext X3.out).seekEnd (r:=r0) HR0.out (by rw[HR.out];exact R1.out);rw[HM2];exact⟨rfl,en.1,(Zy3 (P:=B.mkP) X3.out).trans en.2⟩
theorem Zbd{k S:Nat}(h:Ye w B c t n gens ws l ms m)(hk:k<m.hs.length)(hS:S<nS c t):Calls prog 307 #[.pointer (some ⟨B.hd,k*3,none⟩),.int .i64 S] w fun e w'=>e=.returned (.tuple #[])∧Ye w' B c t n gens ws l ms { m with hs:=m.hs.set k ⟨(S:Int),0,true⟩ }∧Chg B.mkP w w':=by
 have c0:=h.hands.slot k hk;have c1:=h.hands.fld k hk;have c2:=h.hands.is k hk;have f0:=h.hands.fz (k*3);have f1:=h.hands.fz (k*3+1);have f2:=h.hands.fz (k*3+2);have hx:=((Nh w B.hd (k*3) (.int .i64 (S:Int))).trans (Nh _ B.hd (k*3+1) (.int .i64 0))).trans (Nh _ B.hd (k*3+2) (.bool true));have FIN:=Za (h.handsTo (h.hands.set hk ⟨(S:Int),0,true⟩) hx (by simp) (fun j=>by
  rw[Rg hk];split
  ·have:=(Me h.ko h.ti hS).2.1;exact fun _=>⟨S,0,rfl,rfl,hS,by omega⟩
  ·exact h.ok.hd j))
 clear h hx;go_enter func307,ntmps307;go_wp2
 go_end0
 exact⟨rfl,FIN.out.1,FIN.out.2⟩
theorem Zq2{g:GS}(hg:GOk c t n g)(h:(Rb g).2.2=true):∃S:Nat,(Rb g).2.1=S∧S<nS c t:=by
 unfold Rb at h ⊢;cases hq:g.q with
 | nil=>rw[hq] at h;cases h
 | cons x r=>
  have:=hg.qs x (by rw[hq];exact List.mem_cons_self ..);exact⟨x.toNat,by simp only;omega,by omega⟩
theorem Zq3{g:GS}(h:(Rb g).2.2=false):(Rb g).1=g:=by
 unfold Rb at h ⊢;cases hq:g.q with
 | nil=>rfl
 | cons x r=>rw[hq] at h;cases h
theorem Zis{k:Nat}{r:Bool}(h:Ye w B c t n gens ws l ms m)(hk:k<m.hs.length)(hr:Ls m k=(m',r)):Calls prog 305 #[B.kb,.pointer (some ⟨B.hd,k*3,none⟩)] w fun e w'=>e=.returned (.bool r)∧Ye w' B c t n gens ws l ms m'∧Chg B.mkP w w':=by
 have c5:=h.box.c 5 _ rfl;obtain⟨f,hg⟩:=h.grey;obtain⟨g',x,is,hn⟩:∃g' x is,Rb m.g=(g',x,is):=⟨_,_,_,rfl⟩;have NX:=Za (Zlw hg hn);have H:=Za h;have o1:=Cc h.ok.g;have o2:=Zau h.ok.d;have o3:=Zq2 h.ok.g;have o4:=Zq3 (g:=m.g);rw[hn] at o1 o2 o3 o4;have OK:=Za (And.intro o1 (And.intro o2 (And.intro o3 o4)));have HK:=Za hk;unfold Ls at hr;rw[hn] at hr;clear h hg hn o1 o2 o3 o4 hk;cases is
 ·have E:=OK.out.2.2.2 rfl;simp only[Bool.false_eq_true,if_false] at hr;cases hr;have EE:=Za E;clear E;go_enter func305,ntmps305;go_wp2_with fail;refine NX.out.mono ?_;rintro e w1 ⟨rfl,h1,x1⟩;have h2:=H.out.greyTo h1 x1 OK.out.1 OK.out.2.1;have H2:=Za h2;clear h1 x1 h2;go_wp2;go_ret;refine⟨rfl,?_,H2.out.2⟩;have:=H2.out.1;have e:g'=m.g:=EE.out;rw[e] at this;exact this
 ·obtain⟨S,e1,e2⟩:=OK.out.2.2.1 rfl;simp only at e1;subst e1;simp only[if_true] at hr;cases hr;have E2:=Za e2;clear e2;go_enter func305,ntmps305;go_wp2_with fail;refine NX.out.mono ?_;rintro e w1 ⟨rfl,h1,x1⟩;have h2:=H.out.greyTo h1 x1 OK.out.1 OK.out.2.1;have H2:=Za h2;clear h1 x1 h2;go_wp2_with fail;refine(Zbd H2.out.1 HK.out E2.out).mono ?_;rintro e w2 ⟨rfl,h3,x3⟩;go_wp2;go_ret;exact⟨rfl,h3,H2.out.2.trans x3⟩
theorem Zit{k:Nat}{r:Bool}(h:Ye w B c t n gens ws l ms m)(hk:k<m.hs.length)(hr:Ky c t m k=(m',r)):Calls prog 309 #[B.kb,.pointer (some ⟨B.hd,k*3,none⟩)] w fun e w'=>e=.returned (.bool r)∧Ye w' B c t n gens ws l ms m'∧Chg B.mkP w w':=by
 have c5:=h.box.c 5 _ rfl;obtain⟨f,hg⟩:=h.grey;obtain⟨g',x,is,went,hn⟩:∃g' x is went,Qa c t m.g=(g',x,is,went):=⟨_,_,_,_,rfl⟩;have NX:=Za (Zlx hg h.dbr hn);have H:=Za h;have wf:=Cm h.ko h.ti h.ok.g h.ok.d;rw[hn] at wf;have OK:=Za wf;have HK:=Za hk;unfold Ky at hr;rw[hn] at hr;clear h hg hn hk wf;cases is
 ·simp only[Bool.false_eq_true,if_false] at hr;cases hr;go_enter func309,ntmps309;go_wp2_with fail;refine NX.out.mono ?_;rintro e w1 ⟨rfl,h1,x1⟩;have h2:=H.out.greyTo h1 x1 OK.out.ok OK.out.d;have H2:=Za h2;clear h1 x1 h2;go_wp2;go_ret;exact⟨rfl,H2.out.1,H2.out.2⟩
 ·obtain⟨S,e1,e2⟩:=OK.out.is rfl;simp only at e1;subst e1;simp only[if_true] at hr;cases hr;have E2:=Za e2;clear e2;go_enter func309,ntmps309;go_wp2_with fail;refine NX.out.mono ?_;rintro e w1 ⟨rfl,h1,x1⟩;have h2:=H.out.greyTo h1 x1 OK.out.ok OK.out.d;have H2:=Za h2;clear h1 x1 h2;go_wp2_with fail;refine(Zbd H2.out.1 HK.out E2.out).mono ?_;rintro e w2 ⟨rfl,h3,x3⟩;go_wp2;go_ret;exact⟨rfl,h3,H2.out.2.trans x3⟩
def Zti:Value:=.agg #[false,false,.nilFunc,false,true,.func (.func 304) #[] #[],false,false,.func (.func 305) #[] #[],true,false,.func (.func 308) #[] #[],false,false,.func (.func 309) #[] #[]]
theorem Uk:Calls prog 266 #[] w fun e w'=>e=.returned Zti∧Ext w w':=by
 have s0:=fun p w=>run_store prog w p Value.nilFunc .plain rfl
 have s1:=fun p w=>run_store prog w p (.func (.func 304) #[] #[]) .plain rfl
 have s2:=fun p w=>run_store prog w p (.func (.func 305) #[] #[]) .plain rfl
 have s3:=fun p w=>run_store prog w p (.func (.func 308) #[] #[]) .plain rfl
 have s4:=fun p w=>run_store prog w p (.func (.func 309) #[] #[]) .plain rfl
 unfold Zti;go_enter func266,ntmps266;go_wp2_with fail;exact bodyPost_ret (v:=.agg #[false,false,.nilFunc,false,true,.func (.func 304) #[] #[],false,false,.func (.func 305) #[] #[],true,false,.func (.func 308) #[] #[],false,false,.func (.func 309) #[] #[]]) (by simp[results,results266,go_sem]) rfl ⟨rfl,(Zy2 w).alloc _⟩
end
end Go.Proofs.YtfcldaembdedjaaGreatDoor
