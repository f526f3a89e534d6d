/-
  Parts of the proof of TopCycles: Tint, TopG, TopH, TopI, Room, Field, Field2, Field3, Field4, Head, Head2.
-/
import Derived.Test.YtfcldaembdedjaaGreatDoorQ05
import Derived.Lib.BitFns
set_option linter.unusedVariables false
set_option linter.unusedSimpArgs false
set_option maxRecDepth 100000
set_option maxHeartbeats 16000000
namespace Go.Proofs.YtfcldaembdedjaaGreatDoor
open Go.RowKit Tryz
section
variable{w w':World}{b g fl:Nat}{xs:List Int}{col:List Nat}
def Zh9(fl:Nat)(x:Int):Nat:=if x=2*(fl:Int) then 1 else if x=2*(fl:Int)+1 then 2 else 0
structure Sh(w:World)(b g fl:Nat)(xs:List Int)(col:List Nat):Prop where
 box:Zn w b [.slice (some ⟨g,0,none⟩) xs.length xs.length,.int .u64 (fl:Int)]
 row:At .u64 w (some ⟨g,0,none⟩) xs
 fz:∀o,w.frozen? ⟨g,o,none⟩=false
 ne:b≠g
 len:col.length=xs.length
 pos:1≤xs.length∧xs.length≤65536
 fl1:1≤fl∧fl<1099511627776
 bd:∀i,i<xs.length→0≤nth xs i∧nth xs i≤2*(fl:Int)+1
 col:∀i,i<xs.length→Ip col i=Zh9 fl (nth xs i)
def Uy(w:World)(b g fl:Nat)(col:List Nat):Prop:=∃xs,Sh w b g fl xs col
def tiB(b g k:Nat):Prop:=k=b∨k=g
theorem Sh.cell(h:Sh w b g fl xs col){i:Nat}(hi:i<xs.length):w.cell? ⟨g,i,none⟩=some (.int .u64 (nth xs i)):=by
 obtain⟨b',o,e,hc⟩:=h.row i hi;cases e
 rwa [Nat.zero_add] at hc
theorem Sh.lt(h:Sh w b g fl xs col):b<w.heap.size∧g<w.heap.size:=⟨h.box.lt,Zj (h.cell (i:=0) (by have:=h.pos;omega))⟩
theorem Sh.chg{P:Nat→Prop}(h:Sh w b g fl xs col)(hx:Chg P w w')(hb:¬P b)(hg:¬P g):Sh w' b g fl xs col:=
 ⟨h.box.chg hx hb,h.row.chg hx (fun b' o e _=>by cases e;exact hg),fun o=>by rw[hx.frozen (p:=⟨g,o,none⟩) h.lt.2 hg];exact h.fz o,h.ne,h.len,h.pos,h.fl1,h.bd,h.col⟩
theorem Sh.ext(h:Sh w b g fl xs col)(hx:Ext w w'):Sh w' b g fl xs col:=h.chg (P:=fun _=>False) (Zy3 hx) (fun a=>a) (fun a=>a)
theorem Uy.chg{P:Nat→Prop}(h:Uy w b g fl col)(hx:Chg P w w')(hb:¬P b)(hg:¬P g):Uy w' b g fl col:=by
 obtain⟨xs,h⟩:=h;exact⟨xs,h.chg hx hb hg⟩
theorem Mj(h:Sh w b g fl xs col):Calls prog 300 #[b] w fun e w'=>e=.returned (.bool false)∧w=w':=by
 have c1:=h.box.c 1 _ rfl;have f1:=h.fl1.1;have t1:((fl:Int)==0)=false:=by simp;omega
 clear h;go_enter func300,ntmps300;go_wp2;go_ret;exact⟨rfl,rfl⟩
def Zoz(n:Nat)(s:Int):Int:=if 0≤s∧s<(n:Int) then 0 else 2
theorem Jm{s k:Int}(h:Sh w b g fl xs col)(hk:Zoz xs.length s=k):Calls prog 260 #[b,.int .i64 s] w fun e w'=>e=.returned (.int .i64 k)∧w=w':=by
 have c0:=h.box.c 0 _ rfl;have H:=Za h;unfold Zoz at hk;clear h;by_cases h0:s<0
 ·rw[if_neg (by omega)] at hk;subst hk;go_enter func260,ntmps260;go_wp2_with fail;refine(Mj H.out).zz ?_;go_wp2;go_ret;exact⟨rfl,rfl⟩
 ·by_cases h1:(xs.length:Int)≤s
  ·rw[if_neg (by omega)] at hk;subst hk;have h2:0≤s:=by omega
   clear h0;go_enter func260,ntmps260;go_wp2_with fail;refine(Mj H.out).zz ?_;go_wp2;go_ret;exact⟨rfl,rfl⟩
  ·rw[if_pos (by omega)] at hk;subst hk;have h2:0≤s:=by omega
   have h3:s<(xs.length:Int):=by omega
   clear h0 h1;go_enter func260,ntmps260;go_wp2_with fail;refine(Mj H.out).zz ?_;go_wp2;go_ret;exact⟨rfl,rfl⟩
theorem Zdo{x:Int}{c:Nat}(h:Sh w b g fl xs col)(hx:0≤x∧x≤2*(fl:Int)+1)(hc:Zh9 fl x=c):Calls prog 261 #[b,.int .u64 x] w fun e w'=>e=.returned (.int .u8 c)∧w=w':=by
 have c1:=h.box.c 1 _ rfl;obtain⟨f1,f2⟩:=h.fl1;obtain⟨x0,x1⟩:=hx;unfold Zh9 at hc;have w1:IntKind.u64.wrap (2*(fl:Int))=2*(fl:Int):=by rw[IntKind.wrap_u64];omega
 have w2:IntKind.u64.wrap (2*(fl:Int)+1)=2*(fl:Int)+1:=by rw[IntKind.wrap_u64];omega
 clear h;by_cases e1:x=2*(fl:Int)
 ·rw[if_pos e1] at hc;subst hc;have t1:(x==2*(fl:Int))=true:=by simp[e1]
  have t1':(2*(fl:Int)==x)=true:=by simp[e1]
  clear e1;go_enter func261,ntmps261;go_wp2;go_ret;exact⟨rfl,rfl⟩
 ·rw[if_neg e1] at hc;have t1:(x==2*(fl:Int))=false:=by simp[e1]
  by_cases e2:x=2*(fl:Int)+1
  ·rw[if_pos e2] at hc;subst hc;have t2:(x==2*(fl:Int)+1)=true:=by simp[e2]
   clear e1 e2;go_enter func261,ntmps261;go_wp2;go_ret;exact⟨rfl,rfl⟩
  ·rw[if_neg e2] at hc;subst hc;have t2:(x==2*(fl:Int)+1)=false:=by simp[e2]
   clear e1 e2;go_enter func261,ntmps261;go_wp2;go_ret;exact⟨rfl,rfl⟩
def Iv(col:List Nat)(s:Int):Int × Int:=if 0≤s∧s<(col.length:Int) then ((Ip col s.toNat:Int),0) else (0,2)
theorem Cp{s p k:Int}(h:Sh w b g fl xs col)(hk:Iv col s=(p,k)):Calls prog 223 #[b,.int .i64 s] w fun e w'=>e=.returned (.tuple #[.int .u8 p,.int .i64 k])∧w=w':=by
 have c0:=h.box.c 0 _ rfl;have H:=Za h;unfold Iv at hk;rw[h.len] at hk;by_cases hs:0≤s∧s<(xs.length:Int)
 ·rw[if_pos hs] at hk;obtain⟨n,rfl⟩:=Int.eq_ofNat_of_zero_le hs.1;have hn:n<xs.length:=by omega
  have HA:=Za (show Zoz xs.length (n:Int)=0 by unfold Zoz;rw[if_pos hs]);have cn:=h.cell hn;have bd:=h.bd n hn;rw[Zy4] at hk;have CO:=Za (h.col n hn).symm;cases hk
  generalize Ip col n=m at *
  generalize nth xs n=x at *
  have BD:=Za bd;clear h hs bd;go_enter func223,ntmps223;go_wp2_with fail;refine(Jm H.out HA.out).zz ?_;go_wp2_with fail;refine(Zdo H.out BD.out CO.out).zz ?_;go_wp2;go_ret2;exact⟨rfl,rfl⟩
 ·rw[if_neg hs] at hk;have HA:=Za (show Zoz xs.length s=2 by unfold Zoz;rw[if_neg hs]);cases hk;clear h hs;go_enter func223,ntmps223;go_wp2_with fail;refine(Jm H.out HA.out).zz ?_;go_wp2;go_ret2;exact⟨rfl,rfl⟩
theorem Sh.turn(h:Sh w b g fl xs col){i v:Nat}(hi:i<xs.length)(hv:v=1∨v=2){x:Int}(hx:x=2*(fl:Int)+(v-1:Nat)):Sh (w.setCell ⟨g,i,none⟩ (.int .u64 x)) b g fl (xs.set i x) (col.set i v)∧Chg (tiB b g) w (w.setCell ⟨g,i,none⟩ (.int .u64 x)):=by
 refine⟨⟨?_,h.row.set hi x,fun o=>by rw[World.frozen?_setCell];exact h.fz o,h.ne,by simp[h.len],by simpa using h.pos,h.fl1,fun j hj=>?_,fun j hj=>?_⟩,(Chg.refl _ w).setCell (.inl (.inr rfl)) _⟩
 ·rw[List.length_set];exact h.box.far (by exact h.ne.symm) _
 ·rw[List.length_set] at hj;rw[Zcw hi];split
  ·omega
  ·exact h.bd j hj
 ·rw[List.length_set] at hj;rw[Zcw hi,Mf (by rw[h.len];exact hi)];split
  ·unfold Zh9;rcases hv with rfl|rfl
   ·rw[if_pos (by omega)]
   ·rw[if_neg (by omega),if_pos (by omega)]
  ·exact h.col j hj
theorem Zia{n:Nat}(h:Sh w b g fl xs col)(hn:n<xs.length)(hw:Ip col n=0):Calls prog 364 #[b,.int .i64 n] w fun e w'=>e=.returned (.tuple #[true,(0:Int)])∧Uy w' b g fl (col.set n 1)∧Chg (tiB b g) w w':=by
 have c0:=h.box.c 0 _ rfl;have c1:=h.box.c 1 _ rfl;have H:=Za h;have OF:=Za (show Iv col (n:Int)=(0,0) by unfold Iv;rw[if_pos (by have:=h.len;omega),Zy4,hw];rfl);have cn:=h.cell hn;have fn:=h.fz n;have TU:=Za (h.turn hn (v:=1) (.inl rfl) (x:=2*(fl:Int)) (by simp));obtain⟨f1,f2⟩:=h.fl1;have w1:IntKind.u64.wrap (2*(fl:Int))=2*(fl:Int):=by rw[IntKind.wrap_u64];omega
 have hn0:(0:Int)≤(n:Int):=Int.natCast_nonneg _;have hn1:(n:Int)<(xs.length:Int):=by omega
 clear h hw;go_enter func364,ntmps364;go_wp2_with fail;refine(Cp H.out OF.out).zz ?_;go_wp2_with fail
 go_region
 go_wp2;go_ret2;exact⟨rfl,⟨_,TU.out.1.ext (Zy2 _).drew⟩,TU.out.2.drew⟩
theorem Cq{s p k:Int}(h:Sh w b g fl xs col)(ho:Iv col s=(p,k))(hn:k≠0∨p≠0)(hk:k=0∨k=2)(hp:0≤p∧p≤2):Calls prog 364 #[b,.int .i64 s] w fun e w'=>e=.returned (.tuple #[false,.int .i64 k])∧w=w':=by
 have H:=Za h;have OF:=Za ho;clear h ho;rcases hk with rfl|rfl
 ·have p0:p≠0:=by rcases hn with q|q;exact absurd rfl q;exact q
  have t1:(p != 0)=true:=by simp;omega
  clear hn;go_enter func364,ntmps364;go_wp2_with fail;refine(Cp H.out OF.out).zz ?_;go_wp2;go_ret2;exact⟨rfl,rfl⟩
 ·clear hn;go_enter func364,ntmps364;go_wp2_with fail;refine(Cp H.out OF.out).zz ?_;go_wp2;go_ret2;exact⟨rfl,rfl⟩
theorem Kk{s:Int}(h:Sh w b g fl xs col):Calls prog 340 #[b,.int .i64 s] w fun e w'=>∃k:Int,e=.returned (.int .i64 k)∧Uy w' b g fl (if 0≤s∧s<(col.length:Int) then col.set s.toNat 2 else col)∧Chg (tiB b g) w w':=by
 have H:=Za h;by_cases hs:0≤s∧s<(col.length:Int)
 ·rw[if_pos hs];obtain⟨n,rfl⟩:=Int.eq_ofNat_of_zero_le hs.1;have hl:=h.len;have hn:n<xs.length:=by omega
  have c0:=h.box.c 0 _ rfl;have c1:=h.box.c 1 _ rfl;have HA:=Za (show Zoz xs.length (n:Int)=0 by unfold Zoz;rw[if_pos (by omega)]);have cn:=h.cell hn;have fn:=h.fz n;rw[Zy4];have TU:=Za (h.turn hn (v:=2) (.inr rfl) (x:=2*(fl:Int)+1) rfl);obtain⟨f1,f2⟩:=h.fl1;have w1:IntKind.u64.wrap (2*(fl:Int))=2*(fl:Int):=by rw[IntKind.wrap_u64];omega
  have w2:IntKind.u64.wrap (2*(fl:Int)+1)=2*(fl:Int)+1:=by rw[IntKind.wrap_u64];omega
  have hn0:(0:Int)≤(n:Int):=Int.natCast_nonneg _;have hn1:(n:Int)<(xs.length:Int):=by omega
  clear h hs hl;go_enter func340,ntmps340;go_wp2_with fail;refine(Jm H.out HA.out).zz ?_;go_wp2_with fail
  go_region
  go_wp2;go_ret;exact⟨0,rfl,⟨_,TU.out.1.ext (Zy2 _).drew⟩,TU.out.2.drew⟩
 ·rw[if_neg hs];have HA:=Za (show Zoz xs.length s=2 by unfold Zoz;rw[if_neg (by rw[←h.len];exact hs)]);clear h hs;go_enter func340,ntmps340;go_wp2_with fail;refine(Jm H.out HA.out).zz ?_;go_wp2;go_ret;exact⟨2,rfl,⟨_,H.out⟩,Chg.refl _ _⟩
theorem Zlz(h:Sh w b g fl xs col)(hf:fl+1<1099511627776):Calls prog 388 #[b] w fun e w'=>e=.returned (.tuple #[])∧Uy w' b g (fl+1) (List.replicate col.length 0)∧Chg (tiB b g) w w':=by
 have c1:=h.box.c 1 _ rfl;have f1:=h.box.f 1;have H:=Za h;have w1:IntKind.u64.wrap ((fl:Int)+1)=(fl:Int)+1:=by rw[IntKind.wrap_u64];omega
 clear h;go_enter func388,ntmps388;go_wp2_with fail;refine(Mj H.out).zz ?_;go_wp2
 go_end0
 have h:=H.out;have B:=h.box.set (i:=1) (by simp) (.int .u64 ((fl:Int)+1));refine⟨rfl,⟨xs,B,?_,fun o=>by rw[World.frozen?_setCell];exact h.fz o,h.ne,by rw[Zza];exact h.len,h.pos,⟨by omega,hf⟩,fun i hi=>by have:=h.bd i hi;omega,fun i hi=>?_⟩,(Chg.refl _ w).setCell (.inl (.inl rfl)) _⟩
 ·intro i hi;obtain⟨b',o,e,hc⟩:=h.row i hi;cases e;exact⟨g,0,rfl,by rw[cell_far _ _ _ _ (by exact h.ne)];exact hc⟩
 ·rw[Jk];have:=h.bd i hi;unfold Zh9;rw[if_neg (by omega),if_neg (by omega)]
theorem Zl0:(prog.info? 34).map (fun i=>(i.zero,i.size,i.bytes))=some (some (.int .u64 0),1,8):=by kernel_rfl
theorem Zl1(n:Nat)(h:n≤65536):∀W:World,(Instr.makeSlice 72 (.int .i64 (n:Int)) (.int .i64 (n:Int))).run prog W=.ok (.slice (some ⟨W.heap.size,0,none⟩) n n) (W.alloc (.cells (madeCells #[.int .u64 0] n) 34)):=by
 intro W;exact run_make_row' 72 34 (.int .u64 0) 8 underlying72 Zl0 rfl .i64 .i64 n (by omega) (by omega) W
def Zuf(n:Nat)(w:World)(e:Ending)(w':World):Prop:=
 ∃b g,e=.returned (.tuple #[.pointer (some ⟨b,0,none⟩),(0:Int)])∧Uy w' b g 1 (List.replicate n 0)∧w.heap.size≤b∧w.heap.size≤g∧Ext w w'
theorem Zqe{n:Nat}(h:1≤n∧n≤65536):Calls prog 184 #[.int .i64 n] w (Zuf n w):=by
 obtain⟨h0,h1⟩:=h;have hmk:=Zl1 n h1;have t1:decide ((n:Int)<0)=false:=Zyx (by omega);have t2:decide ((65536:Int)<n)=false:=Zyx (by omega);go_enter func184,ntmps184;go_wp2;go_ret2;have y1:=(Zy2 w).alloc (.cells (madeCells #[.int .u64 0] n) 34);have y2:=(Zy2 (w.alloc (.cells (madeCells #[.int .u64 0] n) 34))).alloc (.cells #[.slice (some ⟨w.heap.size,0,none⟩) n n,.int .u64 1] 329);have hb:Zn _ (w.heap.size+1) [.slice (some ⟨w.heap.size,0,none⟩) n n,.int .u64 1]:=Zn.new (w.alloc (.cells (madeCells #[.int .u64 0] n) 34)) [.slice (some ⟨w.heap.size,0,none⟩) n n,.int .u64 1] 329 (by simp);refine⟨w.heap.size+1,w.heap.size,rfl,⟨List.replicate n 0,?_⟩,by omega,Zy1 _,y1.trans y2⟩;have rp:∀i,i<n→nth (List.replicate n (0:Int)) i=0:=fun i hi=>by simp[nth,List.getD,hi]
 refine⟨by rw[Zza];exact hb,?_,fun o=>?_,by omega,by simp,by rw[Zza];exact⟨h0,h1⟩,by omega,fun i hi=>?_,fun i hi=>?_⟩
 ·refine At.ext (w:=w.alloc (.cells (madeCells #[.int .u64 0] n) 34)) (fun i hi=>⟨w.heap.size,0,rfl,?_⟩) y2;rw[Zza] at hi;rw[Nat.zero_add,Zg,Im hi,rp i hi]
 ·rw[y2.frozen (p:=⟨w.heap.size,o,none⟩) (by simp)];exact World.frozen?_alloc_at _ _ _ _ rfl
 ·rw[Zza] at hi;rw[rp i hi];omega
 ·rw[Zza] at hi;rw[rp i hi,Jk];rfl
end
section
variable{c:Zh}{t n:Nat}{gens wk:Int}{y:CY}{L:Nat→Prop}
structure Gar(c:Zh)(t:Nat)(y:CY)(L:Nat→Prop):Prop where
 tk:∀s,L s→s<nS c t∧Zu y.bs s=true
 clo:Clo c t y.ws y.l y.ms L
 ms:Wv c t L y.m
 sw:∀s,L s→s<y.s.at_→Zu y.s.d s=true
 ph:∀s,L s→y.ph≠0
theorem Zay{ws:List Int}{s:Nat}(h:bwd c t ws (s:Int) 0=0):(Zz c t ws s).2≠0:=by
 intro hh;have q:=(Yd hh).2.1;rw[h] at q;exact Q3 q
theorem Iw{ws:List Int}{s i:Int}(h:(U2 c t ws s i).2=0):(Zz c t ws s).2=0:=by
 unfold U2 at h;split at h
 ·rename_i q;unfold Ra at q;split at q
  ·rename_i r;exact(Qz r).1
  ·rename_i r;exact absurd q r
 ·rename_i q;exact absurd h q
theorem Lu{ws ws':List Int}{s:Nat}(h:∀j:Nat,(j:Int)<bSz c t (s:Int)→bwd c t ws' s j=bwd c t ws s j)(h0:0<bSz c t (s:Int))(i:Int):U2 c t ws' s i=U2 c t ws s i:=by
 have hh:=Xj (h 0 (by omega));have hf:Wq c t ws' s i true=Wq c t ws s i true:=by unfold Wq;rw[hh]
 have hl:Ra c t ws' s i true=Ra c t ws s i true:=by
  unfold Ra;rw[hf];split
  ·rename_i q;obtain⟨_,j,e,hj⟩:=Ws q;rw[h (1+i.toNat) (by subst e;simp;omega)]
  ·rfl
 unfold U2;rw[hl]
theorem Zqf(ho:KOk c)(ht:t<c.ts.length){ws:List Int}(hl:ws.length=Zo c){a s:Nat}(hs:s<nS c t)(i:Int):U2 c t (Uu c t ws a).1 s i=U2 c t ws s i∨(U2 c t (Uu c t ws a).1 s i).2≠0:=by
 have in':bIn c t (s:Int):=⟨by omega,by omega⟩;have s2:=(Xt ho ht in').s2;unfold Uu;split
 ·rename_i hin;by_cases e:s=a
  ·right
   intro q;have hz:=Ti ho ht hl hin in' (j:=0) (by omega);rw[if_pos (by omega)] at hz;exact Zay hz (Iw q)
  ·left
   refine Lu (fun j hj=>?_) (by omega) i;rw[Ti ho ht hl hin in' hj,if_neg (by omega)]
 ·exact .inl rfl
theorem Clo.wipe{ws:List Int}{l:List Ent}{ms:List Int}(ho:KOk c)(ht:t<c.ts.length)(hl:ws.length=Zo c)(h:Clo c t ws l ms L)(a:Nat):Clo c t (Uu c t ws a).1 l ms L:=by
 refine⟨fun s hs hn i h1 h2=>?_,h.live,h.pin⟩;rcases Zqf ho ht hl (a:=a) hs i with q|q
 ·rw[q] at h1 h2 ⊢;exact h.ref s hs hn i h1 h2
 ·exact absurd h1 q
theorem Gar.goes(h:Gar c t y L):Gar c t (Mb c t y) L:=by
 unfold Mb;split
 ·split
  ·exact⟨h.tk,h.clo,h.ms,h.sw,fun s hs=>by simp⟩
  ·exact⟨h.tk,h.clo,h.ms,h.sw,fun s hs=>by simp⟩
 ·split
  ·exact⟨h.tk,h.clo,h.ms,h.sw,fun s hs=>by simp⟩
  ·exact h
theorem Gar.made{r:CY × Bool}(h:Gar c t r.1 L):Gar c t (Nc c t r).1 L:=by
 unfold Nc;split
 ·exact Gar.goes ⟨h.tk,h.clo,h.ms,h.sw,h.ph⟩
 ·exact h
theorem Gar.sStep(hy:YOk c t n gens wk y)(h:Gar c t y L):Gar c t (sStep c t y).1 L:=by
 unfold Go.Proofs.YtfcldaembdedjaaGreatDoor.sStep;split
 ·rename_i hn;have hat:y.s.at_<y.s.d.length:=by
   have:=hy.dl;have:=hy.ko.nS_pos hy.ti;rcases hy.ps with p|p|p|p<;>omega
  split
  ·refine⟨h.tk,h.clo.wipe hy.ko hy.ti hy.wl _,h.ms,fun s hs hl=>?_,h.ph⟩
   try simp only at hl ⊢
   rw[Z8 hat];split
   ·rfl
   ·exact h.sw s hs (by omega)
  ·rename_i hw;refine⟨h.tk,h.clo,h.ms,fun s hs hl=>?_,h.ph⟩
   try simp only at hl ⊢
   by_cases e:s=y.s.at_
   ·subst e;exact absurd ⟨(h.tk _ hs).2,(h.ms.w _ hs).2⟩ hw
   ·exact h.sw s hs (by omega)
 ·exact h
theorem Gar.help(hy:YOk c t n gens wk y)(h:Gar c t y L):Gar c t (Vn c t n y).1 L:=by
 unfold Vn;refine Gar.made ?_;unfold T5;split
 ·exact⟨h.tk,h.clo,Zhy hy.ko hy.ti hy.m h.clo h.ms,h.sw,h.ph⟩
 ·split
  ·exact h.sStep hy
  ·exact h
theorem Gar.step(hy:YOk c t n gens wk y)(h:Gar c t y L)(k i:Int):Gar c t (Re c t n wk y k i).1 L:=by
 unfold Re;refine Gar.made ?_;unfold Qm;split
 ·exact⟨h.tk,h.clo,Fo hy.ko hy.ti hy.m h.clo h.ms,h.sw,h.ph⟩
 ·split
  ·exact h.sStep hy
  ·exact h
theorem Gar.fin:∀(F:Nat) {y:CY},YOk c t n gens wk y→Gar c t y L→Gar c t (Kz c t n F y).1 L
 | 0,_,_,h=>h
 | F+1,y,hy,h=>by
  unfold Kz;split
  ·exact Gar.fin F (Tr hy).ok (h.help hy)
  ·exact h
theorem Gar.freed(hy:YOk c t n gens wk y)(hp:y.ph=3)(h:Gar c t y L):∀s,L s→Zu (Xl gens y).bs s=false:=by
 intro s hs;have e:y.s.at_=nS c t:=by rcases hy.ps with p|p|p|p<;>first|omega|exact p.2.2.2
 have hd:=h.sw s hs (by rw[e];exact(h.tk s hs).1);unfold Xl;rw[if_pos hp]
 try simp only
 unfold Wz;rw[if_pos (fun i _ hi=>(hy.dm i hi).2.1)]
 try simp only
 rw[N4,hd];simp
theorem Zqg{gens:Int}(l:List Ent)(i:Nat)(h:i<l.length):Zx (Y4 gens l) i=Om gens (Zx l i):=by
 unfold Zx Y4;simp[List.getD,h]
theorem Jn{l:List Ent}{i:Nat}(h:l.length≤i):Zx l i=Zxb:=by unfold Zx;simp[h]
theorem Zib(hy:YOk c t n gens wk y)(hp:y.ph=3):YOk c t n gens wk (Xl gens y)∧(Xl gens y).ph=0∧(Xl gens y).l.length=y.l.length:=by
 have pc:y.m.act=true∧y.s.act=true∧y.s.at_=nS c t:=by rcases hy.ps with p|p|p|p<;>first|omega|exact p.2
 have ga:Wz y.bs y.s.d=(Dy y.bs y.s.d,0):=by unfold Wz;rw[if_pos (fun i _ hi=>(hy.dm i hi).2.1)]
 have nd:noD (List.replicate y.s.d.length false):=fun s=>Uv _ _
 have ll:(Y4 gens y.l).length=y.l.length:=by unfold Y4;simp
 have ent:∀i,(Zx (Y4 gens y.l) i=Zx y.l i)∨(i<y.l.length∧(Zx y.l i).st=2∧Zx (Y4 gens y.l) i=Om gens (Zx y.l i)):=by
  intro i;by_cases q:i<y.l.length
  ·rw[Zqg _ _ q];by_cases r:(Zx y.l i).st=2
   ·exact .inr ⟨q,r,rfl⟩
   ·left;unfold Om;rw[if_neg r]
  ·left;rw[Jn (by omega),Jn (by omega)]
 unfold Xl;rw[if_pos hp,ga];refine⟨⟨⟨hy.ko,hy.ti,hy.wl,hy.wo,by (try simp only);rw[Ii];exact hy.bl,hy.ml,⟨hy.m.cl,hy.m.g,hy.m.d,hy.m.hd,?_⟩,hy.hl,hy.h0,?_,?_,?_,?_,hy.ro,by (try simp only);rw[Zza];exact hy.dl,.inl ⟨rfl,rfl,rfl,rfl,nd⟩,?_,fun q=>(by rcases q with q|q<;>cases q)⟩,fun q=>(by cases q),fun q=>(by cases q)⟩,rfl,ll⟩
 ·have:=hy.m.rt;unfold Xy at this ⊢;simp only[ll];exact this
 ·intro i hi
  try simp only at hi ⊢
  rcases ent i with q|⟨_,q1,q2⟩
  ·rw[q] at hi ⊢;exact hy.live i hi
  ·rw[q2] at hi;unfold Om at hi;rw[if_pos q1] at hi;split at hi<;>cases hi
 ·intro i hi;simp only[ll] at hi ⊢;have g:=hy.gen i hi;rcases ent i with q|⟨_,q1,q2⟩
  ·rw[q];exact g
  ·rw[q2];unfold Om;rw[if_pos q1];split
   ·exact⟨g.1,g.2.1,Zy1 3⟩
   ·exact⟨by (try simp only);omega,by (try simp only);omega,by simp⟩
 ·intro s hs hb
  try simp only at hb ⊢
  rw[N4] at hb;cases hd:Zu y.s.d s
  ·exact hy.fh s hs (by rw[hd] at hb;simpa using hb)
  ·exact(hy.dm s hd).2.2
 ·intro s hs;simp only at hs;rw[nd s] at hs;cases hs
 ·have:=hy.st.1;unfold Z7 at this ⊢;simp only[ll];exact this
theorem Ztg(ho:KOk c)(ht:t<c.ts.length):∀k,k≤c.cl.length→(Se (szN c t) (sS c t k).toNat:Int)≤sG c t k*c.page
 | 0,_=>by simp[sS,sG,Yu,Se]
 | k+1,hk=>by
  have ih:=Ztg ho ht k (by omega);have bd:=ho.bounds ht (k:=k) (by omega);have e1:sS c t (k+1)=sS c t k+Zl c t k:=rfl;have e2:sG c t (k+1)=sG c t k+Zp c t k:=rfl;have s0:=ho.sS_le ht (k:=k) (by omega);have s1:=bd.s1;obtain⟨a,ha⟩:∃a:Nat,sS c t k=a:=⟨(sS c t k).toNat,by omega⟩;obtain⟨m,hm⟩:∃m:Nat,Zl c t k=m:=⟨(Zl c t k).toNat,by omega⟩;have sl:=Rx ho ht (a:=k+1) (b:=c.cl.length) hk (Zy1 _);have ns:=ho.nS_eq ht;have key:Se (fun i=>szN c t (a+i)) m=(nth c.cl k).toNat*m:=by
   rw[←Uj];refine Rf m fun i hi=>?_
   have at_:Yk c t ((a+i:Nat):Int) k:=⟨by omega,by omega,by omega⟩;unfold szN bSz;rw[at_.kOf ho ht]
  have e3:(sS c t (k+1)).toNat=a+m:=by omega
  rw[e3,Fl,key,e2,Int.add_mul];rw[ha] at ih;have c2:=bd.c2;have h1:(((nth c.cl k).toNat*m:Nat):Int)=nth c.cl k*(m:Int):=by rw[Int.natCast_mul,Int.toNat_of_nonneg (by omega)]
  have pl:=Zfi (c:=c) (k:=k) c2;have pg:Zl c t k≤Zp c t k*Zw c k:=by
   have p1:=bd.per1;unfold Zp;have:=Int.lt_ediv_add_one_mul_self (Zl c t k+Zw c k-1) (show 0<Zw c k by omega);rw[Int.add_mul] at this;omega
  have h2:nth c.cl k*(m:Int)≤Zp c t k*c.page:=by
   have a1:=Int.mul_le_mul_of_nonneg_left (c:=nth c.cl k) pg (by omega);have a2:=Int.mul_le_mul_of_nonneg_left (c:=Zp c t k) pl (by have:=bd.pg1;omega);rw[hm] at a1;have a3:nth c.cl k*(Zp c t k*Zw c k)=Zp c t k*(Zw c k*nth c.cl k):=by
    rw[Int.mul_comm (nth c.cl k),Int.mul_assoc]
   omega
  simp only[Zy4] at ih;omega
theorem Zwd(ho:KOk c)(ht:t<c.ts.length):Se (szN c t) (nS c t)≤Z0 c t∧2*nS c t≤Z0 c t:=by
 have h1:=Ztg ho ht c.cl.length (Zy1 _);rw[←Tv ho ht] at h1;have h2:Se (fun _=>2) (nS c t)≤Se (szN c t) (nS c t):=Cl _ fun i hi=>(Me ho ht hi).2.1
 rw[Uj] at h2;have e:(sS c t c.cl.length).toNat=nS c t:=rfl;rw[e] at h1;omega
theorem Zaz(ho:KOk c)(ht:t<c.ts.length){l:List Ent}(m:MK):MOk c t n l (Rd c t m)∧Sf c t l (Rd c t m)=Xy c t l+Se (fun s=>33+szN c t s) (nS c t):=by
 unfold Rd;refine⟨⟨by simp,N6 n,fun s _ hb=>?_,fun k=>by (try simp only);rw[Rh];exact Zlm,Nat.zero_le _⟩,?_⟩
 ·simp only[Ql] at hb;rw[Uv] at hb;cases hb
 ·unfold Sf Zdh Zat Zp0 Zp1 Ql;simp only[Zp2,Ztb];have h1:Se (fun s=>if Ip (List.replicate (nS c t) 0) s=0 then 33+szN c t s else 0) (nS c t)=Se (fun s=>33+szN c t s) (nS c t):=Rf _ fun i _=>by rw[Jk,if_pos rfl]
  have h2:Se (fun s=>if Zu (List.replicate (nS c t) false) s=true then szN c t s else 0) (nS c t)=0:=by
   rw[Rf (g:=fun _=>0) _ fun i _=>by rw[Uv];rfl,Uj];omega
  have h3:Se (fun s=>if Zu (List.replicate (nG c t) false) s=true then 32 else 0) (nG c t)=0:=by
   rw[Rf (g:=fun _=>0) _ fun i _=>by rw[Uv];rfl,Uj];omega
  rw[h1,h2,h3];omega
theorem Zqh(hy:YOk c t n gens wk y)(hp:y.ph=0):YOk c t n gens wk (Tf c t y)∧(Tf c t y).ph=1∧(Tf c t y).steps=0∧(Tf c t y).l=y.l:=by
 have pc:y.m.act=false∧y.s.act=false∧y.s.at_=0∧noD y.s.d:=by rcases hy.ps with p|p|p|p<;>first|omega|exact p.2
 obtain⟨m1,m2⟩:=Zaz (n:=n) hy.ko hy.ti (l:=y.l) y.m;obtain⟨z1,z2⟩:=Zwd hy.ko hy.ti;have ns:=hy.ko.nS_pos hy.ti;have hphi:Zvr c t { y with m:=Rd c t y.m,ph:=1,steps:=0 }≤Z7 c t y.l:=by
  unfold Zvr Z7
  try simp only
  rw[m2,Zfp,Uj,pc.2.2.1];unfold Xy;omega
 unfold Tf;rw[if_pos hp];refine⟨⟨⟨hy.ko,hy.ti,hy.wl,hy.wo,hy.bl,hy.ml,m1,by simp only[Rd,Zza];exact hy.hl,hy.h0,hy.live,hy.gen,hy.fh,hy.dm,hy.ro,hy.dl,.inr (.inl ⟨rfl,rfl,pc.2⟩),⟨Nat.zero_le _,fun _=>by rw[Nat.zero_add];exact hphi⟩⟩,fun _=>?_,fun q=>(by cases q)⟩,rfl,rfl,rfl⟩;show Tz c t y.l (Rd c t y.m)=false
 unfold Tz Rd Xy
 try simp only
 rw[Zyx (p:=0=y.l.length+nS c t) (by omega)];simp
theorem Gar.begun(hy:YOk c t n gens wk y)(hp:y.ph=0)(h1:∀s,L s→s<nS c t∧Zu y.bs s=true)(h2:Clo c t y.ws y.l y.ms L):Gar c t (Tf c t y) L:=by
 have pc:y.m.act=false∧y.s.act=false∧y.s.at_=0∧noD y.s.d:=by rcases hy.ps with p|p|p|p<;>first|omega|exact p.2
 unfold Tf;rw[if_pos hp];refine⟨h1,h2,⟨fun s hs=>⟨(h1 s hs).1,Jk _ _⟩,⟨fun x hx=>(by cases hx),fun s hs=>?_⟩,fun k hk=>?_⟩,fun s _ hl=>?_,fun _ _=>by simp⟩
 ·simp only[Rd,Ql] at hs;rw[Uv] at hs;cases hs
 ·simp only[Rd] at hk;rw[Rh] at hk;cases hk
 ·simp only at hl;omega
end
section
variable{c:Zh}{t n:Nat}{gens wk:Int}{y:CY}{L:Nat→Prop}{ws:List Int}
theorem Fr(ho:KOk c)(ht:t<c.ts.length)(hl:ws.length=Zo c){a s:Nat}{hd:Hd}(hs:s<nS c t)(hne:s≠a):Zz c t (Ug c t ws a hd).1 s=Zz c t ws s:=by
 have in':bIn c t (s:Int):=⟨by omega,by omega⟩;have s2:=(Xt ho ht in').s2;unfold Ug;split
 ·rename_i q;split
  ·rfl
  ·refine Xj ?_;rw[Lh ho ht hl q.1 in' (by omega),if_neg (by omega)]
 ·rfl
theorem Zqi(ho:KOk c)(ht:t<c.ts.length)(hl:ws.length=Zo c){a s:Nat}{hd:Hd}(hs:s<nS c t)(i:Int):U2 c t (Ug c t ws a hd).1 s i=U2 c t ws s i∨(U2 c t (Ug c t ws a hd).1 s i).2≠0∨(U2 c t (Ug c t ws a hd).1 s i).1<0:=by
 have in':bIn c t (s:Int):=⟨by omega,by omega⟩;have s2:=(Xt ho ht in').s2;unfold Ug;split
 ·rename_i q;split
  ·exact .inl rfl
  ·by_cases e:s=a
   ·subst e
    right
    by_cases hr:(U2 c t ((Sg ws (bAt c t s 0) (bSz c t s).toNat).set (bAt c t s 0) (Uq hd)) s i).2=0
    ·right
     have hh:=Iw hr;have hr2:=hr;unfold U2 at hr2 ⊢;split at hr2
     ·rename_i q1;rw[if_pos q1];split at hr2
      ·cases hr2
      ·rename_i q2;rw[if_neg q2];have q3:=q1;unfold Ra at q3;split at q3
       ·rename_i q4;obtain⟨_,j,e,hj⟩:=Ws q4;unfold Ra;rw[if_pos q4];subst e;simp only[Zy4];rw[Lh ho ht hl q.1 in' (by omega),if_pos rfl,if_neg (by omega)];omega
       ·rename_i q4;exact absurd q3 q4
     ·rename_i q1;exact absurd hr2 q1
    ·exact .inl hr
   ·left
    refine Lu (fun j hj=>?_) (by omega) i;rw[Lh ho ht hl q.1 in' hj,if_neg (by omega)]
 ·exact .inl rfl
theorem Lv(ho:KOk c)(ht:t<c.ts.length)(hl:ws.length=Zo c){s i x:Int}{ref:Bool}(s':Nat)(hs:s'<nS c t):Zz c t (Wk c t ws s i ref x).1 s'=Zz c t ws s':=by
 have in':bIn c t (s':Int):=⟨by omega,by omega⟩;have s2:=(Xt ho ht in').s2;unfold Wk;split
 ·rename_i q;obtain⟨hin,j,rfl,hj⟩:=Ws q;refine Xj ?_;simp only[Zy4];rw[Ic ho ht hl hin in' (by omega) (by omega),if_neg (by omega)]
 ·rfl
theorem Zl2(ho:KOk c)(ht:t<c.ts.length)(hl:ws.length=Zo c){s i x:Int}{ref:Bool}(s':Nat)(hs:s'<nS c t)(k:Int):U2 c t (Wk c t ws s i ref x).1 s' k=U2 c t ws s' k ∨
  (ref=true∧((U2 c t (Wk c t ws s i ref x).1 s' k).2≠0∨(U2 c t (Wk c t ws s i ref x).1 s' k).1=x-1)):=by
 have hh:=Lv ho ht hl (s:=s) (i:=i) (x:=x) (ref:=ref) s' hs;have in':bIn c t (s':Int):=⟨by omega,by omega⟩;unfold Wk at hh ⊢;split
 ·rename_i q;rw[if_pos q] at hh
  try simp only at hh ⊢
  obtain⟨hin,j,rfl,hj⟩:=Ws q;simp only[Zy4] at hh ⊢;have hf:Wq c t (ws.set (bAt c t s (1+j)) x) s' k true=Wq c t ws s' k true:=by unfold Wq;rw[hh]
  unfold U2 Ra;rw[hf];by_cases qf:Wq c t ws s' k true=0
  ·rw[if_pos qf,if_pos qf]
   try simp only
   obtain⟨_,m,rfl,hm⟩:=Ws qf;simp only[Zy4];rw[Ic ho ht hl hin in' (by omega) (by omega)];by_cases e:(s':Int)=s∧1+m=1+j
   ·right
    rw[if_pos e];obtain⟨e1,e2⟩:=e;obtain rfl:m=j:=by omega
    rw[e1] at qf;refine⟨?_,?_⟩
    ·have f1:=(Uh (Qz q).2).2.2.2;have f2:=(Uh (Qz qf).2).2.2.2;rw[f1,←f2]
    ·rw[if_pos trivial];split
     ·exact .inl (by simp)
     ·exact .inr rfl
   ·left;rw[if_neg e]
  ·left;simp only[if_neg qf]
 ·exact .inl rfl
theorem Zfu{bs:List Bool}{s:Nat}(h:Zu bs s=true):∀m,s<m→1≤Dz bs m
 | 0,hm=>absurd hm (Zzb _)
 | m+1,hm=>by
  rw[Pa];by_cases e:s=m
  ·subst e;rw[h];simp
  ·have:=Zfu h m (by omega);omega
theorem Zl3{g:GS}(hg:GOk c t n g){s:Nat}(hs:s<nS c t):N5 (Zck c t n g s).1=false:=by
 unfold Zck;rw[if_neg (by omega)];split
 ·unfold N5;simp
 ·unfold N5;rw[decide_eq_false_iff_not];rintro ⟨_,_,q⟩;unfold Zk8 at q;simp only[List.length_set,Zy4] at q;have hl:s<g.ow.length:=by rw[hg.ol];exact hs
  have:=Zfu (bs:=g.ow.set s true) (s:=s) (by rw[Z8 hl,if_pos rfl]) g.ow.length hl;omega
theorem Zic{l:List Ent}{m:MK}(hm:MOk c t n l m)(h:Tz c t l m=false)(s:Int):Tz c t l (Xi c t n m s)=false:=by
 unfold Xi;split
 ·rename_i q;obtain⟨x,rfl⟩:∃x:Nat,s=x:=⟨s.toNat,by omega⟩;unfold Tz
  try simp only
  rw[Zl3 hm.g (by omega)];simp
 ·exact h
theorem Zid{l:List Ent}{m:MK}(h:Tz c t l m=false)(s:Int):Tz c t l (Yf c t m s)=false:=by
 unfold Yf;split
 ·exact h
 ·exact h
theorem Zie{m:MK}(s:Int):(Xi c t n m s).hs.length=m.hs.length:=by rw[(Wx m s).1]
structure Ph(c:Zh)(t n:Nat)(l:List Ent)(m m':MK):Prop where
 ok:MOk c t n l m→MOk c t n l m'
 phi:MOk c t n l m→Sf c t l m'≤Sf c t l m
 len:m'.hs.length=m.hs.length
 act:m'.act=m.act
 fl:m'.fl=m.fl
 done:MOk c t n l m→Tz c t l m=false→Tz c t l m'=false
theorem Ph.refl(l:List Ent)(m:MK):Ph c t n l m m:=⟨id,fun _=>Zy1 _,rfl,rfl,rfl,fun _=>id⟩
theorem Ph.shade(ho:KOk c)(ht:t<c.ts.length)(l:List Ent)(m:MK)(s:Int):Ph c t n l m (Xi c t n m s):=
 ⟨fun q=>(Mg ho ht q s).1,fun q=>(Mg ho ht q s).2,Zie s,(Wx m s).2.2.1,(Wx m s).2.2.2.2,fun q r=>Zic q r s⟩
theorem Ph.black(l:List Ent)(m:MK)(s:Int):Ph c t n l m (Yf c t m s):=
 ⟨fun q=>(Mh q s).1,fun q=>(Mh q s).2,by rw[(T8 m s).1],(T8 m s).2.2.1,(T8 m s).2.2.2.2,fun _ r=>Zid r s⟩
theorem YOk.turn(h:YOk c t n gens wk y){ws':List Int}{bs':List Bool}{l':List Ent}{ms':List Int}{m':MK}(wl:ws'.length=Zo c)(wo:WOk ws')(bl:bs'.length=nS c t)(ml:ms'.length=nS c t)
  (hm:Ph c t n y.l y.m m') (hl:l'.length=y.l.length) (live:∀i,(Zx l' i).st=1→0≤(Zx l' i).s∧(Zx l' i).s<(nS c t:Int)) (gen:∀i,i<l'.length→1≤(Zx l' i).g∧(Zx l' i).g≤gens∧(Zx l' i).st≤3)
  (fh:∀s:Nat,s<nS c t→Zu bs' s=false→(Zz c t ws' s).2≠0) (dm:∀s:Nat,Zu y.s.d s=true→Zu bs' s=true∧(Zz c t ws' s).2≠0) (ro:Q7 c t ws') :
  YOk c t n gens wk { y with ws:=ws',bs:=bs',l:=l',ms:=ms',m:=m' }:=by
 have r:Xy c t l'=Xy c t y.l:=by unfold Xy;rw[hl]
 have mo:MOk c t n l' m':=by have q:=hm.ok h.m;exact⟨q.cl,q.g,q.d,q.hd,by rw[r];exact q.rt⟩
 have ph:Sf c t l' m'≤Sf c t y.l y.m:=by
  have q:=hm.phi h.m;have e:Sf c t l' m'=Sf c t y.l m':=by unfold Sf;rw[r]
  omega
 have ym:Z7 c t l'=Z7 c t y.l:=by unfold Z7;rw[hl]
 have act:=hm.act;refine⟨⟨h.ko,h.ti,wl,wo,bl,ml,mo,by (try simp only);rw[hm.len];exact h.hl,h.h0,live,gen,fh,fun s hs=>⟨(h.dm s hs).1,dm s hs⟩,ro,h.dl,?_,⟨by (try simp only);rw[ym];exact h.st.1,fun q=>?_⟩⟩,fun q=>?_,h.on2⟩
 ·(try simp only);rw[act];exact h.ps
 ·have:=h.st.2 q;unfold Zvr at this ⊢
  try simp only
  rw[ym];omega
 ·have e:Tz c t l' m'=Tz c t y.l m':=by unfold Tz;rw[r]
  (try simp only);rw[e];exact hm.done h.m (h.on1 q)
theorem Zdp(h:YOk c t n gens wk y)(s:Int):∃m',Y5 c t n y s={ y with m:=m' }∧Ph c t n y.l y.m m'∧(∀L:Nat→Prop,¬L s.toNat→Wv c t L y.m→Wv c t L m'):=by
 unfold Y5;split
 ·exact⟨_,rfl,Ph.shade h.ko h.ti _ _ s,fun L q k=>Nd h.m.cl k q⟩
 ·exact⟨y.m,rfl,Ph.refl _ _,fun _ _ k=>k⟩
theorem Zdq(h:MOk c t n y.l y.m)(s:Int):∃m',Mc c t y s={ y with m:=m' }∧Ph c t n y.l y.m m'∧(∀L:Nat→Prop,¬L s.toNat→Wv c t L y.m→Wv c t L m'):=by
 unfold Mc;split
 ·exact⟨_,rfl,Ph.black _ _ s,fun L q k=>Iq h.cl k q⟩
 ·exact⟨y.m,rfl,Ph.refl _ _,fun _ _ k=>k⟩
end
section
variable{c:Zh}{t n:Nat}{gens wk:Int}{L:Nat→Prop}{a d F:Nat}{x:HP}
structure HOk(c:Zh)(t n:Nat)(gens wk:Int)(a d:Nat)(x:HP):Prop where
 y:YOk c t n gens wk x.y
 pa:x.p.act=decide (x.y.ph≠0)
 tr:1≤x.p.tr∧x.p.tr≤1048576
 ss:0≤x.p.sst∧x.p.sst≤1024
 si:0≤x.p.since∧x.p.since≤64*a
 to:0≤x.p.total∧x.p.total≤64*a
 de:0≤x.p.debt∧x.p.debt≤65536*a
 na:x.p.act=false→x.p.debt=0
 cy:0≤x.p.cyc∧x.p.cyc≤d
 fl:1≤x.y.m.fl∧x.y.m.fl≤d+1
theorem HOk.mono{d':Nat}(h:HOk c t n gens wk a d x)(q:d≤d'):HOk c t n gens wk a d' x:=
 ⟨h.y,h.pa,h.tr,h.ss,h.si,h.to,h.de,h.na,⟨h.cy.1,by have:=h.cy.2;omega⟩,⟨h.fl.1,by have:=h.fl.2;omega⟩⟩
theorem HOk.act0(h:HOk c t n gens wk a d x)(q:x.y.ph=0):x.p.act=false:=by rw[h.pa,q];rfl
theorem HOk.act1(h:HOk c t n gens wk a d x)(q:x.y.ph≠0):x.p.act=true:=by rw[h.pa,Zyy q]
theorem Gar.empty{y:CY}(hL:∀s,¬L s):Gar c t y L:=
 ⟨fun s h=>absurd h (hL s),⟨fun _ _ _ _ _ _=>hL _,fun _ _=>hL _,fun _ _=>hL _⟩,⟨fun s h=>absurd h (hL s),⟨fun _ _=>hL _,fun _ _=>hL _⟩,fun _ _=>hL _⟩,fun s h=>absurd h (hL s),fun s h=>absurd h (hL s)⟩
theorem Gar.idle{y:CY}(h:Gar c t y L)(q:y.ph=0):∀s,¬L s:=fun s hs=>h.ph s hs q
structure Zyp(c:Zh)(t n:Nat)(gens wk:Int)(a d:Nat)(x z:HP):Prop where
 ok:HOk c t n gens wk a (d+1) z
 ph:z.y.ph=0
 work:z.work+x.y.steps≤x.work+Z7 c t x.y.l
 len:z.y.l.length=x.y.l.length
 cyc:z.p.cyc=x.p.cyc+1
 bs:∀s,Zu x.y.bs s=false→Zu z.y.bs s=false
 gar:∀L,Gar c t x.y L→∀s,L s→Zu z.y.bs s=false
theorem Iy(h:HOk c t n gens wk a d x)(hp:x.y.ph≠0)(hF:Z7 c t x.y.l<F):Zyp c t n gens wk a d x (Ck c t n gens F x):=by
 have f:=Zdk F h.y (by omega);have p3:=f.ph hp;obtain⟨p1,p2,p4⟩:=Zib f.ok p3;have ac:=h.act1 hp;have pe:Zwa x.p={ x.p with act:=false,since:=0,debt:=0,cyc:=x.p.cyc+1 }:=by unfold Zwa;rw[if_pos ac]
 have fs:=f.steps;have fo:=f.ok.st.1;rw[f.l] at fo;unfold Ck;rw[pe];refine⟨⟨p1,by (try simp only);rw[p2];rfl,h.tr,h.ss,⟨Int.le_refl _,by (try simp only);omega⟩,h.to,⟨Int.le_refl _,by (try simp only);omega⟩,fun _=>rfl,?_,?_⟩,p2,by (try simp only);omega,by (try simp only);rw[p4,f.l],rfl,fun s hs=>?_,fun L hg=>?_⟩
 ·have:=h.cy;(try simp only);omega
 ·have e:(Xl gens (Kz c t n F x.y).1).m.fl=x.y.m.fl:=by
   unfold Xl;rw[if_pos p3];exact f.fl
  have:=h.fl;(try simp only);rw[e];omega
 ·simp only;unfold Xl;rw[if_pos p3]
  try simp only
  unfold Wz;split
  ·rw[N4,f.bs,hs];rfl
  ·rw[f.bs];exact hs
 ·exact(hg.fin F h.y).freed f.ok p3
structure Zwe(c:Zh)(t n:Nat)(gens wk:Int)(a d:Nat)(x z:HP):Prop where
 ok:HOk c t n gens wk a (d+1) z
 ph:z.y.ph=1
 steps:z.y.steps=0
 l:z.y.l=x.y.l
 bs:z.y.bs=x.y.bs
 ws:z.y.ws=x.y.ws
 ms:z.y.ms=x.y.ms
 work:z.work=x.work
 cyc:z.p.cyc=x.p.cyc
 act:z.p.act=true
 since:z.p.since=0
 gar:∀L:Nat→Prop,(∀s,L s→s<nS c t∧Zu x.y.bs s=true)→Clo c t x.y.ws x.y.l x.y.ms L→Gar c t z.y L
theorem Pi(h:HOk c t n gens wk a d x)(hp:x.y.ph=0):Zwe c t n gens wk a d x (Vi c t x):=by
 obtain⟨b1,b2,b3,b4⟩:=Zqh h.y hp;have ac:=h.act0 hp;have pe:Zar x.p={ x.p with act:=true,since:=0,debt:=0 }:=by unfold Zar;rw[ac,if_neg (by simp)]
 unfold Vi;rw[pe];refine⟨⟨b1,by (try simp only);rw[b2];rfl,h.tr,h.ss,⟨Int.le_refl _,by (try simp only);omega⟩,h.to,⟨Int.le_refl _,by (try simp only);omega⟩,fun _=>rfl,?_,?_⟩,b2,b3,b4,?_,?_,?_,rfl,rfl,rfl,rfl,fun L h1 h2=>Gar.begun h.y hp h1 h2⟩
 ·have:=h.cy;(try simp only);omega
 ·have e:(Tf c t x.y).m.fl=x.y.m.fl+1:=by unfold Tf;rw[if_pos hp];rfl
  have:=h.fl;(try simp only);rw[e];omega
 all_goals (show _=_;(try simp only);unfold Tf;rw[if_pos hp])
structure Zwf(c:Zh)(t n:Nat)(gens wk:Int)(a d:Nat)(x z:HP):Prop where
 ok:HOk c t n gens wk a (d+3) z
 len:z.y.l.length=x.y.l.length
 or:z=x∨(z.y.ph=0∧x.p.cyc<z.p.cyc∧z.work≤x.work+2*Z7 c t x.y.l∧∀L,Gar c t x.y L→∀s,L s→Zu z.y.bs s=false)
theorem Cr(is:CY→Bool)(h:HOk c t n gens wk a d x)(hF:Z7 c t x.y.l<F):Zwf c t n gens wk a d x (T6 c t n gens F is x):=by
 have k1:HOk c t n gens wk a (d+1) (Vj c t n gens F is x)∧(Vj c t n gens F is x).y.l.length=x.y.l.length ∧
   ((Vj c t n gens F is x=x∧(is x.y=false→x.y.ph=0))∨((Vj c t n gens F is x).y.ph=0∧x.p.cyc<(Vj c t n gens F is x).p.cyc∧(Vj c t n gens F is x).work≤x.work+Z7 c t x.y.l∧∀L,Gar c t x.y L→∀s,L s→Zu (Vj c t n gens F is x).y.bs s=false)):=by
  unfold Vj;split
  ·rename_i q;have e:=Iy h q.2 hF;exact⟨e.ok,e.len,.inr ⟨e.ph,by rw[e.cyc];omega,by have:=e.work;omega,e.gar⟩⟩
  ·rename_i q;refine⟨h.mono (by omega),rfl,.inl ⟨rfl,fun r=>?_⟩⟩;by_cases z:x.y.ph=0
   ·exact z
   ·exact absurd ⟨r,z⟩ q
 obtain⟨o1,l1,r1⟩:=k1;unfold T6
 generalize Vj c t n gens F is x=x1 at o1 l1 r1 ⊢
 split
 ·rename_i q;have p0:x1.y.ph=0:=by
   rcases r1 with ⟨e,r⟩|r
   ·rw[e] at q ⊢;exact r q
   ·exact r.1
  have b:=Pi o1 p0;have ym:Z7 c t (Vi c t x1).y.l=Z7 c t x.y.l:=by unfold Z7;rw[b.l,l1]
  have e:=Iy b.ok (by rw[b.ph];simp) (by rw[ym];exact hF);refine⟨e.ok,by rw[e.len,b.l,l1],.inr ⟨e.ph,?_,?_,fun L hg s hs=>?_⟩⟩
  ·rw[e.cyc,b.cyc];rcases r1 with ⟨r,_⟩|r
   ·rw[r];omega
   ·have:=r.2.1;omega
  ·have w:=e.work;rw[ym,b.work] at w;rcases r1 with ⟨r,_⟩|r
   ·rw[r] at w ⊢;omega
   ·have:=r.2.2.1;omega
  ·rcases r1 with ⟨r,_⟩|r
   ·rw[r] at p0;exact absurd hs (hg.idle p0 s)
   ·refine e.bs s ?_;rw[b.bs];exact r.2.2.2 L hg s hs
 ·refine⟨o1.mono (by omega),l1,?_⟩;rcases r1 with ⟨r,_⟩|r
  ·exact .inl r
  ·exact .inr ⟨r.1,r.2.1,by have:=r.2.2.1;omega,r.2.2.2⟩
structure Zug(c:Zh)(t n:Nat)(gens wk:Int)(a d:Nat)(x z:HP):Prop where
 ok:HOk c t n gens wk a d z
 no:¬(0<z.p.debt∧(Vn c t n z.y).2=true)
 work:z.work+x.y.steps=x.work+z.y.steps
 l:z.y.l=x.y.l
 bs:z.y.bs=x.y.bs
 cyc:z.p.cyc=x.p.cyc
 since:z.p.since=x.p.since
 gar:∀L,Gar c t x.y L→Gar c t z.y L
 idle:x.y.ph=0→z=x
 ph:x.y.ph≠0→z.y.ph≠0
theorem Zl4(h:YOk c t n gens wk x.y)(hh:(Vn c t n x.y).2=true):x.y.ph≠0:=by
 intro e;unfold Vn Nc T5 at hh;simp[e] at hh
theorem Oa:∀(F:Nat) {x:HP},HOk c t n gens wk a d x→Z7 c t x.y.l<F+x.y.steps→Zug c t n gens wk a d x (Vd c t n F x)
 | 0,x,h,hF=>absurd h.y.st.1 (by omega)
 | F+1,x,h,hF=>by
  unfold Vd;split
  ·rename_i q;have md:=Tr h.y;have s1:=md.yes q.2;have pn:=Zl4 h.y q.2;have pn2:=md.ph pn;have h1:HOk c t n gens wk a d ⟨(Vn c t n x.y).1,Zlj x.p 1,x.work+1⟩:=by
    have de:=h.de;refine⟨md.ok,?_,h.tr,h.ss,h.si,h.to,?_,?_,h.cy,?_⟩
    ·show x.p.act=_;rw[h.act1 pn];exact(Zyy pn2).symm
    ·unfold Zlj;(try simp only);split<;>omega
    ·intro q2;exact absurd (h.act1 pn) (by rw[show x.p.act=false from q2];simp)
    ·(try simp only);rw[md.fl];exact h.fl
   have g:=Oa F h1 (by (try simp only);rw[md.l,s1];omega);refine⟨g.ok,g.no,?_,by rw[g.l];exact md.l,by rw[g.bs];exact md.bs,by rw[g.cyc];rfl,by rw[g.since];rfl,fun L hg=>g.gar L (hg.help h.y),fun e=>absurd e pn,fun _=>g.ph pn2⟩;have:=g.work;simp only at this;omega
  ·rename_i q;exact⟨h,q,rfl,rfl,rfl,rfl,rfl,fun _ hg=>hg,fun _=>rfl,id⟩
structure Zwg(c:Zh)(t n:Nat)(gens wk:Int)(a d:Nat)(x z:HP):Prop where
 ok:HOk c t n gens wk a (d+1) z
 len:z.y.l.length=x.y.l.length
 work:(x.y.ph=0→z.work=x.work)∧z.work+x.y.steps≤x.work+Z7 c t x.y.l
 gar:∀L,Gar c t x.y L→(z.p.cyc=x.p.cyc∧Gar c t z.y L)∨(x.p.cyc<z.p.cyc∧∀s,L s→Zu z.y.bs s=false)
 bs:∀s,Zu x.y.bs s=false→Zu z.y.bs s=false
 cyc:x.p.cyc≤z.p.cyc
 begun:z.p.act=true→z.p.since=0→z.y.ph=1∧∀L:Nat→Prop,(∀s,L s→s<nS c t∧Zu z.y.bs s=true)→Clo c t z.y.ws z.y.l z.y.ms L→Gar c t z.y L
theorem Zl5{k:Int}(h:HOk c t n gens wk a d x)(hk:1≤k∧k≤64)(hF:Z7 c t x.y.l<F):Zwg c t n gens wk (a+1) d x (Pf c t n gens F x k):=by
 have si:=h.si;have to:=h.to;have de:=h.de;have ss:=h.ss;have tr:=h.tr;have ks:0≤k*x.p.sst∧k*x.p.sst≤65536:=by
  refine⟨Int.mul_nonneg (by omega) ss.1,?_⟩;have h1:=Int.mul_le_mul_of_nonneg_right (c:=x.p.sst) hk.2 ss.1;omega
 have ask:∀s':Int,(s'=0∨s'=x.p.since+k)→HOk c t n gens wk (a+1) d { x with p:={ x.p with since:=s',total:=x.p.total+k,debt:=if x.p.act then x.p.debt+k*x.p.sst else x.p.debt } }:=by
  intro s' hs;refine⟨h.y,h.pa,tr,ss,?_,by (try simp only);omega,?_,fun q=>?_,h.cy,h.fl⟩
  ·(try simp only);rcases hs with rfl|rfl<;>omega
  ·(try simp only);split<;>omega
  ·simp only at q ⊢;rw[q,if_neg (by simp)];exact h.na q
 unfold Pf Zdg;split
 ·rename_i q
  try simp only
  rw[if_neg (by decide),if_neg (by decide)];have g:=Oa F (ask _ (.inr rfl)) (by (try simp only);omega);refine⟨g.ok.mono (by omega),by rw[g.l],⟨fun e=>by rw[g.idle e],?_⟩,fun L hg=>.inl ⟨by rw[g.cyc],g.gar L hg⟩,fun s hs=>by rw[g.bs];exact hs,by rw[g.cyc];exact Int.le_refl _,fun _ q2=>?_⟩
  ·have w:=g.work;have o:=g.ok.y.st.1;rw[g.l] at o;simp only at w o;omega
  ·rw[g.since] at q2;simp only at q2;omega
 ·rename_i q
  try simp only
  have g:=Oa F (ask _ (.inl rfl)) (by (try simp only);omega);have w:=g.work;have o:=g.ok.y.st.1;rw[g.l] at o
  try simp only at w o
  generalize Vd c t n F _=z at g w o ⊢
  by_cases ac:x.p.act=true;rotate_left
  ·rw[if_neg ac,if_pos rfl];have ac':x.p.act=false:=by simpa using ac
   have p0:x.y.ph=0:=by
    have:=h.pa;rw[ac'] at this;have:=Zy8 this.symm;exact Decidable.byContradiction this
   have gi:=g.idle p0;have b:=Pi g.ok (by rw[gi];exact p0);refine⟨b.ok,by rw[b.l,g.l],⟨fun _=>by rw[b.work,gi],?_⟩,fun L hg=>.inl ⟨by rw[b.cyc,g.cyc],Gar.empty (hg.idle p0)⟩,fun s hs=>by rw[b.bs,g.bs];exact hs,by rw[b.cyc,g.cyc];exact Int.le_refl _,fun _ _=>⟨b.ph,fun L h1 h2=>?_⟩⟩
   ·rw[b.work,gi];(try simp only);have:=h.y.st.1;omega
   ·exact b.gar L (fun s hs=>by rw[←b.bs];exact h1 s hs) (by rw[←b.ws,←b.l,←b.ms];exact h2)
  ·rw[if_pos ac,if_neg (by decide),if_pos rfl];have p1:x.y.ph≠0:=by
    have:=h.pa;rw[ac] at this;exact Zy7 this.symm
   have e:=Iy g.ok (g.ph p1) (by rw[g.l];exact hF);refine⟨e.ok,by rw[e.len,g.l],⟨fun q=>absurd q p1,?_⟩,fun L hg=>.inr ⟨by rw[e.cyc,g.cyc];(try simp only);omega,e.gar L (g.gar L hg)⟩,fun s hs=>e.bs s (by rw[g.bs];exact hs),by rw[e.cyc,g.cyc];(try simp only);omega,fun q2=>?_⟩
   ·have ew:=e.work;rw[g.l] at ew;simp only at ew;omega
   ·rw[e.ok.act0 e.ph] at q2;cases q2
end
section
variable{c:Zh}{t:Nat}{bs bs':List Bool}
theorem Zl6{k:Nat}(ho:KOk c)(ht:t<c.ts.length)(hk:k<c.cl.length)(hf:∀i:Nat,Rz c t k i→Zu bs i=true):Zl c t k*nth c.cl k≤Xh c t bs:=by
 have bd:=ho.bounds ht hk;have c2:=bd.c2;have hn:=ho.nS_eq ht;have m1:=Rx ho ht (a:=k+1) (b:=c.cl.length) (by omega) (Zy1 _);have sk:=(ho.sS_le ht (k:=k) (by omega)).1;have e1:sS c t (k+1)=sS c t k+Zl c t k:=rfl;have s1:=bd.s1;have key:∀n,n≤nS c t→Zow c t k n*nth c.cl k≤Sk c t bs n:=by
  intro n
  induction n with
  | zero=>intro _;unfold Zow Sk;rw[if_pos (by omega)];omega
  | succ n ih=>
   intro hle;have ih:=ih (by omega);rw[Tw];have sz:=Ij ho ht (s:=n) (by omega);by_cases hin:sS c t k≤(n:Int)∧(n:Int)<sS c t (k+1)
   ·have hk2:=(Zkx ho ht hk (show n<nS c t by omega)).2 hin;have hs:Zcj c t n=nth c.cl k:=by unfold Zcj;rw[hk2]
    rw[hf n hin,hs];have e:Zow c t k (n+1)=Zow c t k n+1:=by
     unfold Zow
     (repeat' split)<;>omega
    rw[e,Int.add_mul];simp only[if_true];omega
   ·have e:Zow c t k (n+1)=Zow c t k n:=by
     unfold Zow
     (repeat' split)<;>omega
    rw[e];split<;>omega
 have:=key (nS c t) (Zy1 _);have e:Zow c t k (nS c t)=Zl c t k:=by unfold Zow;(repeat' split)<;>omega
 rw[e] at this;exact this
theorem Zl7{k:Nat}{p e:Int}(ho:KOk c)(ht:t<c.ts.length)(hk:k<c.cl.length)(h:Zhp c t bs (k:Int) bs' p e)(hr:Xh c t bs+nth c.cl k≤(Vg c.ts t).q):e=0:=by
 rcases h with ⟨hn,_⟩|⟨j,e1,hj,⟨s,_,_,_,_,_,he⟩|⟨hf,_⟩⟩
 ·omega
 ·exact he
 ·obtain rfl:k=j:=by omega
  have h1:=Zl6 ho ht hk hf;have c2:=(ho.bounds ht hk).c2;have h2:=Int.lt_ediv_add_one_mul_self (Vg c.ts t).q (show 0<nth c.cl k by omega);rw[Int.add_mul] at h2;unfold Zl at h1;omega
theorem Zhp.ok{k p:Int}(ho:KOk c)(ht:t<c.ts.length)(hl:bs.length=nS c t)(h:Zhp c t bs k bs' p 0) :
  ∃j s:Nat,k=j∧j<c.cl.length∧p=s∧s<bs.length∧Zu bs s=false∧Zu bs' s=true∧Xh c t bs'=Xh c t bs+nth c.cl j:=by
 rcases h with ⟨_,_,_,e⟩|⟨j,rfl,hj,⟨s,h1,h2,_,rfl,rfl,_⟩|⟨_,_,_,e⟩⟩
 ·cases e
 ·have hs:s<bs.length:=by rw[hl];exact Ll ho ht hj h1
  have hk2:=(Zkx ho ht hj (show s<nS c t by omega)).2 h1;refine⟨j,s,rfl,hj,rfl,hs,h2,by rw[Z8 hs,if_pos rfl],?_⟩;rw[Zak hl hs h2];unfold Zcj;rw[hk2]
 ·cases e
end
theorem Zl8{x q:Int}{k d:Nat}(h0:0≤x)(h1:x<18446744073709551616)(hd:2 ^ k=d)(hq:q=x / d)(hx:(d:Int)≤x)(h8:q<256) :
  (Lib.len8 q)+k=(Lib.bitLen x.toNat:Int):=by
 have hd0:0<d:=hd▸Nat.two_pow_pos k;have hq0:0≤q:=by rw[hq];exact Int.ediv_nonneg h0 (by omega)
 have e:q.toNat=x.toNat / d:=by
  obtain⟨y,rfl⟩:=Int.eq_ofNat_of_zero_le h0;rw[hq,←Int.natCast_ediv,Zy4,Zy4]
 rw[Lib.len8_of q hq0 (by omega),e,Lib.bitLen_shift k x.toNat (by omega) (Ztp h0 h1),hd];omega
theorem Zl9{q:Int}(h0:0≤q)(h1:q<256):0≤Lib.len8 q∧Lib.len8 q≤8:=by
 rw[Lib.len8_of q h0 (by omega)];have:=Lib.bitLen_le8' q h0 (by omega);omega
theorem Zma(q:Int)(h:q.toNat<Lib.len8tab.size):((Lib.len8tab[q.toNat]'h).toNat:Int)=Lib.len8 q:=by
 unfold Lib.len8;simp[h]
theorem Nf{x q:Int}(k d:Nat)(h0:0≤x)(h1:x<18446744073709551616)(hd:2 ^ k=d)(hq:q=x / d)(hx:(d:Int)≤x)(h8:q<256)(hk:k≤56)(h:q.toNat<Lib.len8tab.size) :
  wrap64 (k+wrap64 ((Lib.len8tab[q.toNat]'h).toNat:Int))=(Lib.bitLen x.toNat:Int):=by
 have hq0:0≤q:=by rw[hq];exact Int.ediv_nonneg h0 (by omega)
 have l:=Zl9 hq0 h8;rw[Zma,IntWalk.wrap64_in (Lib.len8 q) (by omega),IntWalk.wrap64_in _ (by omega),Int.add_comm];exact Zl8 h0 h1 hd hq hx h8
theorem Zqj{x:Int}(h0:0≤x)(h8:x<256)(h:x.toNat<Lib.len8tab.size) :
  wrap64 ((Lib.len8tab[x.toNat]'h).toNat:Int)=(Lib.bitLen x.toNat:Int):=by
 have l:=Zl9 h0 h8;rw[Zma,IntWalk.wrap64_in (Lib.len8 x) (by omega),Lib.len8_of x h0 (by omega)]
theorem Zif{x m:Nat}(hx:x<2 ^ 64)(hm:m≤64):Lib.bitLen x≤m ↔ x<2 ^ m:=by
 constructor
 ·intro h;rcases Nat.lt_or_ge x (2 ^ m) with c|c
  ·exact c
  ·exfalso
   have h1:=Lib.bitLen_shift m x c hx;have h2:0<x / 2 ^ m:=Nat.div_pos c (Nat.two_pow_pos m);have h3:=Lib.bitLen_half (x / 2 ^ m) (by omega) (Nat.lt_of_le_of_lt (Nat.div_le_self _ _) hx);omega
 ·intro h;exact Lib.bitLen_le x m hm h
theorem Zmb(x:Nat)(hx:x<2 ^ 64):Lib.bitLen x≤64:=Lib.bitLen_le x 64 (Zy1 _) hx
theorem Zfv{v m:Int}(h0:0≤v)(h1:v<18446744073709551616)(a:1≤m)(b:m≤64):decide (m<(Lib.bitLen v.toNat:Int))=!U4 v m:=by
 have:=Zif (x:=v.toNat) (m:=m.toNat) (Ztp h0 h1) (by omega);unfold U4;by_cases h:v.toNat<2 ^ m.toNat
 ·rw[Zyy h,Zyx (by have:=this.2 h;omega)];rfl
 ·rw[Zyx h,Zyy (by have:=fun c=>h (this.1 c);omega)];rfl
theorem Ob(x n:Int)(w:World)(h0:0≤x)(h1:x<18446744073709551616)(hn:(Lib.bitLen x.toNat:Int)=n) :
  Calls prog 212 #[.int .u64 x] w fun e w'=>e=.returned (.int .i64 n)∧w=w':=by
 have HN:=Za hn;have H1:=Za h1;clear hn;replace h1:x≤18446744073709551615:=by omega
 have ht:=Lib.len8tab_size;go_enter func212,ntmps212;go_wp2_with fail
 all_goals go_ret
 all_goals refine⟨Qr ?_,rfl⟩
 all_goals rw[←HN.out]
 ·exact Nf 56 72057594037927936 h0 H1.out (by decide) (by omega) (by omega) (by omega) (by omega) _
 ·exact Nf 48 281474976710656 h0 H1.out (by decide) (by omega) (by omega) (by omega) (by omega) _
 ·exact Nf 40 1099511627776 h0 H1.out (by decide) (by omega) (by omega) (by omega) (by omega) _
 ·exact Nf 32 4294967296 h0 H1.out (by decide) (by omega) (by omega) (by omega) (by omega) _
 ·exact Nf 24 16777216 h0 H1.out (by decide) (by omega) (by omega) (by omega) (by omega) _
 ·exact Nf 16 65536 h0 H1.out (by decide) (by omega) (by omega) (by omega) (by omega) _
 ·exact Nf 8 256 h0 H1.out (by decide) (by omega) (by omega) (by omega) (by omega) _
 ·have hb:=Zmb x.toNat (Ztp h0 H1.out);rw[Zqj h0 (by omega),IntWalk.wrap64_in _ (by omega)]
theorem T9{f m:Int}(b:Bool){w:World}(hb:Zch f m=b):Calls prog 295 #[.int .i64 f,.int .i64 m] w fun e w'=>e=.returned (.bool b)∧w=w':=by
 have HB:=Za hb;clear hb;go_enter func295,ntmps295;go_wp2_with fail
 all_goals go_ret
 all_goals refine⟨Yg ?_,rfl⟩
 all_goals rw[←HB.out,Bool.eq_iff_iff,Pt]
 all_goals simp
 all_goals omega
theorem Fs{m:Int}(k:Int){w:World}(h1:1≤m)(h2:m≤64)(hk:((2 ^ m.toNat-1:Nat):Int)=k):Calls prog 296 #[.int .i64 m] w fun e w'=>e=.returned (.int .u64 k)∧w'=w:=by
 have HK:=Za hk;clear hk;go_enter func296,ntmps296;go_wp2;go_ret;refine⟨Qr ?_,rfl⟩;rw[←HK.out,←Zcn (by omega),show(64-m).toNat=64-m.toNat by omega];rfl
theorem Za0(n k:Nat):(n:Int) / 2 ^ k=((n / 2 ^ k:Nat):Int):=by simp
theorem Kl(n k:Nat):(n:Int)*2 ^ k=((n*2 ^ k:Nat):Int):=by simp
theorem Zmc{v f m:Int}(h0:0≤v)(h1:v<18446744073709551616)(hm:Zch f m=true):bits .and .u64 (v / 2 ^ f.toNat) ((2 ^ m.toNat-1:Nat):Int)=Qt v f m:=by
 obtain⟨a,b,rfl,rfl,b1,b2,b3⟩:=Da hm;obtain⟨n,rfl⟩:=Int.eq_ofNat_of_zero_le h0;have hn:n<2 ^ 64:=Ztp h0 h1;have e:(2:Nat) ^ 64=18446744073709551616:=by decide
 have h2:(2:Nat) ^ b≤2 ^ 64:=Nat.pow_le_pow_right (by decide) b2;rw[Zy4,Zy4,Za0,u64_and_nat _ _ (Nat.lt_of_le_of_lt (Nat.div_le_self _ _) (by omega)) (by omega)];unfold Qt;rw[Zy4,Zy4,Zy4,←Zo7 b2,Zcn b2]
theorem Zmd{v f m:Int}(p q:Int){w:World}(h0:0≤v)(h1:v<18446744073709551616)(hpq:Zvo v f m=(p,q)) :
  Calls prog 245 #[.int .u64 v,.int .i64 f,.int .i64 m] w fun e w'=>e=.returned (.tuple #[.int .u64 p,.int .i64 q])∧Ext w w':=by
 have H1:=Za h1;clear h1;by_cases hm:Zch f m=true
 ·have HM:=Za hm;obtain⟨rfl,rfl⟩:Qt v f m=p∧0=q:=by unfold Zvo at hpq;rw[if_pos hm] at hpq;simpa using hpq
  obtain⟨g1,g2,g3,g4⟩:=Pt.1 hm;clear hm hpq;go_enter func245,ntmps245;go_wp2_with fail;refine(T9 true HM.out).zz ?_;go_wp2_with fail
  go_quiet ((go_at_call 296;exact Calls.quiet_of_same (Fs _ g2 g3 rfl)))
  go_wp2;go_ret2;exact⟨E8 (Zmc h0 H1.out HM.out) rfl,(Zy2 w).drewN _⟩
 ·have HM:=Za (Bool.not_eq_true _▸hm);obtain⟨rfl,rfl⟩:0=p∧2=q:=by unfold Zvo at hpq;rw[if_neg hm] at hpq;simpa using hpq
  clear hm hpq;go_enter func245,ntmps245;go_wp2_with fail;refine(T9 false HM.out).zz ?_;go_wp2;go_ret2;exact⟨rfl,Zy2 _⟩
theorem Zme{u f m v:Int}(h0:0≤u)(h1:u<18446744073709551616)(h2:0≤v)(h3:v<18446744073709551616)(hm:Zch f m=true)(hf:U4 v m=true) :
  bits .or .u64 (bits .andNot .u64 u (IntKind.u64.wrap (((2 ^ m.toNat-1:Nat):Int)*2 ^ f.toNat))) (IntKind.u64.wrap (v*2 ^ f.toNat))=Zgv u f m v:=by
 obtain⟨a,b,rfl,rfl,b1,b2,b3⟩:=Da hm;obtain⟨n,rfl⟩:=Int.eq_ofNat_of_zero_le h0;obtain⟨k,rfl⟩:=Int.eq_ofNat_of_zero_le h2;have hn:n<2 ^ 64:=Ztp h0 h1;have e:(2:Nat) ^ 64=18446744073709551616:=by decide
 unfold U4 at hf;simp only[Zy4,decide_eq_true_eq] at hf;have m1:=Zj4 b3;have m2:=Zvx b3 hf;rw[Zy4,Zy4,Kl,Kl,IntKind.wrap_u64,IntKind.wrap_u64];have w1:(((2 ^ b-1)*2 ^ a:Nat):Int) % 18446744073709551616=(((2 ^ b-1)*2 ^ a:Nat):Int):=Int.emod_eq_of_lt (by omega) (by omega);have w2:((k*2 ^ a:Nat):Int) % 18446744073709551616=((k*2 ^ a:Nat):Int):=Int.emod_eq_of_lt (by omega) (by omega);rw[w1,w2,u64_andNot_nat _ _ (by omega) (by omega)];have e2:18446744073709551615-(2 ^ b-1)*2 ^ a=2 ^ 64-((2 ^ b-1)*2 ^ a+1):=by omega
 rw[e2,u64_or_nat _ _ (Nat.lt_of_le_of_lt Nat.and_le_left (by omega)) (by omega),Zo8 hn b3 hf];unfold Zgv;simp only[Zy4]
theorem Zmf{u f m v:Int}(p q:Int){w:World}(h0:0≤u)(h1:u<18446744073709551616)(h2:0≤v)(h3:v<18446744073709551616)(hpq:Zpa u f m v=(p,q)) :
  Calls prog 377 #[.int .u64 u,.int .i64 f,.int .i64 m,.int .u64 v] w fun e w'=>e=.returned (.tuple #[.int .u64 p,.int .i64 q])∧Ext w w':=by
 have H1:=Za h1;clear h1;have H3:=Za h3;clear h3;obtain⟨n,hn⟩:∃n:Int,(Lib.bitLen v.toNat:Int)=n:=⟨_,rfl⟩;by_cases hm:Zch f m=true
 ·have HM:=Za hm;obtain⟨g1,g2,g3,g4⟩:=Pt.1 hm;have ht:=Zfv h2 H3.out g2 g3;rw[hn] at ht;have HN:=Za hn;clear hn;cases hf:U4 v m
  ·obtain⟨rfl,rfl⟩:0=p∧4=q:=by unfold Zpa at hpq;rw[if_pos hm,hf] at hpq;simpa using hpq
   rw[hf] at ht;clear hm hpq hf;replace ht:m<n:=by simpa using ht
   go_enter func377,ntmps377;go_wp2_with fail;refine(T9 true HM.out).zz ?_;go_wp2_with fail;refine(Ob _ n _ h2 H3.out HN.out).zz ?_;go_wp2;go_ret2;exact⟨rfl,Zy2 _⟩
  ·obtain⟨rfl,rfl⟩:Zgv u f m v=p∧0=q:=by unfold Zpa at hpq;rw[if_pos hm,hf] at hpq;simpa using hpq
   have HF:=Za hf;rw[hf] at ht;clear hm hpq hf;replace ht:n≤m:=by simpa using ht
   go_enter func377,ntmps377;go_wp2_with fail;refine(T9 true HM.out).zz ?_;go_wp2_with fail;refine(Ob _ n _ h2 H3.out HN.out).zz ?_;go_wp2_with fail
   go_quiet ((go_at_call 296;exact Calls.quiet_of_same (Fs _ g2 g3 rfl)))
   go_wp2;go_ret2;exact⟨E8 (Zme h0 H1.out h2 H3.out HM.out HF.out) rfl,(Zy2 w).drewN _⟩
 ·have HM:=Za (Bool.not_eq_true _▸hm);obtain⟨rfl,rfl⟩:0=p∧2=q:=by unfold Zpa at hpq;rw[if_neg hm] at hpq;simpa using hpq
  clear hm hpq hn;go_enter func377,ntmps377;go_wp2_with fail;refine(T9 false HM.out).zz ?_;go_wp2;go_ret2;exact⟨rfl,Zy2 _⟩
def Zwh(P:Program)(g:Nat)(cs:Array Value)(xs:List Int)(err:Nat→Int)(I:Nat→World→Prop)(n:Nat):Prop:=
 ∀i w',i<n→I i w'→Calls P g (#[.int .i64 i,.int .i64 (fr xs i),.int .i64 (nth xs i)]++cs) w' fun e w''=>e=.returned (.int .i64 (err i))∧I (i+1) w''
theorem Qd{a:Option Addr}{cap g:Nat}{cs:Array Value}(xs:List Int)(s:Int)(I:Nat→World→Prop){w:World}(hl:xs.length≤maxLen)
  (hat:∀i w',I i w'→At .i64 w' a xs) (hst:Zwh prog g cs xs (fun _=>0) I xs.length) (hfr:∀i,i≤xs.length→0≤fr xs i∧fr xs i≤64) (hI:I 0 w) (hk:Zi prog g) (hs:fr xs xs.length=s) :
  Calls prog 243 #[.slice a xs.length cap,.func (.func g) #[] cs] w fun e w'=>e=.returned (.tuple #[.int .i64 s,(0:Int)])∧I xs.length w':=by
 unfold Zi at hk;unfold maxLen at hl;have HA:=Za hat;have HS:=Za hst;have HF:=Za hfr;have HI:=Za hI;have HE:=Za hs;clear hat hst hfr hI hs;go_enter func243,ntmps243;go_wp2_with fail
 go_loopw [6,12] (fun u i wr=>∃k:Nat,k≤xs.length∧i=.int .i64 k∧u=.int .i64 (fr xs k)∧Hid (I k wr)) (fun _ i _=>xs.length-(intOf i).toNat)
 case atStart=>exact⟨0,Nat.zero_le _,rfl,rfl,HI⟩
 case round=>
  obtain⟨k,hk1,rfl,rfl,HK⟩:=hrel;by_cases hlt:k<xs.length
  ·obtain⟨b,o,rfl,hc⟩:=(HA.out _ _ HK.out).pos (by omega);have hck:=hc k hlt;clear hc;have CC:=Za (HS.out k _ hlt HK.out);have f0:=HF.out k (by omega);have f1:=HF.out (k+1) (by omega);have HU:=Za (show fr xs (k+1)=fr xs k+nth xs k from rfl);rw[HU.out] at f1
   generalize fr xs k=u at *
   generalize nth xs k=v at *
   go_wp2_with fail;refine CC.out.ze fun w1 hw1=>?_;have HW:=Za hw1;clear hw1 hck;go_wp2;go_roundw
   case rel=>exact⟨k+1,by omega,by go_num,by rw[HU.out],HW⟩
   case measure=>simp[intOf];omega
  ·obtain rfl:k=xs.length:=by omega
   go_wp2;go_ret2;exact⟨E8 HE.out rfl,HK.out⟩
theorem Oq{a:Option Addr}{cap g:Nat}{cs:Array Value}(xs:List Int)(n:Nat)(q:Int)(I:Nat→World→Prop){w:World}(hl:xs.length≤maxLen)
  (hat:∀i w',I i w'→At .i64 w' a xs) (hn:n<xs.length) (hq:q≠0) (hst:Zwh prog g cs xs (fun i=>if i=n then q else 0) I (n+1)) (hfr:∀i,i≤n→0≤fr xs i∧fr xs i≤64) (hI:I 0 w) (hk:Zi prog g) :
  Calls prog 243 #[.slice a xs.length cap,.func (.func g) #[] cs] w fun e w'=>e=.returned (.tuple #[(0:Int),.int .i64 q])∧I (n+1) w':=by
 unfold Zi at hk;unfold maxLen at hl;have HA:=Za hat;have HS:=Za hst;have HF:=Za hfr;have HI:=Za hI;have HQ:=Za hq;clear hat hst hfr hI hq;go_enter func243,ntmps243;go_wp2_with fail
 go_loopw [6,12] (fun u i wr=>∃k:Nat,k≤n∧i=.int .i64 k∧u=.int .i64 (fr xs k)∧Hid (I k wr)) (fun _ i _=>xs.length-(intOf i).toNat)
 case atStart=>exact⟨0,Nat.zero_le _,rfl,rfl,HI⟩
 case round=>
  obtain⟨k,hk1,rfl,rfl,HK⟩:=hrel;have hlt:k<xs.length:=by omega
  obtain⟨b,o,rfl,hc⟩:=(HA.out _ _ HK.out).pos (by omega);have hck:=hc k hlt;clear hc;by_cases hkn:k<n
  ·have CC:Hid (Calls prog g (#[.int .i64 k,.int .i64 (fr xs k),.int .i64 (nth xs k)]++cs) wr fun e w''=>e=.returned (.int .i64 0)∧I (k+1) w''):=
    Za ((HS.out k _ (by omega) HK.out).mono fun _ _ ⟨he,hi⟩=>⟨he.trans (Qr (if_neg (by omega))),hi⟩)
   have f0:=HF.out k (by omega);have f1:=HF.out (k+1) (by omega);have HU:=Za (show fr xs (k+1)=fr xs k+nth xs k from rfl);rw[HU.out] at f1
   generalize fr xs k=u at *
   generalize nth xs k=v at *
   go_wp2_with fail;refine CC.out.ze fun w1 hw1=>?_;have HW:=Za hw1;clear hw1 hck;go_wp2;go_roundw
   case rel=>exact⟨k+1,by omega,by go_num,by rw[HU.out],HW⟩
   case measure=>simp[intOf];omega
  ·obtain rfl:k=n:=by omega
   have CC:Hid (Calls prog g (#[.int .i64 k,.int .i64 (fr xs k),.int .i64 (nth xs k)]++cs) wr fun e w''=>e=.returned (.int .i64 q)∧I (k+1) w''):=
    Za ((HS.out k _ (by omega) HK.out).mono fun _ _ ⟨he,hi⟩=>⟨he.trans (Qr (if_pos rfl)),hi⟩)
   have hq2:(q != 0)=true:=by simpa using HQ.out
   generalize fr xs k=u at *
   generalize nth xs k=v at *
   go_wp2_with fail;refine CC.out.ze fun w1 hw1=>?_;have HW:=Za hw1;clear hw1 hck;go_wp2;go_ret2;exact⟨rfl,HW.out⟩
theorem Iz:Zi prog 294:=Zi.mk func294 (by kernel_rfl) rfl
theorem Km:Zi prog 376:=Zi.mk func376 (by kernel_rfl) rfl
theorem Gk:Zi prog 244:=Zi.mk func244 (by kernel_rfl) rfl
theorem Ft{i f m:Int}(q:Int){w:World}(hq:(if Zch f m=true then (0:Int) else 2)=q) :
  Calls prog 294 #[.int .i64 i,.int .i64 f,.int .i64 m] w fun e w'=>e=.returned (.int .i64 q)∧Ext w w':=by
 cases hm:Zch f m
 ·obtain rfl:2=q:=by rw[hm] at hq;simpa using hq
  have HM:=Za hm;clear hm hq;go_enter func294,ntmps294;go_wp2_with fail;refine(T9 false HM.out).zz ?_;go_wp2;go_ret;exact⟨rfl,Zy2 _⟩
 ·obtain rfl:0=q:=by rw[hm] at hq;simpa using hq
  have HM:=Za hm;clear hm hq;go_enter func294,ntmps294;go_wp2_with fail;refine(T9 true HM.out).zz ?_;go_wp2;go_ret;exact⟨rfl,Zy2 _⟩
theorem Zqk{xs:List Int}(h:xs.length=0):Ztq xs=(0,2):=by unfold Ztq Zvp;rw[if_neg (by simp[h])]
theorem Cs{xs:List Int}(h:Wok xs):Ztq xs=(fr xs xs.length,0):=by unfold Ztq;rw[if_pos (Xq.2 h)]
theorem Zdr{xs:List Int}(h:¬Wok xs):Ztq xs=(0,2):=by unfold Ztq;rw[if_neg fun c=>h (Xq.1 c)]
theorem Zuh{xs:List Int}{n:Nat}(h:∀i,i<n→Zch (fr xs i) (nth xs i)=true):∀i,i≤n→0≤fr xs i∧fr xs i≤64
 | 0,_=>⟨Int.le_refl _,by unfold fr;decide⟩
 | i+1,hi=>by
  have:=Pt.1 (h i (by omega));unfold fr;omega
theorem Sa{a:Option Addr}{cap:Nat}(xs:List Int)(p q:Int){w:World}(hpq:Ztq xs=(p,q))(h:At .i64 w a xs)(hl:xs.length≤maxLen) :
  Calls prog 242 #[.slice a xs.length cap] w fun e w'=>e=.returned (.tuple #[.int .i64 p,.int .i64 q])∧Ext w w':=by
 by_cases h0:xs.length=0
 ·rw[Zqk h0] at hpq;cases hpq;have h0':((xs.length:Int)==0)=true:=by simp[h0]
  clear h h0;go_enter func242,ntmps242;go_wp2;go_ret2;exact⟨rfl,Zy2 _⟩
 ·have h0':((xs.length:Int)==0)=false:=by simpa using h0
  have H:=Za h;clear h;rcases Ju (fun i=>Zch (fr xs i) (nth xs i)) xs.length with hb|⟨n,hn,hb,hbn⟩
  ·have wk:Wok xs:=⟨by omega,hb⟩;rw[Cs wk] at hpq;cases hpq;have CC:=Za (Qd (cap:=cap) (cs:=#[]) xs _ (fun _ w'=>Ext w w') hl (fun i w' hw=>H.out.ext hw)
    (fun i w' hi hw=>(Ft 0 (by rw[if_pos (hb i hi)])).mono fun _ _ ⟨he,hx⟩=>⟨he,hw.trans hx⟩) wk.fr0 (Zy2 w) Iz rfl)
   clear wk hb h0
   generalize fr xs xs.length=s at *
   go_enter func242,ntmps242;go_wp2_with fail;refine CC.out.ze fun w1 hw1=>?_;go_wp2;go_ret2;exact⟨rfl,hw1⟩
  ·rw[Zdr (fun c=>by have:=c.may n hn;rw[hbn] at this;cases this)] at hpq;cases hpq;have CC:=Za (Oq (cap:=cap) (cs:=#[]) xs n 2 (fun _ w'=>Ext w w') hl (fun i w' hw=>H.out.ext hw) hn (by decide)
    (fun i w' hi hw=>(Ft _ (by
     show _=(if i=n then (2:Int) else 0)
     by_cases hin:i=n
     ·subst hin;rw[if_pos rfl,if_neg (by rw[hbn];decide)]
     ·rw[if_neg hin,if_pos (hb i (by omega))])).mono fun _ _ ⟨he,hx⟩=>⟨he,hw.trans hx⟩) (Zuh hb) (Zy2 w) Iz)
   clear hb hbn h0;go_enter func242,ntmps242;go_wp2_with fail;refine CC.out.ze fun w1 hw1=>?_;go_wp2;go_ret2;exact⟨rfl,hw1⟩
structure Pj(w W:World)(bw bv:Nat)(a:Option Addr)(n cap:Nat)(u:Int):Prop where
 ext:Ext w W
 vals:W.cell? bv=some (.slice a n cap)
 word:W.cell? bw=some (.int .u64 u)
 fz:W.frozen? bw=false
 above:w.heap.size≤bw
 ne:bv≠bw
theorem Pj.go{w W W':World}{bw bv:Nat}{a:Option Addr}{n cap:Nat}{u:Int}(h:Pj w W bw bv a n cap u)(hx:Ext W W'):Pj w W' bw bv a n cap u:=
 ⟨h.ext.trans hx,hx.cell h.vals,hx.cell h.word,hx.frozenAt h.word h.fz,h.above,h.ne⟩
theorem Pj.store{w W:World}{bw bv:Nat}{a:Option Addr}{n cap:Nat}{u:Int}(h:Pj w W bw bv a n cap u)(p:Int):Pj w (W.setCell bw (.int .u64 p)) bw bv a n cap p:=by
 refine⟨h.ext.setCell h.above _,?_,?_,by simpa using h.fz,h.above,h.ne⟩
 ·have:=h.ne;exact(cell_far W _ _ _ (by show bw≠bv;omega)).trans h.vals
 ·exact Zyz W _ _ h.word
theorem Ng{w W:World}{bw bv:Nat}{a:Option Addr}{cap:Nat}(vs:List Int)(i:Nat){f m:Int}(u p q:Int)(hp:Pj w W bw bv a vs.length cap u)(h0:0≤u)(h1:u<18446744073709551616)
  (hv:0≤nth vs i∧nth vs i<18446744073709551616) (hpq:Zpa u f m (nth vs i)=(p,q)) (h:At .u64 w a vs) (hi:i<vs.length) (hl:vs.length≤maxLen) :
  Calls prog 376 #[.int .i64 i,.int .i64 f,.int .i64 m,bw,bv] W fun e W'=>e=.returned (.int .i64 q)∧Pj w W' bw bv a vs.length cap p:=by
 unfold maxLen at hl;obtain⟨b,o,rfl,hc⟩:=h.pos (by omega);have hci:=hp.ext.cell (hc i hi);have c1:=hp.vals;have c2:=hp.word;have c3:=hp.fz;have HP:=Za hp;have HQ:=Za hpq;have HV:=Za hv.2;have HU:=Za h1;have HV0:=hv.1;clear hc h hp hpq hv h1;have hi0:(0:Int)≤(i:Int):=Int.natCast_nonneg _;have hi1:(i:Int)<(vs.length:Int):=by omega
 generalize nth vs i=v at *
 go_enter func376,ntmps376;go_wp2_with fail
 go_region_with (go_at_call 377;refine(Zmf p q h0 HU.out HV0 HV.out HQ.out).ze fun w1 hE=>?_;have hX:=Ext.trans ((Zy2 W).drew) hE;have P1:=Za (HP.out.go hX);have d2:=P1.out.word;have d3:=P1.out.fz)
 all_goals
  go_wp2;go_ret;exact⟨rfl,P1.out.store _⟩
theorem Zmg{xs vs:List Int}(h:¬Wok xs):Nn xs vs=(0,2):=by unfold Nn;rw[if_neg fun c=>h (Xq.1 c.1)]
theorem Zmh{xs vs:List Int}(h:vs.length≠xs.length):Nn xs vs=(0,2):=by unfold Nn;rw[if_neg fun c=>h c.2]
theorem Zql{xs vs:List Int}(h:Wok xs)(hl:vs.length=xs.length)(hf:∀i,i<xs.length→U4 (nth vs i) (nth xs i)=true):Nn xs vs=(((pk xs vs xs.length:Nat):Int),0):=by
 unfold Nn;rw[if_pos ⟨Xq.2 h,hl⟩,if_pos (by unfold Jv;simpa using hf)]
theorem Zig{xs vs:List Int}(h:Wok xs)(hl:vs.length=xs.length){n:Nat}(hn:n<xs.length)(hf:U4 (nth vs n) (nth xs n)=false):Nn xs vs=(0,4):=by
 unfold Nn;rw[if_pos ⟨Xq.2 h,hl⟩,if_neg];unfold Jv;simp only[decide_eq_true_eq];intro c;have:=c n hn;rw[hf] at this;cases this
theorem Fu{a b:Option Addr}{ca cb:Nat}(xs vs:List Int)(p q:Int){w:World}(hpq:Nn xs vs=(p,q))(h:At .i64 w a xs)(hl:xs.length≤maxLen)(hv:At .u64 w b vs)(hvl:vs.length≤maxLen)
  (hvb:∀n∈vs,0≤n∧n<18446744073709551616) :
  Calls prog 358 #[.slice a xs.length ca,.slice b vs.length cb] w fun e w'=>e=.returned (.tuple #[.int .u64 p,.int .i64 q])∧Ext w w':=by
 have hx:=(Zy2 w).alloc (.cells #[.slice b vs.length cb] 72);have H:=Za h;have HV:=Za hv;have HB:=Za hvb;have HL:=Za hl;have HVL:=Za hvl;have hl2:=hl;have hvl2:=hvl;unfold maxLen at hl2 hvl2;clear h hv hvb hl hvl;by_cases wk:Wok xs
 ·have WK:=Za wk;have HA:=Za (Cs wk);by_cases hlen:vs.length=xs.length
  ·have hc0:∀w1:World,Ext (w.alloc (.cells #[.slice b vs.length cb] 72)) w1→Pj w (w1.alloc (.cells #[.int .u64 0] 34)) w1.heap.size w.heap.size b vs.length cb 0:=by
    intro w1 h1;have:=h1.size;simp at this;exact⟨(hx.trans h1).alloc _,Xd (h1.cell (Zr _ _ _)) _,Zr _ _ _,World.frozen?_alloc_at _ _ _ _ rfl,by omega,by omega⟩
   have HC:=Za hc0;have HLEN:=Za hlen;have hlenb:(vs.length != xs.length)=false:=by simp[hlen]
   have hlenc:((vs.length:Int) != (xs.length:Int))=false:=by simp[hlen]
   rcases Ju (fun i=>U4 (nth vs i) (nth xs i)) xs.length with hf|⟨n,hn,hf,hfn⟩
   ·rw[Zql wk hlen hf] at hpq;cases hpq;have HF:=Za hf;clear wk hc0 hf hlen
    generalize hs:fr xs xs.length=s at *
    have HS:=Za hs;clear hs;go_enter func358,ntmps358;go_wp2_with fail;refine(Sa xs _ _ HA.out (H.out.ext hx) HL.out).ze fun w1 h1=>?_;have P0:=Za (HC.out w1 h1);have c1:=h1.cell (Zr w (.slice b vs.length cb) 72);go_wp2_with fail;refine(Qd xs s (fun i W=>Pj w W w1.heap.size w.heap.size b vs.length cb ((pk xs vs i:Nat):Int)) HL.out (fun i W hW=>H.out.ext hW.ext)
     (fun i W hi hW=>by
      have h64:=Zyb (Zvy WK.out i (by omega) fun j hj=>HF.out j (by omega));exact Ng vs i _ _ _ hW h64.1 h64.2 (HB.out _ (Ov (by have:=HLEN.out;omega))) (Zj5 WK.out i hi fun j hj=>HF.out j (by omega)) HV.out (by have:=HLEN.out;omega) HVL.out)
     WK.out.fr0 P0.out Km HS.out).mono ?_
    rintro e w2 ⟨rfl,hW⟩;have c2:=hW.word;have HW:=Za hW;clear hW;go_wp2;go_ret2;exact⟨rfl,HW.out.ext⟩
   ·rw[Zig wk hlen hn hfn] at hpq;cases hpq;have HF:=Za hf;have HFN:=Za hfn;clear wk hc0 hf hfn hlen;go_enter func358,ntmps358;go_wp2_with fail;refine(Sa xs _ _ HA.out (H.out.ext hx) HL.out).ze fun w1 h1=>?_;have P0:=Za (HC.out w1 h1);have c1:=h1.cell (Zr w (.slice b vs.length cb) 72);go_wp2_with fail;refine(Oq xs n 4 (fun i W=>Pj w W w1.heap.size w.heap.size b vs.length cb (if i≤n then ((pk xs vs i:Nat):Int) else 0)) HL.out (fun i W hW=>H.out.ext hW.ext) hn (by decide)
     (fun i W hi hW=>by
      have hW':Pj w W w1.heap.size w.heap.size b vs.length cb ((pk xs vs i:Nat):Int):=by
       change Pj w W w1.heap.size w.heap.size b vs.length cb (if i≤n then ((pk xs vs i:Nat):Int) else 0) at hW
       rwa [if_pos (by omega)] at hW
      have h64:=Zyb (Zvy WK.out i (by omega) fun j hj=>HF.out j (by omega));by_cases hin:i=n
      ·subst hin;refine(Ng vs i _ _ _ hW' h64.1 h64.2 (HB.out _ (Ov (by have:=HLEN.out;omega))) (Zgw WK.out i (by omega) HFN.out _) HV.out (by have:=HLEN.out;omega) HVL.out).mono fun e W' ⟨he,hP⟩=>⟨he.trans (Qr (if_pos rfl).symm),?_⟩
       show Pj w W' w1.heap.size w.heap.size b vs.length cb (if i+1≤i then ((pk xs vs (i+1):Nat):Int) else 0)
       rwa [if_neg (by omega)]
      ·refine(Ng vs i _ _ _ hW' h64.1 h64.2 (HB.out _ (Ov (by have:=HLEN.out;omega))) (Zj5 WK.out i (by omega) fun j hj=>HF.out j (by omega)) HV.out (by have:=HLEN.out;omega) HVL.out).mono fun e W' ⟨he,hP⟩=>⟨he.trans (Qr (if_neg hin).symm),?_⟩
       show Pj w W' w1.heap.size w.heap.size b vs.length cb (if i+1≤n then ((pk xs vs (i+1):Nat):Int) else 0)
       rwa [if_pos (by omega)])
     (fun i hi=>WK.out.fr0 i (by omega)) (show Pj w _ w1.heap.size w.heap.size b vs.length cb (if 0≤n then ((pk xs vs 0:Nat):Int) else 0) by rw[if_pos (Nat.zero_le _)];exact P0.out) Km).mono ?_
    rintro e w2 ⟨rfl,hW⟩;change Pj w w2 w1.heap.size w.heap.size b vs.length cb (if n+1≤n then ((pk xs vs (n+1):Nat):Int) else 0) at hW;rw[if_neg (by omega)] at hW;have c2:=hW.word;have HW:=Za hW;clear hW;go_wp2;go_ret2;exact⟨rfl,HW.out.ext⟩
  ·rw[Zmh hlen] at hpq;cases hpq;have hlenb:(vs.length != xs.length)=true:=by simpa using hlen
   have hlenc:((vs.length:Int) != (xs.length:Int))=true:=by simp;omega
   clear wk hlen
   generalize hs:fr xs xs.length=s at *
   clear hs;go_enter func358,ntmps358;go_wp2_with fail;refine(Sa xs _ _ HA.out (H.out.ext hx) HL.out).ze fun w1 h1=>?_;have c1:=h1.cell (Zr w (.slice b vs.length cb) 72);go_wp2;go_ret2;exact⟨rfl,hx.trans h1⟩
 ·have HA:=Za (Zdr wk);rw[Zmg wk] at hpq;cases hpq;clear wk;go_enter func358,ntmps358;go_wp2_with fail;refine(Sa xs _ _ HA.out (H.out.ext hx) HL.out).ze fun w1 h1=>?_;go_wp2;go_ret2;exact⟨rfl,hx.trans h1⟩
theorem Zqm:(prog.info? 34).map (fun i=>(i.zero,i.size,i.bytes))=some (some (.int .u64 0),1,8):=by kernel_rfl
structure Zxc(w W:World)(bw bo:Nat)(u:Int)(l:List Int):Prop where
 ext:Ext w W
 word:W.cell? bw=some (.int .u64 u)
 out:∃sv,W.cell? bo=some sv∧W.ownsRow (bo+1) 34 1 sv l.length (ncs .u64 l)
 fz:W.frozen? bo=false
 above:w.heap.size≤bo
 lt:bw<bo
theorem Ct{w W:World}{bw bo:Nat}{u:Int}(l:List Int){i f m:Int}(p q:Int)(hp:Zxc w W bw bo u l)(h0:0≤u)(h1:u<18446744073709551616)(hpq:Zvo u f m=(p,q))(hl:l.length≤1000) :
  Calls prog 244 #[.int .i64 i,.int .i64 f,.int .i64 m,bw,bo] W fun e W'=>e=.returned (.int .i64 q)∧Zxc w W' bw bo u (l++[p]):=by
 obtain⟨i0,hi0,hz0,hz1,hz2⟩:=info_parts Zqm;obtain⟨sv,hc,hown⟩:=hp.out;have c1:=hp.word;have HP:=Za hp;have HQ:=Za hpq;have HU:=Za h1;have HO:=Za hown;have HC:=Za hc;clear hp hpq h1 hown hc;have hm63:l.length+1≤maxLen:=by unfold maxLen;omega
 have HM:=Za hm63;clear hm63;go_enter func244,ntmps244;go_wp2_with fail;refine(Zmd p q h0 HU.out HQ.out).ze fun w1 hx=>?_;have c2:=hx.cell HC.out;have f2:w1.frozen? bo=false:=hx.frozenAt HC.out HP.out.fz;have hown1:=Xe HO.out hx;have hsz:bo<w1.heap.size:=Zj c2;have HO1:=Za hown1;clear hown1;have HNE:=Za (show some bo≠sv.ownBlock from fun e=>by have:=(HO1.out.lt _ e.symm).1;omega);clear c1
 go_wp2_with (at_builtin;refine wpList_append_lies _ rfl (.tmp 18) (.tmp 20) 72 rfl (bo+1) 34 i0 (.int .u64 0) 1 8 underlying72 hi0 hz0 hz1 hz2 rfl (by decide) sv l.length (ncs .u64 l) rfl (HO1.out.alloc _) ⟨w1.heap.size,0,none⟩ 1 1 [.int .u64 p] rfl rfl (Oy _ _ _) (Zcu rfl) (by omega) HM.out (by omega) (by simp;omega) (w1.heap.size+1) (by simp) ?_;intro g cap w2 hown2 hgrow hat hlt;have c3:=Us hgrow ((Zy2 w1).alloc _) c2 HNE.out;have f3:=Zct hgrow ((Zy2 w1).alloc _) c2 f2 HNE.out;have HW:=Za hown2;have HG:=Za hgrow;clear hown2 hgrow hat hlt)
 go_ret;have hx2:Ext w w2:=((HP.out.ext.trans hx).alloc _).grown HG.out fun k e=>by have:=(HO1.out.lt _ e).1;have:=HP.out.above;omega
 have ho2:w2.ownsRow (bo+1) 34 1 (.slice (some ⟨g,0,none⟩) (l.length+1) cap) (l++[p]).length (ncs .u64 (l++[p])):=by
  have:=HW.out;rw[Rv] at this;simpa using this
 refine⟨rfl,⟨hx2.setCell HP.out.above _,?_,⟨_,Zyz w2 _ _ c3,Va ho2 (Nat.lt_succ_self bo) _⟩,by simpa using f3,HP.out.above,HP.out.lt⟩⟩;rw[cell_far _ _ _ _ (by have:=HP.out.lt;show bo≠bw;omega),HG.out.cell_far _ (by have:=HP.out.lt;simp;omega) (fun e=>by have h1:bo+1≤bw:=(HO1.out.lt bw e.symm).1;have:=HP.out.lt;omega)];exact Xd (hx.cell HP.out.word) _
theorem Za1{xs:List Int}{u:Int}(h:¬Wok xs):Tt xs u=([],2):=by unfold Tt;rw[if_neg fun c=>h (Xq.1 c)]
theorem Za2{xs:List Int}{u:Int}(h:Wok xs)(hf:U4 u (fr xs xs.length)=false):Tt xs u=([],5):=by unfold Tt;rw[if_pos (Xq.2 h),if_neg (by rw[hf];decide)]
theorem Zds{xs:List Int}{u:Int}(h:Wok xs)(hf:U4 u (fr xs xs.length)=true):Tt xs u=(unp xs u xs.length,0):=by unfold Tt;rw[if_pos (Xq.2 h),if_pos hf]
def Za3(l:List Int)(q:Int)(w:World)(e:Ending)(w':World):Prop:=∃a cap,e=.returned (.tuple #[.slice a l.length cap,.int .i64 q])∧Yj .u64 w w' a cap l∧Ext w w'
theorem Za3.nil{q:Int}{w w':World}(hx:Ext w w'):Za3 [] q w (.returned (.tuple #[.slice none 0 0,.int .i64 q])) w':=
 ⟨none,0,rfl,⟨At.nil,Zy1 _,Nat.zero_le _,fun h=>absurd h (Nat.lt_irrefl 0)⟩,hx⟩
theorem Kn{a:Option Addr}{ca:Nat}(xs:List Int)(u:Int)(l:List Int)(q:Int){w:World}(hpq:Tt xs u=(l,q))(h:At .i64 w a xs)(hl:xs.length≤maxLen)(h0:0≤u)(h1:u<18446744073709551616) :
  Calls prog 198 #[.slice a xs.length ca,.int .u64 u] w (Za3 l q w):=by
 have hx:=(Zy2 w).alloc (.cells #[.int .u64 u] 34);have H:=Za h;have HL:=Za hl;have HU:=Za h1;have hl2:=hl;unfold maxLen at hl2;clear h hl h1;by_cases wk:Wok xs
 ·have WK:=Za wk;have HA:=Za (Cs wk);have hfr:=wk.fr0 xs.length (Zy1 _);have hpos:=wk.pos;have hmany:=wk.many xs.length (Zy1 _);have hl64:=wk.le64;obtain⟨n,hn⟩:∃n:Int,(Lib.bitLen u.toNat:Int)=n:=⟨_,rfl⟩;have ht:=Zfv (m:=fr xs xs.length) h0 HU.out (by omega) hfr.2;rw[hn] at ht;have HN:=Za hn;clear hn;cases hf:U4 u (fr xs xs.length)
  ·rw[Za2 wk hf] at hpq;cases hpq;rw[hf] at ht;replace ht:fr xs xs.length<n:=by simpa using ht
   clear wk hf
   generalize fr xs xs.length=s at *
   go_enter func198,ntmps198;go_wp2_with fail;refine(Sa xs _ _ HA.out (H.out.ext hx) HL.out).ze fun w1 h1=>?_;have c1:=h1.cell (Zr w (.int .u64 u) 34);go_wp2_with fail;refine(Ob _ n _ h0 HU.out HN.out).zz ?_;go_wp2;go_ret2;exact Za3.nil (hx.trans h1)
  ·rw[Zds wk hf] at hpq;cases hpq;rw[hf] at ht;replace ht:n≤fr xs xs.length:=by simpa using ht
   have hc0:∀w1:World,Ext (w.alloc (.cells #[.int .u64 u] 34)) w1→Zxc w (w1.alloc (.cells #[.slice none 0 0] 72)) w.heap.size w1.heap.size u (unp xs u 0):=by
    intro w1 h1;have:=h1.size;simp at this;exact⟨(hx.trans h1).alloc _,Xd (h1.cell (Zr _ _ _)) _,⟨_,Zr _ _ _,World.ownsRow_nil _ _ _ _⟩,World.frozen?_alloc_at _ _ _ _ rfl,by omega,by omega⟩
   have HC:=Za hc0;clear wk hf hc0
   generalize hs:fr xs xs.length=s at *
   have HS:=Za hs;clear hs;go_enter func198,ntmps198;go_wp2_with fail;refine(Sa xs _ _ HA.out (H.out.ext hx) HL.out).ze fun w1 h1=>?_;have c1:=h1.cell (Zr w (.int .u64 u) 34);have P0:=Za (HC.out w1 h1);have S1:=Za h1.size;go_wp2_with fail;refine(Ob _ n _ h0 HU.out HN.out).zz ?_;go_wp2_with fail;refine(Qd xs s (fun i W=>Zxc w W w.heap.size w1.heap.size u (unp xs u i)) HL.out (fun i W hW=>H.out.ext hW.ext)
    (fun i W hi hW=>by
     have:=Ct (unp xs u i) (i:=(i:Int)) _ _ hW h0 HU.out (Ztu WK.out i hi u) (by rw[Db];omega);rw[←Zpb] at this;exact this)
    WK.out.fr0 P0.out Gk HS.out).mono ?_
   rintro e w2 ⟨rfl,hW⟩;obtain⟨sv,c2,ho⟩:=hW.out;rw[Db] at ho;obtain⟨g,cap,rfl,g1,g2,g3,g4,g5,g6,g7⟩:=Nu ho hpos;have HW:=Za hW;have G6:=Za g6;have G7:=Za g7;have G3:=Za g3;clear hW ho g6 g7 g3;go_wp2;go_ret2;refine⟨_,cap,?_,⟨G6.out,by rw[Db];exact g4,g5,fun _=>⟨g,rfl,?_,g2,G7.out⟩⟩,HW.out.ext⟩
   ·rw[Db];rfl
   ·have:=HW.out.above;omega
 ·have HA:=Za (Zdr wk);rw[Za1 wk] at hpq;cases hpq;clear wk;go_enter func198,ntmps198;go_wp2_with fail;refine(Sa xs _ _ HA.out (H.out.ext hx) HL.out).ze fun w1 h1=>?_;go_wp2;go_ret2;exact Za3.nil (hx.trans h1)
def Wid(w:World):Prop:=
 w.cell? ⟨0,0,none⟩=some (.int .i64 16)∧w.cell? ⟨0,1,none⟩=some (.int .i64 16)∧w.cell? ⟨0,2,none⟩=some (.int .i64 16)∧w.cell? ⟨0,3,none⟩=some (.int .i64 8)∧w.cell? ⟨0,4,none⟩=some (.int .i64 8)
theorem Wid.ext{w w':World}(h:Wid w)(hx:Ext w w'):Wid w':=
 ⟨hx.cell h.1,hx.cell h.2.1,hx.cell h.2.2.1,hx.cell h.2.2.2.1,hx.cell h.2.2.2.2⟩
theorem Zjz{w w1:World}{v0 v1 v2:Value}{t:TypeId}(hx:Ext (w.alloc (.cells #[v0,v1,v2] t)) w1) :
  w1.cell? w.heap.size=some v0∧w1.cell? ⟨w.heap.size,1,none⟩=some v1∧w1.cell? ⟨w.heap.size,2,none⟩=some v2:=
 ⟨hx.cell (Zg w _ t 0),hx.cell (Zg w _ t 1),hx.cell (Zg w _ t 2)⟩
theorem Zqn(c r w:Int):(Rt ⟨c,r,w⟩∧0≤c∧c<8∧0≤r∧0≤w∧r≤63∧w≤63-r)∨(¬Rt ⟨c,r,w⟩∧(c<0∨(0≤c∧8≤c)∨(0≤c∧c<8∧r<0)∨(0≤c∧c<8∧0≤r∧w<0)∨(0≤c∧c<8∧0≤r∧0≤w∧63<r)∨(0≤c∧c<8∧0≤r∧0≤w∧r≤63∧63-r<w))):=by
 unfold Rt;simp only;omega
theorem Tm(h:Hd)(b:Bool){w:World}(hb:decide (Rt h)=b) :
  Calls prog 164 #[.agg #[h.c,h.r,h.w]] w fun e w'=>e=.returned (.bool b)∧Ext w w':=by
 have hx:=(Zy2 w).alloc (.cells #[h.c,h.r,h.w] 78);obtain⟨c,r,q⟩:=h;simp only at hx ⊢;have k:=Zqn c r q;rcases k with ⟨k,k1,k2,k3,k4,k5,k6⟩|⟨k,h|⟨h1,h2⟩|⟨h1,h2,h3⟩|⟨h1,h2,h3,h4⟩|⟨h1,h2,h3,h4,h5⟩|⟨h1,h2,h3,h4,h5,h6⟩⟩
 ·have HB:=Za (show true=b by rw[←hb,Zyy k]);clear hb k;go_enter func164,ntmps164;go_wp2_with fail
  all_goals go_ret
  all_goals first|exact⟨Yg HB.out,hx⟩|exact⟨Yg ((Zyx (by omega)).trans HB.out),hx⟩|exact⟨Yg ((Zyy (by omega)).trans HB.out),hx⟩
 all_goals
  have HB:=Za (show false=b by rw[←hb,Zyx k]);clear hb k;go_enter func164,ntmps164;go_wp2_with fail
  all_goals go_ret
  all_goals first|exact⟨Yg HB.out,hx⟩|exact⟨Yg ((Zyx (by omega)).trans HB.out),hx⟩|exact⟨Yg ((Zyy (by omega)).trans HB.out),hx⟩
theorem Zdt{a:Option Addr}{cap:Nat}(h:Hd){w:World}(hk:Rt h)(hW:Wid w)(hA:At .u64 w a [0,h.w,h.r,h.c,199]) :
  Calls prog 352 #[.slice a 5 cap] w fun e w'=>e=.returned (.int .u64 (Uq h))∧Ext w w':=by
 have PK:=Za (Zgy hk);have HA:=Za hA;clear hA;obtain⟨g0,g1,g2,g3,g4⟩:=hW;have HB:Hid (∀n∈[0,h.w,h.r,h.c,199],0≤n∧n<18446744073709551616):=Za (by
  obtain⟨⟨k1,k2⟩,k3,k4,k5,k6⟩:=hk;intro n hn;simp at hn;rcases hn with rfl|rfl|rfl|rfl|rfl<;>omega)
 have M5:Hid ([0,h.w,h.r,h.c,199].length≤maxLen):=Za (show 5≤maxLen by decide);clear hk;go_enter func352,ntmps352;go_wp2_with fail;have h1:=(Zy2 w).alloc (.cells #[(16:Int),(16:Int),(16:Int),(8:Int),(8:Int)] 303);have HW:=Za (At.newb .i64 w Zjw 303 _ rfl);clear g0 g1 g2 g3 g4;refine(Fu Zjw _ _ 0 PK.out HW.out (by decide) (HA.out.ext h1) M5.out HB.out).ze fun w1 h2=>?_;go_wp2;go_ret;exact⟨rfl,h1.trans h2⟩
theorem Zqo(h:Hd)(p q:Int){w:World}(hpq:Zj7 h=(p,q))(hW:Wid w) :
  Calls prog 320 #[.agg #[h.c,h.r,h.w]] w fun e w'=>e=.returned (.tuple #[.int .u64 p,.int .i64 q])∧Ext w w':=by
 obtain⟨hx,h1⟩:=Zd w (.cells #[h.c,h.r,h.w] 78);have HW:=Za hW;clear hW;by_cases hk:Rt h
 ·have E:=Za (show(Uq h,0)=(p,q) by rw[←hpq,Ad hk]);have HB:=Za (show decide (Rt h)=true from Zyy hk);have HK:=Za hk;obtain⟨⟨k1,k2⟩,k3,k4,k5,k6⟩:=hk;clear hpq;go_enter func320,ntmps320;go_wp2_with fail;refine(Tm h true HB.out).ze fun w1 h2=>?_;replace h1:=h1.trans h2;obtain⟨b0,b1,b2⟩:=Zjz h1;go_wp2_with fail;have HA:=Za (At.newb .u64 w1 [0,h.w,h.r,h.c,199] 34 _ rfl);refine(Zdt h HK.out (HW.out.ext ((hx.trans h1).alloc _)) HA.out).ze fun w2 h2=>?_;go_wp2;go_ret2;cases E.out;exact⟨rfl,((hx.trans h1).alloc _).trans h2⟩
 ·obtain⟨rfl,rfl⟩:0=p∧2=q:=by rw[Zpc hk] at hpq;simpa using hpq
  have HB:=Za (show decide (Rt h)=false from Zyx hk);clear hpq hk;go_enter func320,ntmps320;go_wp2_with fail;refine(Tm h false HB.out).ze fun w1 h2=>?_;go_wp2;go_ret2;exact⟨rfl,hx.trans h2⟩
theorem I4(h:Hd)(p q:Int){w:World}(hpq:Xg h=(p,q)) :
  Calls prog 123 #[.agg #[h.c,h.r,h.w]] w fun e w'=>e=.returned (.tuple #[.int .i64 p,.int .i64 q])∧Ext w w':=by
 obtain⟨hx,h1⟩:=Zd w (.cells #[h.c,h.r,h.w] 78);by_cases hk:Rt h
 ·have E:=Za (show(h.r+h.w+1,0)=(p,q) by rw[←hpq];unfold Xg;rw[if_pos hk]);have HB:=Za (show decide (Rt h)=true from Zyy hk);obtain⟨⟨k1,k2⟩,k3,k4,k5,k6⟩:=hk;clear hpq;go_enter func123,ntmps123;go_wp2_with fail;refine(Tm h true HB.out).ze fun w1 h2=>?_;replace h1:=h1.trans h2;obtain⟨b0,b1,b2⟩:=Zjz h1;go_wp2;go_ret2;cases E.out;exact⟨rfl,hx.trans h1⟩
 ·obtain⟨rfl,rfl⟩:0=p∧2=q:=by unfold Xg at hpq;rw[if_neg hk] at hpq;simpa using hpq
  have HB:=Za (show decide (Rt h)=false from Zyx hk);clear hpq hk;go_enter func123,ntmps123;go_wp2_with fail;refine(Tm h false HB.out).ze fun w1 h2=>?_;go_wp2;go_ret2;exact⟨rfl,hx.trans h2⟩
theorem Fv(h:Hd)(i:Int)(p:Bool)(q:Int){w:World}(hpq:U5 h i=(p,q)) :
  Calls prog 246 #[.agg #[h.c,h.r,h.w],.int .i64 i] w fun e w'=>e=.returned (.tuple #[p,.int .i64 q])∧Ext w w':=by
 obtain⟨hx,h1⟩:=Zd w (.cells #[h.c,h.r,h.w] 78);by_cases hk:Rt h
 ·have HB:=Za (show decide (Rt h)=true from Zyy hk);unfold U5 at hpq;rw[if_pos hk] at hpq;obtain⟨⟨k1,k2⟩,k3,k4,k5,k6⟩:=hk;by_cases hi:i<0
  ·obtain⟨rfl,rfl⟩:false=p∧110=q:=by rw[if_pos (.inl hi)] at hpq;simpa using hpq
   clear hpq;go_enter func246,ntmps246;go_wp2_with fail;refine(Tm h true HB.out).ze fun w1 h2=>?_;replace h1:=h1.trans h2;obtain⟨b0,b1,b2⟩:=Zjz h1;go_wp2;go_ret2;exact⟨rfl,hx.trans h1⟩
  ·have hi0:0≤i:=by omega
   by_cases hj:h.r+h.w≤i
   ·obtain⟨rfl,rfl⟩:false=p∧110=q:=by rw[if_pos (.inr hj)] at hpq;simpa using hpq
    clear hpq;go_enter func246,ntmps246;go_wp2_with fail;refine(Tm h true HB.out).ze fun w1 h2=>?_;replace h1:=h1.trans h2;obtain⟨b0,b1,b2⟩:=Zjz h1;go_wp2;go_ret2;exact⟨rfl,hx.trans h1⟩
   ·have E:=Za (show(decide (i<h.r),(0:Int))=(p,q) by rw[←hpq,if_neg (by omega)]);clear hpq;replace hj:i<h.r+h.w:=by omega
    go_enter func246,ntmps246;go_wp2_with fail;refine(Tm h true HB.out).ze fun w1 h2=>?_;replace h1:=h1.trans h2;obtain⟨b0,b1,b2⟩:=Zjz h1;go_wp2;go_ret2;cases E.out;exact⟨rfl,hx.trans h1⟩
 ·obtain⟨rfl,rfl⟩:false=p∧2=q:=by unfold U5 at hpq;rw[if_neg hk] at hpq;simpa using hpq
  have HB:=Za (show decide (Rt h)=false from Zyx hk);clear hpq hk;go_enter func246,ntmps246;go_wp2_with fail;refine(Tm h false HB.out).ze fun w1 h2=>?_;go_wp2;go_ret2;exact⟨rfl,hx.trans h2⟩
theorem Zqp{u x0 x4:Int}{h:Hd}(e0:u % 65536=x0)(e4:u / 72057594037927936=x4)(eh:Mz u=h):Zjx u ↔ x0=0∧x4=199∧Rt h:=by
 unfold Zjx;rw[e0,e4,eh]
theorem Zqq(u:Int)(h:Hd)(q:Int){w:World}(hpq:Zgx u=(h,q))(h0:0≤u)(h1:u<18446744073709551616)(hW:Wid w) :
  Calls prog 158 #[.int .u64 u] w fun e w'=>e=.returned (.tuple #[.agg #[h.c,h.r,h.w],.int .i64 q])∧Ext w w':=by
 have UN0:=Af h0 h1;have U:=Za h1;obtain⟨c,r,x,hx⟩:∃c r x,Mz u=⟨c,r,x⟩:=⟨_,_,_,rfl⟩;obtain⟨x0,e0⟩:=Zb (u % 65536);obtain⟨x4,e4⟩:=Zb (u / 72057594037927936);have ec:u / 281474976710656 % 256=c:=congrArg Hd.c hx;have er:u / 4294967296 % 65536=r:=congrArg Hd.r hx;have ex:u / 65536 % 65536=x:=congrArg Hd.w hx;have c0:0≤c:=by omega
 have c1:c<256:=by omega
 have r0:0≤r:=by omega
 have r1:r<65536:=by omega
 have y0:0≤x:=by omega
 have y1:x<65536:=by omega
 have hi:=Zqp e0 e4 hx;rw[hx,e0,e4] at UN0;have UN:=Za UN0;have HX:=Za hx;clear UN0 hx h1 ec er ex e0 e4;obtain⟨g0,g1,g2,g3,g4⟩:=hW;have gz:0<w.heap.size:=Zj g0;have cases4:(∃m,(x0 != 0)=false∧(x4 != 199)=false∧decide (Rt ⟨c,r,x⟩)=m∧(h,q)=(if m then (⟨c,r,x⟩,0) else (Sw,5)))∨((x0 != 0)=false∧(x4 != 199)=true∧h=Sw∧q=5)∨((x0 != 0)=true∧h=Sw∧q=5):=by
  by_cases k0:x0=0
  ·by_cases k4:x4=199
   ·refine .inl ⟨_,by simpa using k0,by simpa using k4,rfl,?_⟩;by_cases k:Rt ⟨c,r,x⟩
    ·rw[Ae (hi.2 ⟨k0,k4,k⟩),HX.out] at hpq;simp only[k,decide_true];exact hpq.symm
    ·rw[Jb (fun a=>k (hi.1 a).2.2)] at hpq;simp only[k,decide_false];exact hpq.symm
   ·rw[Jb (fun a=>k4 (hi.1 a).2.1)] at hpq;cases hpq;exact .inr (.inl ⟨by simpa using k0,by simpa using k4,rfl,rfl⟩)
  ·rw[Jb (fun a=>k0 (hi.1 a).1)] at hpq;cases hpq;exact .inr (.inr ⟨by simpa using k0,rfl,rfl⟩)
 have C4:=Za cases4;clear cases4 hi hpq;go_enter func158,ntmps158;go_wp2_with fail;have hz:Ext w ((w.alloc (.cells #[(0:Int),(0:Int),(0:Int)] 78)).alloc (.cells #[(16:Int),(16:Int),(16:Int),(8:Int),(8:Int)] 303)):=((Zy2 w).alloc _).alloc _;have hz1:Ext (w.alloc (.cells #[(0:Int),(0:Int),(0:Int)] 78)) ((w.alloc (.cells #[(0:Int),(0:Int),(0:Int)] 78)).alloc (.cells #[(16:Int),(16:Int),(16:Int),(8:Int),(8:Int)] 303)):=(Zy2 _).alloc _;have HA:=Za (At.newb .i64 (w.alloc (.cells #[(0:Int),(0:Int),(0:Int)] 78)) Zjw 303 (w.heap.size+1) (by simp));clear g0 g1 g2 g3 g4;refine(Kn Zjw u _ 0 UN.out HA.out (by decide) h0 U.out).mono ?_;rintro e w2 ⟨la,lc,rfl,hn,hE2⟩;obtain⟨g,rfl,hg1,hg2,hg3⟩:=hn.own (show 0<5 by decide);obtain⟨b,o,hbo,hcell⟩:=hn.row.pos (show 0<5 by decide);cases hbo;have l0:=hcell 0 (show 0<5 by decide);have l1:=hcell 1 (show 1<5 by decide);have l2:=hcell 2 (show 2<5 by decide);have l3:=hcell 3 (show 3<5 by decide);have l4:=hcell 4 (show 4<5 by decide);simp only[Nat.zero_add] at l0 l1 l2 l3 l4;replace l0:w2.cell? g=some (.int .u64 x0):=l0;replace l1:w2.cell? ⟨g,1,none⟩=some (.int .u64 x):=l1;replace l2:w2.cell? ⟨g,2,none⟩=some (.int .u64 r):=l2;replace l3:w2.cell? ⟨g,3,none⟩=some (.int .u64 c):=l3;replace l4:w2.cell? ⟨g,4,none⟩=some (.int .u64 x4):=l4;have H2:=Za (hz1.trans hE2);have p0:=H2.out.cell (Zg w #[(0:Int),(0:Int),(0:Int)] 78 0);have p1:=H2.out.cell (Zg w #[(0:Int),(0:Int),(0:Int)] 78 1);have p2:=H2.out.cell (Zg w #[(0:Int),(0:Int),(0:Int)] 78 2);have q0:w2.frozen? w.heap.size=false:=H2.out.frozenAt (v:=.int .i64 0) (Zg w #[(0:Int),(0:Int),(0:Int)] 78 0) (by simp);have q1:w2.frozen? ⟨w.heap.size,1,none⟩=false:=H2.out.frozenAt (v:=.int .i64 0) (Zg w #[(0:Int),(0:Int),(0:Int)] 78 1) (by simp);have q2:w2.frozen? ⟨w.heap.size,2,none⟩=false:=H2.out.frozenAt (v:=.int .i64 0) (Zg w #[(0:Int),(0:Int),(0:Int)] 78 2) (by simp);have hlt:w.heap.size<w2.heap.size:=Zj p0;have Z:Ext w w2:=((Zy2 w).alloc _).trans H2.out;replace p0:w2.cell? w.heap.size=some (.int .i64 0):=p0;replace p1:w2.cell? ⟨w.heap.size,1,none⟩=some (.int .i64 0):=p1;replace p2:w2.cell? ⟨w.heap.size,2,none⟩=some (.int .i64 0):=p2;have HZ:=Za Z;clear hn hcell hg3 hz hE2 hg1 HA Z hz1;rcases C4.out with ⟨m,k0,k4,km,hm⟩|⟨k0,k4,rfl,rfl⟩|⟨k0,rfl,rfl⟩
 ·have KM:=Za km;clear km C4;have HM:=Za hm;clear hm;go_wp2_with fail
  go_region
  go_wp2_with fail;refine(Tm ⟨c,r,x⟩ m KM.out).ze fun w3 h2=>?_;have X3:Ext (w2.alloc (.cells #[.int .i64 c,.int .i64 r,.int .i64 x] 78)) w3:=(by repeat (first|exact Zy2 _|refine Ext.drew ?_):Ext _ _).trans h2;obtain⟨b0,b1,b2⟩:=Zjz X3;have Y3:=((Zy2 w2).alloc (.cells #[.int .i64 c,.int .i64 r,.int .i64 x] 78)).trans X3;have s0:=Y3.cell p0;have s1:=Y3.cell p1;have s2:=Y3.cell p2;have t0:=Y3.frozenAt p0 q0;have t1:=Y3.frozenAt p1 q1;have t2:=Y3.frozenAt p2 q2;have hl3:=Zj s0;clear p0 p1 p2 q0 q1 q2 h2;cases m
  ·obtain⟨rfl,rfl⟩:h=Sw∧q=5:=by have e:(h,q)=(Sw,5):=HM.out;simpa using e
   go_wp2_with fail;refine bodyPost_ret (v:=.tuple #[.agg #[(0:Int),(0:Int),(0:Int)],(5:Int)]) (by simp[results,results158,go_sem,s0,s1,s2,Zyz,Zy0]) rfl ⟨rfl,?_⟩
   repeat (first|exact HZ.out.trans Y3|refine Ext.setCell ?_ (Zy1 _) _)
  ·obtain⟨rfl,rfl⟩:h=⟨c,r,x⟩∧q=0:=by have e:(h,q)=(⟨c,r,x⟩,0):=HM.out;simpa using e
   go_wp2_with fail;refine bodyPost_ret (v:=.tuple #[.agg #[.int .i64 c,.int .i64 r,.int .i64 x],(0:Int)]) (by simp[results,results158,go_sem,s0,s1,s2,Zyz,Zy0]) rfl ⟨rfl,?_⟩
   repeat (first|exact HZ.out.trans Y3|refine Ext.setCell ?_ (Zy1 _) _)
 all_goals
  go_wp2_with fail
  go_region
  go_wp2_with fail;refine bodyPost_ret (v:=.tuple #[.agg #[(0:Int),(0:Int),(0:Int)],(5:Int)]) (by simp[results,results158,go_sem,p0,p1,p2,hlt,World.cell?_alloc_past,Zyz,Zy0]) rfl ⟨rfl,?_⟩
  repeat (first|exact HZ.out|refine Ext.drew ?_|refine Ext.alloc ?_ _|refine Ext.setCell ?_ (Zy1 _) _)
end Go.Proofs.YtfcldaembdedjaaGreatDoor
