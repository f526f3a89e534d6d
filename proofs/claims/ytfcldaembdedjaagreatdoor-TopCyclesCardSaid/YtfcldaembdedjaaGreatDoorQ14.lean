/-
  Parts of the proof of TopCycles: Farm, SwpN, Copy3, Pins7, Mk8, Rep, Rep2, Tab6, MemT, Body6, SlotN, CycN.
-/
import Derived.Test.YtfcldaembdedjaaGreatDoorQ13
import Derived.Laws.MakeOwn
set_option linter.unusedVariables false
set_option linter.unusedSimpArgs false
set_option maxRecDepth 100000
set_option maxHeartbeats 16000000
namespace Go.Proofs.YtfcldaembdedjaaGreatDoor
open Go.RowKit Tryz
section
structure FB where
 fb:Nat
 mb:Nat
 gw:Nat
 gm:Nat
 ca:Nat
 cc:Nat
 ta:Nat
 tc:Nat
 hg:Nat
 hcap:Nat
 H:Nat→HB
 lo:Nat
 hi:Nat
def FB.fmP(M:FB)(k:Nat):Prop:=M.lo≤k∧k<M.hi
def fcs(M:FB)(c:Zh):List Value:=[.slice (some ⟨M.ca,0,none⟩) c.cl.length M.cc,.int .i64 c.page,.slice (some ⟨M.ta,0,none⟩) c.ts.length M.tc,.int .i64 c.wk,.int .i64 c.gr,.int .i64 c.gens,(M.mb:Value),.slice (some ⟨M.hg,0,none⟩) c.ts.length M.hcap]
structure Hs(w:World)(M:FB)(c:Zh)(n:Nat)(X:Nat→HP)(ws:List Int):Prop where
 box:Zn w M.fb (fcs M c)
 row:∀i,i<c.ts.length→w.cell? ⟨M.hg,i,none⟩=some (.pointer (some ⟨(M.H i).hb,0,none⟩))
 hp:∀i,i<c.ts.length→Zv w (M.H i) c i n (X i)
 me:∀i,i<c.ts.length→(M.H i).B.mb=M.mb∧(M.H i).B.gw=M.gw∧(M.H i).B.gm=M.gm
 ws:∀i,i<c.ts.length→(X i).y.ws=ws
 ord:∀i j,i<j→j<c.ts.length→(M.H i).hi≤(M.H j).B.yb
 inn:∀i,i<c.ts.length→M.lo≤(M.H i).B.yb∧(M.H i).hi≤M.hi
 gl:M.lo≤M.gw∧M.gw<M.hi
 off:∀i,i<c.ts.length→(M.fb<(M.H i).B.yb∨(M.H i).hi≤M.fb)∧(M.hg<(M.H i).B.yb∨(M.H i).hi≤M.hg)
 ne:M.fb≠M.gw∧M.hg≠M.gw
 fl:M.fb<M.hi∧M.hg<M.hi
 top:M.hi≤w.heap.size
 cap:c.ts.length≤M.hcap∧M.hcap≤maxLen
 pos:1≤c.ts.length
variable{w w':World}{H:HB}{M:FB}{c:Zh}{t n a d F:Nat}{X:Nat→HP}{ws ws':List Int}{x x':HP}{o:OpI}
theorem Zv.other{P:Nat→Prop}(h:Zv w H c t n x)(hx:Chg P w w')(hP:∀k,P k→k=H.B.gw∨((k<H.B.yb∨H.hi≤k)∧k≠H.B.mb∧k≠H.B.gm∧k≠0∧k≠2))
  (hm:Yo w' H.B.mb H.B.gw H.B.gm c ws') (wo:WOk ws'):Zv w' H c t n (Zuw x ws'):=by
 obtain⟨o1,o2,o3,o4,o5,o6,o7,o8,o9,o10⟩:=h.cy.i.k.ord;have p9:=h.cy.i.o9;obtain⟨q1,q2,q3,q4,q5⟩:=h.ord;have hQ:∀k,k≠H.B.gw→((H.B.yb≤k∧k<H.hi)∨k=H.B.mb∨k=H.B.gm∨k=0∨k=2)→¬P k:=fun k h1 h2 q=>by
  rcases hP k q with e|e
  ·exact h1 e
  ·omega
 have mk:=h.cy.i.k;have bd:Zy w' H.B.bb H.B.mb H.B.gw H.B.gm H.B.pb H.B.gp c t ws':=⟨mk.body.box.chg hx (hQ _ (by omega) (by omega)),hm,mk.body.plan.chg hx (hQ _ (by omega) (by omega)) (hQ _ (by omega) (by omega)),mk.body.wid.chg hx (hQ _ (by omega) (by omega)),wo,mk.body.ne⟩;have mk':Ye w' H.B c t n c.gens ws' x.y.l x.y.ms x.y.m:=⟨mk.ord,bd,mk.tab.chg hx (hQ _ (by omega) (by omega)) (hQ _ (by omega) (by omega)),
  mk.pin.chgP hx (hQ _ (by omega) (by omega)) ⟨hQ _ (by omega) (by omega),hQ _ (by omega) (by omega)⟩ (hQ _ (by omega) (by omega)),mk.pl,mk.box.chg hx (hQ _ (by omega) (by omega)),mk.hands.chg mk.hl.1 hx (hQ _ (by omega) (by omega)),mk.hl,mk.tint.chg hx (hQ _ (by omega) (by omega)) (hQ _ (by omega) (by omega)),
  mk.grey.chgG hx (hQ _ (by omega) (by omega)) ⟨hQ _ (by omega) (by omega),hQ _ (by omega) (by omega)⟩ ⟨hQ _ (by omega) (by omega),hQ _ (by omega) (by omega)⟩ ⟨hQ _ (by omega) (by omega),hQ _ (by omega) (by omega)⟩ (hQ _ (by omega) (by omega)),mk.dbr.chgT hx (hQ _ (by omega) (by omega)),mk.ok,mk.st,Zy6 mk.top hx.size⟩
 have i:=h.cy.i;have i':Vl w' H.B c t n c.gens { x.y with ws:=ws' }:=⟨mk',i.ar.chgA hx ⟨hQ _ (by omega) (by omega),hQ _ (by omega) (by omega),hQ _ (by omega) (by omega)⟩ ⟨hQ _ (by omega) (by omega),hQ _ (by omega) (by omega)⟩,i.box.chg hx (hQ _ (by omega) (by omega)),i.row.chg hx (hQ _ (by omega) (by omega)) fun _=>hQ _ (by omega) (by omega),i.o9,i.dl,i.sl,Zy6 i.top hx.size⟩;exact⟨⟨⟨i',h.cy.box.chg hx (hQ _ (by omega) (by omega)),h.cy.st,h.cy.ph⟩,h.cy.le⟩,h.pc.chg hx (hQ _ (by omega) (by omega)),h.box.chg hx (hQ _ (by omega) (by omega)),h.cfg.chg hx (hQ _ (by omega) (by omega)) (hQ _ (by omega) (by omega)),h.ord,Zy6 h.top hx.size,h.wk⟩
theorem Hs.chg{P:Nat→Prop}(h:Hs w M c n X ws)(hx:Chg P w w')(hP:∀k,k<M.hi→¬P k):Hs w' M c n X ws:=
 ⟨h.box.chg hx (hP _ h.fl.1),fun i hi=>hx.cell (hP _ h.fl.2) (h.row i hi),fun i hi=>(h.hp i hi).chg hx fun k hk=>hP k (Zy5 hk (h.inn i hi).2),h.me,h.ws,h.ord,h.inn,h.gl,h.off,h.ne,h.fl,Zy6 h.top hx.size,h.cap,h.pos⟩
theorem Hs.ext(h:Hs w M c n X ws)(hx:Ext w w'):Hs w' M c n X ws:=h.chg (P:=fun _=>False) (Zy3 hx) (fun _ _ a=>a)
theorem Hs.turn(h:Hs w M c n X ws)(ht:t<c.ts.length)(hp:Zv w' (M.H t) c t n x')(hx:Chg (M.H t).hpP w w'):Hs w' M c n (Ol X t x') x'.y.ws∧Chg M.fmP w w':=by
 have bt:=hp.cy.i.k.body;obtain⟨m1,m2,m3⟩:=h.me t ht;have io:=h.inn t ht;have gl:=h.gl;have ob:=hp.cy.i.k.ord;have ox:=hp.yb;have ok:=hp.ord;have hP:∀k,(M.H t).hpP k→k=M.gw∨((M.H t).B.yb≤k∧k<(M.H t).hi):=fun k q=>by unfold HB.hpP at q;omega
 have hf:∀k,(M.H t).hpP k→M.fmP k:=fun k q=>by
  have:=hP k q;unfold FB.fmP;omega
 have of_:=h.off t ht;have ne:=h.ne;have nP:∀k,k≠M.gw→(k<(M.H t).B.yb∨(M.H t).hi≤k)→¬(M.H t).hpP k:=fun k h1 h2 q=>by
  rcases hP k q with e|e
  ·exact h1 e
  ·omega
 refine⟨⟨h.box.chg hx (nP _ ne.1 of_.1),fun i hi=>hx.cell (nP _ ne.2 of_.2) (h.row i hi),fun i hi=>?_,h.me,fun i hi=>?_,h.ord,h.inn,h.gl,h.off,h.ne,h.fl,Zy6 h.top hx.size,h.cap,h.pos⟩,hx.mono hf⟩
 ·by_cases e:i=t
  ·subst e;unfold Ol;rw[if_pos rfl];exact hp
  ·unfold Ol;rw[if_neg e];obtain⟨n1,n2,n3⟩:=h.me i hi;have hm:=bt.mem;rw[m1,m2,m3,←n1,←n2,←n3] at hm;have oi:=(h.hp i hi).cy.i.k.ord;have od:(M.H i).hi≤(M.H t).B.yb∨(M.H t).hi≤(M.H i).B.yb:=by
    rcases Nat.lt_or_gt_of_ne e with q|q
    ·exact .inl (h.ord i t q ht)
    ·exact .inr (h.ord t i q hi)
   have om:=ob.m;have og:=ob.g;have pm:=oi.m;have pg:=oi.g;refine(h.hp i hi).other hx (fun k q=>?_) hm bt.ok;rcases hP k q with z|z
   ·exact .inl (by rw[n2];exact z)
   ·refine .inr ⟨by omega,?_,?_,?_,?_⟩
    ·intro e2;rw[n1] at e2;rw[m1] at om;omega
    ·intro e2;rw[n3] at e2;rw[m3] at om;omega
    ·intro e2;omega
    ·intro e2;omega
 ·by_cases e:i=t
  ·subst e;unfold Ol;rw[if_pos rfl]
  ·unfold Ol;rw[if_neg e];rfl
theorem Mt(h:Hs w M c n X ws):Calls prog 40 #[M.fb] w fun e w'=>e=.returned (.bool false)∧w=w':=by
 have c6:=h.box.c 6 _ rfl;clear h;go_enter func40,ntmps40;go_wp2;go_ret;exact⟨rfl,rfl⟩
theorem Zux{g N cap i:Nat}{v:Value}(hc:w.cell? ⟨g,i,none⟩=some v)(hi:i<N):Calls prog 41 #[.slice (some ⟨g,0,none⟩) N cap,(i:Int)] w fun e w'=>e=.returned v∧w=w':=by
 have t0:decide ((0:Int)≤(i:Int))=true:=Zyy (by omega);have t1:decide ((i:Int)<(N:Int))=true:=Zyy (by omega);go_enter func41,ntmps41;go_wp2;go_ret;exact⟨rfl,rfl⟩
theorem Zjf{g N cap:Nat}{i:Int}(h0:0≤i)(hi:(N:Int)≤i):Calls prog 41 #[.slice (some ⟨g,0,none⟩) N cap,.int .i64 i] w fun e w'=>e=.returned (.pointer none)∧w=w':=by
 have t0:decide ((0:Int)≤i)=true:=Zyy (by omega);have t1:decide (i<(N:Int))=false:=Zyx (by omega);go_enter func41,ntmps41;go_wp2;go_ret;exact⟨rfl,rfl⟩
theorem Ht(h:Hs w M c n X ws)(ht:t<c.ts.length):Calls prog 11 #[M.fb,(t:Int)] w fun e w'=>e=.returned (.pointer (some ⟨(M.H t).hb,0,none⟩))∧w=w':=by
 have c7:=h.box.c 7 _ rfl;have FN:=Za (Mt h);have AT:=Za (Zux (N:=c.ts.length) (cap:=M.hcap) (h.row t ht) ht);clear h ht;go_enter func11,ntmps11;go_wp2_with fail;refine(FN.out).zz ?_;go_wp2_with fail;refine(AT.out).zz ?_;go_wp2;go_ret;exact⟨rfl,rfl⟩
theorem Kr{i:Int}(h:Hs w M c n X ws)(h0:0≤i)(hi:(c.ts.length:Int)≤i):Calls prog 11 #[M.fb,.int .i64 i] w fun e w'=>e=.returned (.pointer none)∧w=w':=by
 have c7:=h.box.c 7 _ rfl;have FN:=Za (Mt h);have AT:=Za (fun W:World=>Zjf (w:=W) (g:=M.hg) (N:=c.ts.length) (cap:=M.hcap) h0 hi);clear h h0 hi;go_enter func11,ntmps11;go_wp2_with fail;refine(FN.out).zz ?_;go_wp2_with fail;refine(AT.out _).zz ?_;go_wp2;go_ret;exact⟨rfl,rfl⟩
theorem Zv.fuel(h:Zv w H c t n x):Z7 c t x.y.l<fuel:=by have:=h.most;unfold Go.Proofs.YtfcldaembdedjaaGreatDoor.fuel;omega
theorem Zuy(h:Hs w M c n X ws)(ht:t<c.ts.length)(ho:Zvu o)(hk:HOk c t n c.gens c.wk a d (X t))(ha:a+1≤1048576)(hd:d+4≤1048576) :
  Calls prog 75 #[M.fb,(t:Int),opV o] w fun e w'=>∃(f:Int) (r:HP × Sn),hDo c t n c.gens fuel f (X t) o=r∧e=.returned (.tuple #[snV r.2,(0:Int)])∧Hs w' M c n (Ol X t r.1) r.1.y.ws∧Chg M.fmP w w':=by
 have hw:HW c t n a d fuel (X t):=⟨hk,by omega,by omega,(h.hp t ht).fuel⟩;obtain⟨z,hz⟩:=Zb (w.heap.size);obtain⟨W0,hW0,o0,x0⟩:=OpW.new (h.hp t ht) o 36 42 hz;have HZ:Hid ((M.H t).hi≤z∧w.heap.size≤z):=Za ⟨by have:=(h.hp t ht).top;omega,by omega⟩;have H0:=h.ext x0;have FN:=Za (Mt H0);have HE:=Za (Ht H0 ht);have DO:=Za (Zxy o0.at_ ho hw ha hd);have FIN:=Za (fun W' x' (q:Zv W' (M.H t) c t n x') (hx:Chg (M.H t).hpP w W')=>h.turn ht q hx);have O0:=Za o0;obtain⟨oc,oh,oa,ob,ov⟩:=o;unfold opV at DO ⊢;obtain⟨k0,k1,k2,k3,k4⟩:=O0.out.b0.k5;clear h ho hk hw H0 x0 o0;go_enter func75,ntmps75;go_wp2_with fail;refine(FN.out).zz ?_;go_wp2_with fail;refine(HE.out).zz ?_;go_wp2_with fail;refine DO.out.mono ?_;rintro e w1 ⟨f,rfl,a1,x1⟩;obtain⟨r,hr⟩:=Zb (hDo c t n c.gens fuel f (X t) ⟨oc,oh,oa,ob,ov⟩);rw[hr] at a1 ⊢;have HR:=Za hr;have QT:=Za (O0.out.go HZ.out.1 x1 a1);clear hr a1 x1 DO;obtain⟨xr,s0,s1,s2,s3,s4,s5,s6,s7⟩:=r;unfold snV
 (try simp only at QT ⊢)
 obtain⟨q0,q1,q2,q3,q4,q5,q6,q7⟩:=QT.out.b1.k8;obtain⟨r0,r1,r2,r3,r4,r5,r6,r7⟩:=QT.out.b1.g8;go_wp2_with fail;obtain⟨p0,p1,p2,p3,p4,p5,p6,p7,hfa,hfc⟩:=QT.out.fin HZ.out (.int .i64 s0) (.int .u64 s1) (.int .u64 s2) (.int .i64 s3) (.int .i64 s4) (.int .i64 s5) (.int .i64 s6) (.bool s7);refine bodyPost_ret (v:=.tuple #[.agg #[s0,.int .u64 s1,.int .u64 s2,s3,s4,s5,s6,s7],(0:Int)]) (by simp[results,results75,go_sem,p0,p1,p2,p3,p4,p5,p6,p7]) rfl ?_;exact⟨f,_,HR.out,rfl,FIN.out _ _ hfa hfc⟩
theorem Er{i:Int}(h:Hs w M c n X ws)(h0:0≤i)(hi:(c.ts.length:Int)≤i) :
  Calls prog 75 #[M.fb,.int .i64 i,opV o] w fun e w'=>e=.returned (.tuple #[snV (Z9 0),(2:Int)])∧Ext w w':=by
 obtain⟨z,hz⟩:=Zb (w.heap.size);obtain⟨oc,oh,oa,ob,ov⟩:=o;obtain⟨W0,hW0⟩:=Zb ((w.alloc (.cells #[.int .u8 oc,.int .u64 oh,oa,ob,.int .u64 ov] 36)).alloc (.cells #[(0:Int),.int .u64 0,.int .u64 0,(0:Int),(0:Int),(0:Int),(0:Int),false] 42));have x0:Ext w W0:=by rw[←hW0];exact((Zy2 w).alloc _).alloc _
 have b1:Zn W0 (z+1) Nl:=by rw[←hW0];exact Zn.new _ Nl 42 (by simp[hz])
 have H0:=h.ext x0;have FN:=Za (Mt H0);have HE:=Za (Kr H0 h0 hi);have X0:=Za x0;have B1:=Za b1;have SZ:=Za (show w.heap.size≤z+1 by omega);unfold opV;unfold Nl at b1;obtain⟨q0,q1,q2,q3,q4,q5,q6,q7⟩:=b1.k8;obtain⟨r0,r1,r2,r3,r4,r5,r6,r7⟩:=b1.g8;clear h h0 hi H0 x0 b1;go_enter func75,ntmps75;go_wp2_with fail;refine(FN.out).zz ?_;go_wp2_with fail;refine(HE.out).zz ?_;go_wp2_with fail;have q:=B1.out.put8 (.int .i64 0) (.int .u64 0) (.int .u64 0) (.int .i64 0) (.int .i64 0) (.int .i64 0) (.int .i64 0) (.bool false);have cx:=Tn W0 (z+1) (.int .i64 0) (.int .u64 0) (.int .u64 0) (.int .i64 0) (.int .i64 0) (.int .i64 0) (.int .i64 0) (.bool false);obtain⟨p0,p1,p2,p3,p4,p5,p6,p7⟩:=q.k8;refine bodyPost_ret (v:=.tuple #[.agg #[(0:Int),.int .u64 0,.int .u64 0,(0:Int),(0:Int),(0:Int),(0:Int),false],(2:Int)]) (by simp[results,results75,go_sem,p0,p1,p2,p3,p4,p5,p6,p7]) rfl ?_;exact⟨rfl,cx.over X0.out fun k e=>by have e1:k=z+1:=e;have:=SZ.out;omega⟩
theorem Zen:Calls prog 42 #[.pointer none] w fun e w'=>e=.returned (.bool true)∧w=w':=by
 go_enter func42,ntmps42;go_wp2;go_ret;exact⟨rfl,rfl⟩
theorem Zeo{k i:Int}:Calls prog 110 #[.pointer none,.int .i64 k,.int .u8 i] w fun e w'=>e=.returned (.bool false)∧w=w':=by
 have HN:=Za (fun W:World=>Zen (w:=W));go_enter func110,ntmps110;go_wp2_with fail;refine(HN.out _).zz ?_;go_wp2;go_ret;exact⟨rfl,rfl⟩
theorem Zns{k i j:Int}{a d:Nat}(h:Hs w M c n X ws)(hk:Wo c n a d X ws)(h0:0≤i) :
  Calls prog 74 #[M.fb,.agg #[.int .i64 k,.int .i64 i,.int .u8 j]] w fun e w'=>∃(r:Bool) (X':Nat→HP) (ws':List Int),e=.returned (.bool r)∧Hs w' M c n X' ws'∧Chg M.fmP w w'∧Wo c n a d X' ws'∧∀t,t<c.ts.length→Hr c t n a d (X t) (X' t):=by
 obtain⟨z,hz⟩:=Zb (w.heap.size);obtain⟨W0,hW0⟩:=Zb (w.alloc (.cells #[.int .i64 k,.int .i64 i,.int .u8 j] 172));have x0:Ext w W0:=by rw[←hW0];exact(Zy2 w).alloc _
 have b0:Zn W0 z [.int .i64 k,.int .i64 i,.int .u8 j]:=by rw[←hW0];exact Zn.new w [.int .i64 k,.int .i64 i,.int .u8 j] _ hz
 have H0:=h.ext x0;have NOP:∀W,Ext W0 W→Hs W M c n X ws∧Chg M.fmP w W∧Wo c n a d X ws∧∀t,t<c.ts.length→Hr c t n a d (X t) (X t):=fun W q=>⟨H0.ext q,(Zy3 x0).trans (Zy3 q),hk,fun t ht=>Hr.refl (hk.ok t ht)⟩
 have HZ:∀W W',Ext W0 W→Chg M.fmP W W'→∀i v,W0.cell? ⟨z,i,none⟩=some v→W'.cell? ⟨z,i,none⟩=some v:=fun W W' q x i v e=>x.cell (fun a=>by have:=h.top;unfold FB.fmP at a;(try simp only at a);omega) (q.cell e)
 by_cases hi:i<(c.ts.length:Int)
 ·obtain⟨t,rfl⟩:=Int.eq_ofNat_of_zero_le h0;have ht:t<c.ts.length:=by omega
  have HE:=Za (fun W (q:Ext W0 W)=>Ht (H0.ext q) ht);have ST:Hid (∀W,Ext W0 W→Calls prog 110 #[.pointer (some ⟨(M.H t).hb,0,none⟩),.int .i64 k,.int .u8 j] W fun e w'=>(∀i v,W0.cell? ⟨z,i,none⟩=some v→w'.cell? ⟨z,i,none⟩=some v)∧∃(r:Bool),e=.returned (.bool r)∧∃(X':Nat→HP) (ws':List Int),Hs w' M c n X' ws'∧Chg M.fmP w w'∧Wo c n a d X' ws'∧∀t,t<c.ts.length→Hr c t n a d (X t) (X' t)):=Za fun W q=>by
   by_cases hk2:0≤k∧k<c.wk
   ·have st:=(hk.ok t ht).y.st.1;have mo:=(h.hp t ht).most;obtain⟨y',r,hr⟩:∃y' r,Re c t n c.wk (X t).y k j=(y',r):=⟨_,_,rfl⟩;refine(Zuu ((H0.ext q).hp t ht) (by omega) hk2 hr).mono fun e w' z=>?_
    obtain⟨f1,f2⟩:=(H0.ext q).turn ht z.2.1 z.2.2;have as_:=hk.step ht k j;rw[hr] at as_;exact⟨HZ _ _ q f2,r,z.1,_,_,f1,(Zy3 (x0.trans q)).trans f2,as_.1,as_.2⟩
   ·refine(Zjb ((H0.ext q).hp t ht) (by omega)).mono fun e w' z=>?_
    obtain⟨z1,rfl⟩:=z;exact⟨fun i v e=>q.cell e,false,z1,_,_,NOP _ q⟩
  obtain⟨k0,k1,k2⟩:=b0.k3;have H1:=Za (HE.out W0 (Zy2 _));have H2:=Za (HE.out W0.drew (Zy2 _).drew);have S2:=Za (ST.out W0.drew (Zy2 _).drew);clear h hk h0 hi NOP HZ H0 ht b0 HE ST;go_enter func74,ntmps74;go_wp2_with fail
  go_region_held3 (fun W'=>W'.cell? ⟨z,0,none⟩=some (.int .i64 k)∧W'.cell? ⟨z,1,none⟩=some (.int .i64 (t:Int))∧W'.cell? ⟨z,2,none⟩=some (.int .u8 j))
   ((first|go_keep|assumption|(go_split_ands;assumption)))
   (first|(go_at_call 11;with_reducible refine H2.out.zz ?_)|(go_at_call 110;with_reducible refine S2.out.mono ?_;rintro e w2 ⟨zc,r,rfl,Q2⟩;have z0:=zc 0 _ k0;have z1:=zc 1 _ k1;have z2:=zc 2 _ k2)|fail)
  all_goals
   have QQ:=Za Q2;clear Q2 zc;go_wp2;go_ret;obtain⟨X',ws',q1,q2,q3,q4⟩:=QQ.out;exact⟨r,X',ws',rfl,q1,q2,q3,q4⟩
 ·have H2:=Za (Kr (H0.ext (Zy2 _).drew) h0 (by omega));have S2:=Za (Zeo (w:=W0.drew) (k:=k) (i:=j));have FIN:=Za (NOP W0.drew (Zy2 _).drew);obtain⟨k0,k1,k2⟩:=b0.k3;clear h hk h0 hi NOP HZ H0 b0;go_enter func74,ntmps74;go_wp2_with fail
  go_region_held3 (fun W'=>W'.cell? ⟨z,0,none⟩=some (.int .i64 k)∧W'.cell? ⟨z,1,none⟩=some (.int .i64 i)∧W'.cell? ⟨z,2,none⟩=some (.int .u8 j))
   ((first|go_keep|assumption|(go_split_ands;assumption)))
   (first|(go_at_call 11;with_reducible refine H2.out.zz ?_)|(go_at_call 110;with_reducible refine S2.out.zz ?_)|fail)
  all_goals
   go_wp2;go_ret;exact⟨false,X,ws,rfl,FIN.out⟩
end
section
variable{w w':World}{B:CB}{c:Zh}{t n:Nat}{gens:Int}{ws:List Int}{l:List Ent}{ms:List Int}{m:MK}{bs:List Bool}
def Zuz(w:World)(B:CB)(c:Zh)(t n:Nat)(gens:Int)(y:CY)(e:Ending)(w':World):Prop:=
 ∃sb sr sg,e=.returned (.tuple #[.pointer (some ⟨sb,0,none⟩),(0:Int)])∧Ext w w'∧Vl w' { B with sb,sr,sg,a9:=w'.heap.size } c t n gens y
theorem Znt(hm:Ye w B c t n gens ws l ms m)(ha:X7 w B.ab B.pb B.gp B.ar B.ag c t bs) :
  Calls prog 144 #[B.pb,B.ab,B.bb,B.kb] w (Zuz w B c t n gens ⟨ws,bs,l,ms,m,⟨List.replicate (nS c t) false,0,false⟩,0,0⟩):=by
 have hb:=hm.body;have ho:=hb.plan.ok;have hti:=hb.plan.ti;have sn:=ho.nS_eq hti;have sle:=ho.nS_le hti;have spo:=ho.nS_pos hti;obtain⟨hd0,q0,hq0⟩:∃hd q,Zz c t ws 0=(hd,q):=⟨_,_,rfl⟩;have q1:q0≠1:=by
  unfold Zz at hq0;split at hq0
  ·split at hq0
   ·cases hq0;decide
   ·cases hq0;decide
  ·cases hq0;decide
 have tq:(q0==1)=false:=by simpa using q1
 obtain⟨p1,k1,hk1⟩:∃p k,Iv m.col 0=(p,k):=⟨_,_,rfl⟩;have r1:k1≠1:=by
  unfold Iv at hk1;split at hk1<;>(cases hk1;decide)
 have tr:(k1==1)=false:=by simpa using r1
 have M:=Za hm;have AR:=Za ha;have HD:=Za (Xf hb hq0);have OF:=Za (fun W (q:Ext w W)=>I7 (hm.ext q) hk1);have SL:=Za (fun W (q:Ext w W)=>Ff ((hm.ext q).body.plan));have CP:=Za (fun W (q:Ext w W)=>Zh5 (ha.ext q));rw[←sn] at SL;have BN:=Za (fun W:World=>N7 (w:=W) (nS c t) (by omega));obtain⟨N,hN⟩:=Zb (nS c t);have tn:decide (((N:Nat):Int)=0)=false:=Zyx (by omega);have tn2:(((N:Nat):Int)==0)=false:=by
  have:((N:Nat):Int)≠0:=by omega
  simpa using this
 rw[hN] at SL BN;have SP:=Za (And.intro spo hN);clear hm ha hb ho hti sn sle spo q1 r1 hq0 hk1 hN;go_enter func144,ntmps144;go_wp2_with fail;refine HD.out.ze fun w1 x1=>?_;obtain⟨W2,hW2⟩:=Zb (w1.alloc (.cells #[hd0.c,hd0.r,hd0.w] 78));have x2:Ext w W2:=by rw[←hW2];exact x1.alloc _
 clear x1;go_wp2_with fail;refine(OF.out _ x2).zz ?_;clear hW2;go_wp2_with fail;refine(SL.out _ x2).zz ?_;go_wp2_with fail;refine(CP.out _ x2).mono ?_;rintro e w3 ⟨r,rfl,b3,rb3,rg3,rfl,aa,l1,l2,l3,x3⟩;have X3:=x2.trans x3;clear aa l1 l2 l3 x3 x2;go_wp2_with fail;refine(SL.out _ X3).zz ?_;go_wp2_with fail;refine(BN.out _).mono ?_;rintro e w4 ⟨rb,rg,rfl,hrow,l1,l2,x4⟩;have X4:=X3.trans x4;go_wp2;go_ret2;have x5:Ext w (w4.alloc (.cells (Zj0 { B with sb:=w4.heap.size,sr:=rb,sg:=rg } ⟨List.replicate (nS c t) false,0,false⟩).toArray 292)):=X4.alloc _;have Zjz:Zn (w4.alloc (.cells (Zj0 { B with sb:=w4.heap.size,sr:=rb,sg:=rg } ⟨List.replicate (nS c t) false,0,false⟩).toArray 292)) w4.heap.size (Zj0 { B with sb:=w4.heap.size,sr:=rb,sg:=rg } ⟨List.replicate (nS c t) false,0,false⟩):=Zn.new w4 _ _ rfl;have e5:(w4.alloc (.cells (Zj0 { B with sb:=w4.heap.size,sr:=rb,sg:=rg } ⟨List.replicate (nS c t) false,0,false⟩).toArray 292)).heap.size=w4.heap.size+1:=by simp
 obtain⟨W5,hW5⟩:∃W5,w4.alloc (.cells (Zj0 { B with sb:=w4.heap.size,sr:=rb,sg:=rg } ⟨List.replicate (nS c t) false,0,false⟩).toArray 292)=W5:=⟨_,rfl⟩;rw[hW5] at x5 Zjz e5;have h5:=M.out.ext x5;have a5:=AR.out.ext x5;have s3:=X3.size;have s4:=x4.size;have hx45:Ext w4 W5:=by rw[←hW5];exact(Zy2 w4).alloc _
 have r5:=hrow.ext hx45;obtain⟨o1,o2,o3,o4,o5,o6,o7,o8,o9,o10⟩:=h5.ord;have tp:=M.out.top;have sp:=SP.out;have lg:=l2 (by omega);have gl:rg<w4.heap.size:=hrow.glt (by rw[Zza];omega);have bl:rb<w4.heap.size:=hrow.lt;show Zuz w B c t n gens _ _ (w4.alloc (.cells (Zj0 { B with sb:=w4.heap.size,sr:=rb,sg:=rg } ⟨List.replicate (nS c t) false,0,false⟩).toArray 292))
 rw[hW5];refine⟨w4.heap.size,rb,rg,rfl,x5,⟨⟨⟨o1,o2,o3,o4,o5,o6,o7,o8,o9,o10⟩,h5.body,h5.tab,h5.pin,h5.pl,h5.box,h5.hands,h5.hl,h5.tint,h5.grey,h5.dbr,h5.ok,h5.st,h5.top⟩,a5,Zjz,?_,?_,?_,?_,?_⟩⟩
 ·rw[sp.2];exact r5
 ·simp only;omega
 ·simp
 ·exact Nat.zero_le _
 ·exact Zy1 _
end
section
variable{P:Program}
theorem Po(w:World)(dT sT ty elem:TypeId)(z b o dLen dCap:Nat)(a:Addr)(sLen sCap:Nat)(cs:List Value)
  (hu:P.underlying dT=some (.slice elem)) (hs:(P.info? elem).map (·.size)=some z) (hn:cs.length=Nat.min sLen dLen*z)
  (hsrc:∀j v,cs[j]?=some v→w.cell? (a.add j)=some v) (hc:∀j,j<cs.length→(w.cell? ⟨b,o+j,none⟩).isSome=true) (hf:∀j,j<cs.length→w.frozen? ⟨b,o+j,none⟩=false) (h1:∀v∈cs,v.oneCell'=true) :
  (Builtin.copy_ #[dT,sT] ty #[.slice (some ⟨b,o,none⟩) dLen dCap,.slice (some a) sLen sCap]).run P w=.ok (goInt (Nat.min sLen dLen)) (w.setCells b o cs):=by
 have hl:=run_loadCells_list (P:=P) w a cs hsrc;have hst:=run_storeCells_cells (P:=P) b o cs 0 w (by simpa using hc) (by simpa using hf) h1;cases hq:P.info? elem with
 | none=>simp[hq] at hs
 | some i=>
  have hi:i.size=z:=by simpa [hq] using hs
  simp[Builtin.copy_,run_underlying hu,Builtin.lenOf,Builtin.firstCells,sizeOf,typeInfo,hq,hi,←hn,hl,hst]
end
theorem Zb0{a:Option Addr}{cap:Nat}(xs:List Int){w:World}(h:At .u8 w a xs)(hb:xs.length≤65536) :
  Calls prog 220 #[.slice a xs.length cap] w (Pv .u8 xs w):=by
 obtain⟨i0,hi0,hz0,hz1,hz2⟩:=info_parts Zlh;have he:∀(a:Option Addr) n c (w:World),(binOp .eql 165 (.slice a n c) (.slice none 0 0)).run prog w=.ok (.bool a.isNone) w:=fun a n c w=>Lib.run_eql_slice_nil w _ _ a n c 0 0 underlying165
 cases a with
 | none=>
  have hl:xs.length=0:=by
   rcases Nat.eq_zero_or_pos xs.length with c|c
   ·exact c
   ·obtain⟨b,o,e,_⟩:=h.pos c;cases e
  obtain rfl:=List.length_eq_zero_iff.1 hl;clear h;go_enter func220,ntmps220;go_wp2;go_ret;exact⟨none,0,rfl,⟨fun i hi=>absurd hi (Zzb _),Zy1 _,Nat.zero_le _,fun hi=>absurd hi (Nat.lt_irrefl 0)⟩,Zy2 w⟩
 | some ad=>
  have hnews:∀j u,(ncs .u8 xs)[j]?=some u→w.cell? (ad.add j)=some u:=by
   intro j u hj;have hl:=(List.getElem?_eq_some_iff.1 hj).1;rw[Ru] at hl;obtain⟨b,o,e,hc⟩:=h.pos (by omega);cases e;exact Dk hc j u hj
  have HN:=Za hnews;clear hnews h;have hn63:xs.length≤maxLen:=by unfold maxLen;omega
  have HM:=Za hn63;clear hn63;go_enter func220,ntmps220
  go_wp2_with (at_builtin;refine wpList_append_own _ rfl (.tmp 5) (.tmp 6) 165 rfl w.heap.size 5 i0 (.int .u8 0) 1 1 underlying165 hi0 hz0 hz1 hz2 rfl (by decide) (.slice (some ⟨w.heap.size,0,none⟩) 0 0) 0 [] rfl (World.ownsRow_made _ #[] 0 (Zy1 _) (by decide) rfl) ad xs.length cap (ncs .u8 xs) rfl (by rw[Ru,Nat.mul_one]) (fun j u hj=>Xd (HN.out j u hj) _) (Zcv _ _) (by rw[Nat.zero_add];exact HM.out) (by rw[Nat.zero_add];omega) (by simp) ?_;intro v' w1 hown hgrow Ce)
  go_ret;rw[Nat.zero_add,List.nil_append] at hown;have hx:Ext w w1:=Ext.of (((Zy2 w).alloc (.cells #[] 5)).below.grown hgrow (by simp) (fun k e=>by cases e;exact Zy1 _));obtain⟨a',c',rfl,hn⟩:=S8 hown;exact⟨a',c',rfl,hn,hx⟩
theorem Xw.newFrom{W0 W:World}{a:Option Addr}{cap n rb rg:Nat}{ms:List Int}{u:TypeId}(hn:Yj .u8 W0 W a cap ms)(hr:Z1 W rb rg (pbs ms))(hk:ms.length=n)(sm:∀x∈ms,0≤x∧x≤255)
  (hs:∀g,a=some ⟨g,0,none⟩→0<ms.length→g≠rb∧g≠rg) :
  ∃g,Xw (W.alloc (.cells #[rb,.slice a n cap] u)) W.heap.size rb rg g ms∧(0<ms.length→W0.heap.size≤g):=by
 subst hk;have c:=fun i=>Zg W #[rb,.slice a ms.length cap] u i
 have hx:Ext W (W.alloc (.cells #[rb,.slice a ms.length cap] u)):=(Zy2 W).alloc _;have hl:=hr.lt;rcases Nat.eq_zero_or_pos ms.length with hz|hp
 ·exact⟨0,⟨c 0,⟨a,cap,c 1,hn.row.ext hx,hn.cap1,hn.cap2,fun h=>absurd h (by omega)⟩,hr.ext hx,sm,fun h=>absurd h (by omega),by omega⟩,fun h=>absurd h (by omega)⟩
 ·obtain⟨g,rfl,g1,g2,g3⟩:=hn.own hp;have hg:=hr.glt (by rw[Lo];exact hp);obtain⟨s1,s2⟩:=hs g rfl hp;exact⟨g,⟨c 0,⟨_,cap,c 1,hn.row.ext hx,hn.cap1,hn.cap2,fun _=>⟨rfl,fun o=>by rw[hx.frozen (p:=⟨g,o,none⟩) g2];exact g3 o⟩⟩,hr.ext hx,sm,fun _=>⟨by omega,s1,s2,by omega⟩,by omega⟩,fun _=>g1⟩
def Pp(ms:List Int)(w:World)(e:Ending)(w':World):Prop:=
 ∃b rb rg g,e=.returned (.pointer (some ⟨b,0,none⟩))∧Xw w' b rb rg g ms∧w.heap.size≤b∧w.heap.size≤rb∧(0<ms.length→w.heap.size≤rg∧w.heap.size≤g)∧Ext w w'
theorem Pp.mk{w W0 W:World}{a:Option Addr}{cap n rb rg:Nat}{ms:List Int}{u:TypeId}(hn:Yj .u8 W0 W a cap ms)(hr:Z1 W rb rg (pbs ms))(hk:ms.length=n)(sm:∀x∈ms,0≤x∧x≤255)
  (hs:∀g,a=some ⟨g,0,none⟩→0<ms.length→g≠rb∧g≠rg) (x0:Ext w W0) (x1:Ext w W) (hb:w.heap.size≤rb) (hg:0<ms.length→w.heap.size≤rg) :
  Pp ms w (.returned (W.heap.size:Value)) (W.alloc (.cells #[.pointer (some ⟨rb,0,none⟩),.slice a n cap] u)):=by
 obtain⟨g,h1,h2⟩:=Xw.newFrom (u:=u) hn hr hk sm hs;exact⟨_,rb,rg,g,rfl,h1,x1.size,hb,fun hp=>⟨hg hp,Zy6 x0.size (h2 hp)⟩,x1.alloc _⟩
theorem Znu{b rb rg g:Nat}(ms:List Int){w:World}(h:Xw w b rb rg g ms):Calls prog 181 #[.pointer (some ⟨b,0,none⟩)] w (Pp ms w):=by
 obtain⟨a,cap,h1,hA,_⟩:=h.ex;have h0:=h.head;have HN:=Za h.isNone;have HA:=Za hA;have HR:=Za h.row;have SM:=Za h.small;have hm:=h.most;have n0:=World.new_ne w _ h0;have hd:Ext w w.drew:=(Zy2 w).drew;have PL:=Za (Lo ms);clear h hA;go_enter func181,ntmps181;go_wp2_with fail;refine(Xv false HN.out).zz ?_;go_wp2_with fail
 go_region_held3 (fun w'=>w'.cell? ⟨b,0,none⟩=some (.pointer (some ⟨rb,0,none⟩))∧w'.cell? ⟨b,1,none⟩=some (.slice a ms.length cap))
  ((first|go_keep|(go_split_ands;exact⟨hE.cell (by assumption),hE.cell (by assumption)⟩)))
  (first|(go_at_call 220;refine(Zb0 ms (HA.out.ext ?_) hm).mono ?_;assumption;rintro e w1 ⟨a1,c1,rfl,hn1,hE⟩;have hE1:=hE;have hX1:Ext w w1:=Ext.trans (by assumption) hE)|(go_at_call 219;refine(Ci (pbs ms) (HR.out.ext ?_)).mono ?_;assumption;rintro e w2 ⟨b2,g2,rfl,hr2,hb2,hg2,hE⟩;have hE2:=hE;have hX2:Ext w w2:=Ext.trans (by assumption) hE))
 all_goals
  go_wp2;go_ret
  first
   | exact Pp.mk (hn1.ext hE2) hr2 rfl SM.out (fun g e hp=>by
     obtain⟨g',e',_,k2,_⟩:=hn1.own hp;rw[e'] at e;cases e;have:=hg2 (by rw[PL.out];exact hp);omega) (by first|assumption|exact hd) hX2 (Zy6 hX1.size hb2) (fun hp=>Zy6 hX1.size (hg2 (by rw[PL.out];exact hp)))
   | exact Pp.mk hn1 (hr2.ext hE1) rfl SM.out (fun g e hp=>by
     obtain⟨g',e',k1,_,_⟩:=hn1.own hp;rw[e'] at e;cases e;have:=hr2.lt;have:=hr2.glt (by rw[PL.out];exact hp);omega) hX2 hX1 (Zy6 hd.size hb2) (fun hp=>Zy6 hd.size (hg2 (by rw[PL.out];exact hp)))
section
variable{w w':World}{B:CB}{c:Zh}{t n k:Nat}{gens:Int}{ws:List Int}{l:List Ent}{ms:List Int}
structure CB.Ord5(B:CB)(a5:Nat):Prop where
 m:B.mb<B.yb∧B.gw<B.yb∧B.gm<B.yb∧B.mb≠B.gw∧B.gm≠B.gw
 g:0<B.yb∧2<B.yb∧0≠B.gw∧2≠B.gw
 p:B.yb<B.a0∧B.a0≤B.pb∧B.pb<B.a1∧B.a0≤B.gp∧B.gp<B.a1
 b:B.a1≤B.bb∧B.bb<B.a2
 a:B.a2≤B.ab∧B.ab<B.a3∧B.a2≤B.ar∧B.ar<B.a3∧B.a2≤B.ag∧B.ag<B.a3
 t:B.a3≤B.tb∧B.tb<B.a4∧B.a3≤B.tg∧B.tg<B.a4
 n:B.a4≤B.nb∧B.nb<a5∧B.a4≤B.nr∧B.nr<a5∧B.a4≤B.nrg∧B.nrg<a5∧B.a4≤B.ng∧B.ng<a5
theorem Zxz:(prog.info? 357).map (fun i=>(i.zero,i.size,i.bytes))=some (some (.agg #[(0:Int),(0:Int),false]),3,24):=by kernel_rfl
theorem Zjg(n:Nat)(h:n≤65536):∀W:World,(Instr.makeSlice 286 (.int .i64 (n:Int)) (.int .i64 (n:Int))).run prog W=.ok (.slice (some ⟨W.heap.size,0,none⟩) n n) (W.alloc (.cells (madeCells #[(0:Int),(0:Int),false] (n*3)) 357)):=by
 intro W;obtain⟨i,hi,hzz⟩:=Option.map_eq_some_iff.1 Zxz;simp only[Prod.mk.injEq] at hzz;obtain⟨hz,hs,hb⟩:=hzz;have hr:=run_make (P:=prog) W 286 357 i _ underlying286 hi hz .i64 .i64 n n (by omega) (Int.le_refl _) (by rw[hb];omega) (by omega);simp only[Zy4,hs] at hr;exact hr
theorem Zww{n j:Nat}{z:Array Value}(hz:z.size=3)(hj:j<n*3):(madeCells z (n*3))[j]?=z[j % 3]?:=by
 have h3:j % 3<3:=Nat.mod_lt _ (by decide);unfold madeCells;rw[Array.getElem?_map,hz,Array.getElem?_range,if_pos hj,Option.map_some,getElem!_pos _ _ (by omega),Array.getElem?_eq_getElem (by omega)]
theorem Yr.new(W:World)(k:Nat)(t:TypeId):Yr (W.alloc (.cells (madeCells #[(0:Int),(0:Int),false] (k*3)) t)) W.heap.size (List.replicate k Tk):=by
 have q:∀j r,j<k→r<3→(W.alloc (.cells (madeCells #[(0:Int),(0:Int),false] (k*3)) t)).cell? ⟨W.heap.size,j*3+r,none⟩=(#[(0:Int),(0:Int),false]:Array Value)[r]?:=fun j r hj hr=>by
  rw[Zg,Zww rfl (by omega),show(j*3+r) % 3=r by omega]
 refine⟨fun j hj=>?_,fun j hj=>?_,fun j hj=>?_,fun o=>World.frozen?_alloc_at _ _ _ _ rfl⟩<;>rw[Zza] at hj<;>rw[Rh]
 ·exact q j 0 hj (by decide)
 ·exact q j 1 hj (by decide)
 ·exact q j 2 hj (by decide)
def Zu0(w:World)(B:CB)(c:Zh)(t n k:Nat)(gens:Int)(ws:List Int)(l:List Ent)(ms:List Int)(a5:Nat)(e:Ending)(w':World):Prop:=
 ∃gb ob og db dg rg a6 cb cg a7 hd kb,e=.returned (.tuple #[.pointer (some ⟨kb,0,none⟩),(0:Int)])∧Ext w w' ∧
  Ye w' { B with a5,gb,ob,og,db,dg,rg,a6,cb,cg,a7,hd,hcap:=k,kb,a8:=w'.heap.size } c t n gens ws l ms (Zjd c t k)
theorem Zsb{k:Nat}(a5:Nat)(h5:B.Ord5 a5)(hb:Zy w B.bb B.mb B.gw B.gm B.pb B.gp c t ws)(ht:Si w B.tb B.tg B.tcap gens l)(hl:1≤l.length)(hp:Xw w B.nb B.nr B.nrg B.ng ms)(pl:ms.length=nS c t)
  (hk:k≤8) (hn:1≤n∧n≤64) (hT:Tab w) (ha:a5≤w.heap.size) :
  Calls prog 143 #[B.bb,B.pb,B.tb,B.nb,.int .i64 k,.int .i64 n] w (Zu0 w B c t n (k+1) gens ws l ms a5):=by
 have ho:=hb.plan.ok;have hti:=hb.plan.ti;have sn:=ho.nS_eq hti;have sle:=ho.nS_le hti;have spo:=ho.nS_pos hti;have HB:=Za hb;have HT:=Za ht;have HP:=Za hp;have DB:=Za hT;have O5:=Za h5;have PL:=Za pl;have HA:=Za ha;have HN:=Za hn;obtain⟨hd0,q0,hq0⟩:∃hd q,Zz c t ws 0=(hd,q):=⟨_,_,rfl⟩;have q1:q0≠1:=by
  unfold Zz at hq0;split at hq0
  ·split at hq0
   ·cases hq0;decide
   ·cases hq0;decide
  ·cases hq0;decide
 have tq:(q0==1)=false:=by simpa using q1
 have HD:=Za (Xf hb hq0);obtain⟨L,hL⟩:=Zb (l.length);obtain⟨N,hN⟩:=Zb (nS c t);have SL:=Za (fun W (h:Zt W B.pb B.gp c t)=>Yx (N:Int) (by rw[←hN];exact sn.symm) h);have TL:=Za (fun W (x:Ext w W)=>I5 (ht.ext x) hL);have PC:=Za (fun W (x:Ext w W)=>Znu ms (hp.ext x));have PN:=Za (fun W (x:Ext w W)=>(Zpx ms (hp.ext x)).mono (R':=fun e w'=>e=.returned (.int .i64 (N:Int))∧W=w') fun e w' h=>by rw[←pl.trans hN];exact h);have GN:=Za (fun W (x:Ext w W)=>Zqd (hb.plan.ext x) hn);have TN:=Za (fun W:World=>Zqe (w:=W) (n:=N) (by omega));rw[hN] at sle spo;rw[hL] at hl;obtain⟨K,hK⟩:=Zb (k+1);have hmk:=Zjg K (by omega);have hk1:IntKind.i64.wrap ((k:Int)+1)=(K:Int):=by rw[IntWalk.i64_in _ (by omega)];omega
 rw[hK];have tN:((N:Int)==0)=false:=by simp;omega
 have tL:((L:Int)==0)=false:=by simp;omega
 have tk0:decide ((k:Int)<0)=false:=Zyx (by omega);have tk8:decide ((8:Int)<k)=false:=Zyx (by omega);have NE:=Za hN;have HK:=Za hK;clear hK hb ht hp hT h5 pl ha hn hq0 q1 sn hL hN ho hti;go_enter func143,ntmps143;go_wp2_with fail;refine HD.out.ze fun w1 x1=>?_;go_wp2_with fail;have a1:=(Zy2 w1).alloc (.cells #[hd0.c,hd0.r,hd0.w] 78);obtain⟨V,hV⟩:=Zb (w1.alloc (.cells #[hd0.c,hd0.r,hd0.w] 78));rw[hV] at a1 ⊢;have xV:=x1.trans a1;clear hV a1;refine(SL.out _ (HB.out.plan.ext xV)).zz ?_;go_wp2_with fail;refine(TL.out _ xV).zz ?_;go_wp2_with fail;refine(PC.out _ xV).mono ?_;rintro e w2 ⟨b2,rb2,rg2,g2,rfl,_,_,_,_,x2⟩;have y2:=xV.trans x2;go_wp2_with fail;refine(PN.out _ y2).zz ?_;go_wp2_with fail;refine(SL.out _ (HB.out.plan.ext y2)).zz ?_;go_wp2_with fail;refine(GN.out _ y2).mono ?_;rintro e w3 ⟨r3,rfl,b,ob,og,db,dg,rg,rfl,G3,o1,o2,o3,o4,o5,o6,x3⟩;have y3:=y2.trans x3;go_wp2_with fail;refine(SL.out _ (HB.out.plan.ext y3)).zz ?_;go_wp2_with fail;refine(TN.out _).mono ?_;rintro e w4 ⟨cb,cg,rfl,T4,p1,p2,x4⟩;have y4:=y3.trans x4;go_wp2_with fail;refine⟨rfl,_,results_tmp2 (t:=12) (u:=13) rfl _ _ _,?_⟩;obtain⟨W5,hW5⟩:∃W,w4.alloc (.cells (madeCells #[(0:Int),(0:Int),false] (K*3)) 357)=W:=⟨_,rfl⟩;have hh:Yr W5 w4.heap.size (List.replicate K Tk):=by rw[←hW5];exact Yr.new w4 K _
 have z5:W5.heap.size=w4.heap.size+1:=by rw[←hW5];simp
 have x5:Ext w4 W5:=by rw[←hW5];exact(Zy2 _).alloc _
 rw[hW5];obtain⟨W6,hW6⟩:∃W,W5.alloc (.cells #[B.bb,B.pb,B.tb,B.nb,cb,b,.slice (some ⟨w4.heap.size,0,none⟩) K K,(0:Int),false,(0:Int)] 288)=W:=⟨_,rfl⟩;have Zjz:Zn W6 (w4.heap.size+1) [B.bb,B.pb,B.tb,B.nb,cb,b,.slice (some ⟨w4.heap.size,0,none⟩) K K,(0:Int),false,(0:Int)]:=by rw[←hW6];exact Zn.new W5 _ _ z5
 have z6:W6.heap.size=w4.heap.size+2:=by rw[←hW6];simp[z5]
 have x6:Ext W5 W6:=by rw[←hW6];exact(Zy2 _).alloc _
 rw[hW6];clear hW5 hW6;have xA:=x5.trans x6;have y6:=y4.trans xA;obtain⟨q1,q2,q3,q4,q5,q6,q7⟩:=O5.out;have s1:=xV.size;have s2:=x2.size;have s3:=x3.size;have s4:=x4.size;have hA:=HA.out;have hK:=HK.out;obtain⟨f3,G3'⟩:=G3;obtain⟨xs4,T4'⟩:=T4;have l3:=G3'.lt;have l4:=T4'.lt;have hg:Ri W6 b B.pb B.gp ob og db dg rg c t n (Ql c t):=Ri.chgG (P:=fun _=>False) ⟨f3,G3'⟩ (Zy3 (x4.trans xA)) id ⟨id,id⟩ ⟨id,id⟩ ⟨id,id⟩ id;have ht4:Uy W6 cb cg 1 (List.replicate (nS c t) 0):=by
  rw[NE.out];exact⟨xs4,T4'.chg (P:=fun _=>False) (Zy3 xA) id id⟩
 refine⟨b,ob,og,db,dg,rg,w3.heap.size,cb,cg,w4.heap.size,w4.heap.size,w4.heap.size+1,rfl,y6,⟨⟨q1,q2,q3,q4,q5,q6,q7,?_,?_,?_⟩,HB.out.chgB (P:=fun _=>False) (Zy3 y6) id ⟨id,id,id⟩ ⟨id,id⟩ id,HT.out.ext y6,HP.out.ext y6,PL.out,?_,?_,?_,ht4,hg,DB.out.chgT (P:=fun _=>False) (Zy3 y6) id,Znq HB.out.plan.ok HB.out.plan.ti,?_,Zy1 _⟩⟩
 ·exact⟨by show a5≤b;omega,by show b<w3.heap.size;omega,by show a5≤ob;omega,by show ob<w3.heap.size;omega,by show a5≤og;omega,by show og<w3.heap.size;omega,by show a5≤db;omega,by show db<w3.heap.size;omega,by show a5≤dg;omega,by show dg<w3.heap.size;omega,by show a5≤rg;omega,by show rg<w3.heap.size;omega⟩
 ·exact⟨p1,by show cb<w4.heap.size;omega,p2,by show cg<w4.heap.size;omega⟩
 ·exact⟨Zy1 _,by show w4.heap.size<w4.heap.size+1;omega,by show w4.heap.size+1<W6.heap.size;omega⟩
 ·have e:(Zjd c t K).hs.length=K:=by simp[Zjd]
  unfold mcs;rw[e];exact Zjz
 ·have h1:0<(List.replicate K Tk).length:=by rw[Zza];omega
  exact hh.chg (P:=fun _=>False) h1 (Zy3 x6) id
 ·have e:(Zjd c t K).hs.length=K:=by simp[Zjd]
  rw[e];exact⟨by omega,by omega,Zy1 _,by show K≤maxLen;unfold maxLen;omega⟩
 ·show 0<1099511627776
  decide
end
section
variable{w w' W:World}
structure Zep(W:World)(g N n:Nat):Prop where
 e:∀i,i<n→Zmp W g i ⟨0,0,1⟩
 c:∀j,j<N*3→(W.cell? ⟨g,j,none⟩).isSome=true
 f:∀o,W.frozen? ⟨g,o,none⟩=false
 n:n≤N
def Gq:Nat→List Value
 | 0=>[]
 | n+1=>.int .i64 0 :: .int .i64 0 :: .int .u32 1 :: Gq n
theorem Vz:∀n,(Gq n).length=n*3
 | 0=>rfl
 | n+1=>by simp[Gq,Vz n];omega
theorem Bo:∀(n:Nat),∀v∈Gq n,v.oneCell'=true
 | 0,_,h=>by cases h
 | n+1,v,h=>by
  simp only[Gq,List.mem_cons] at h;rcases h with rfl|rfl|rfl|h
  ·rfl
  ·rfl
  ·rfl
  ·exact Bo n v h
theorem Bp:∀(n i r:Nat),i<n→r<3→(Gq n)[i*3+r]?=[Value.int .i64 0,.int .i64 0,.int .u32 1][r]?
 | 0,_,_,h,_=>absurd h (Zzb _)
 | n+1,0,r,_,hr=>by
  match r,hr with
  | 0,_=>rfl
  | 1,_=>rfl
  | 2,_=>rfl
 | n+1,i+1,r,h,hr=>by
  have:=Bp n i r (by omega) hr;rw[←this];show(Gq (n+1))[(i+1)*3+r]?=_
  rw[show(i+1)*3+r=(i*3+r)+1+1+1 by omega];rfl
theorem Zep.more{g N n k:Nat}(h:Zep W g N n)(hk:n+k≤N):Zep (W.setCells g (n*3) (Gq k)) g N (n+k):=by
 have out:∀o,(o<n*3∨n*3+k*3≤o)→(W.setCells g (n*3) (Gq k)).cell? ⟨g,o,none⟩=W.cell? ⟨g,o,none⟩:=fun o ho=>World.cell?_setCells_out g _ _ _ _ (fun _ _=>by rw[Vz];exact ho)
 have in_:∀j (hj:j<(Gq k).length),(W.setCells g (n*3) (Gq k)).cell? ⟨g,n*3+j,none⟩=some (Gq k)[j]:=World.cell?_setCells_in g _ _ _ (fun j hj=>h.c _ (by rw[Vz] at hj;omega));have at_:∀i r,i<k→r<3→(W.setCells g (n*3) (Gq k)).cell? ⟨g,(n+i)*3+r,none⟩=[Value.int .i64 0,.int .i64 0,.int .u32 1][r]?:=fun i r hi hr=>by
  have q:=in_ (i*3+r) (by rw[Vz];omega);rw[show(n+i)*3+r=n*3+(i*3+r) by omega,q,←Bp k i r hi hr,List.getElem?_eq_getElem]
 refine⟨fun i hi=>?_,fun j hj=>?_,fun o=>by rw[World.frozen?_setCells];exact h.f o,hk⟩
 ·by_cases q:i<n
  ·have e:=h.e i q;exact⟨by rw[out _ (.inl (by omega))];exact e.st,by rw[out _ (.inl (by omega))];exact e.s,by rw[out _ (.inl (by omega))];exact e.g⟩
  ·obtain⟨m,rfl⟩:∃m,i=n+m:=⟨i-n,by omega⟩;exact⟨at_ m 0 (by omega) (by decide),at_ m 1 (by omega) (by decide),at_ m 2 (by omega) (by decide)⟩
 ·by_cases q:j<n*3∨n*3+k*3≤j
  ·rw[out _ q];exact h.c j hj
  ·obtain⟨m,rfl⟩:∃m,j=n*3+m:=⟨j-n*3,by omega⟩;rw[in_ m (by rw[Vz];omega)];rfl
theorem Zx0:(prog.info? 221).map (fun i=>(i.zero,i.size,i.bytes))=some (some (.agg #[(0:Int),(0:Int),.int .u32 0]),3,24):=by kernel_rfl
theorem Znv(n:Nat)(h:n≤65536):∀W:World,(Instr.makeSlice 121 (.int .i64 (n:Int)) (.int .i64 (n:Int))).run prog W=.ok (.slice (some ⟨W.heap.size,0,none⟩) n n) (W.alloc (.cells (madeCells #[(0:Int),(0:Int),.int .u32 0] (n*3)) 221)):=by
 intro W;obtain⟨i,hi,hzz⟩:=Option.map_eq_some_iff.1 Zx0;simp only[Prod.mk.injEq] at hzz;obtain⟨hz,hs,hb⟩:=hzz;have hr:=run_make (P:=prog) W 121 221 i _ underlying121 hi hz .i64 .i64 n n (by omega) (Int.le_refl _) (by rw[hb];omega) (by omega);simp only[Zy4,hs] at hr;exact hr
theorem Zsc(g o j:Nat):(⟨g,o,none⟩:Addr).add j=⟨g,o+j,none⟩:=by unfold Addr.add;split<;>simp_all
theorem Gr{b N:Nat}(hN:1≤N∧N≤1024)(h0:w.cell? b=some (.int .i64 0))(h1:w.cell? ⟨b,1,none⟩=some (.int .i64 0))(h2:w.cell? ⟨b,2,none⟩=some (.int .u32 1)) :
  Calls prog 180 #[.slice (some ⟨b,0,none⟩) 1 1,(N:Int)] w fun e w'=>∃g,e=.returned (.slice (some ⟨g,0,none⟩) N N)∧Zep w' g N N∧w.heap.size≤g∧g<w'.heap.size∧Ext w w':=by
 have mk:=Znv N (by omega);have t0:decide ((N:Int)<0)=false:=Zyx (by omega);have tw:IntKind.u64.wrap (N:Int)=(N:Int):=IntWalk.u64_in _ (by omega);have ti:IntKind.i64.wrap (N:Int)=(N:Int):=IntWalk.i64_in _ (by omega);have ML:=Za (Zna 1 N N (by omega) (by omega) (by decide) (by omega) w);have tg:decide ((9223372036854775807:Int)<(N:Int))=false:=Zyx (by omega);obtain⟨g,hg⟩:=Zb (w.heap.size);obtain⟨W1,hW1⟩:=Zb (w.alloc (.cells (madeCells #[(0:Int),(0:Int),.int .u32 0] (N*3)) 221));have r0:Zep W1 g N 0:=by
  refine⟨fun i hi=>absurd hi (Zzb _),fun j hj=>?_,fun o=>?_,Nat.zero_le _⟩
  ·rw[←hW1,←hg,Zg,Zww rfl (by omega)];have:j % 3<3:=Nat.mod_lt _ (by decide)
   match j % 3,this with
   | 0,_=>rfl
   | 1,_=>rfl
   | 2,_=>rfl
  ·rw[←hW1,←hg];exact World.frozen?_alloc_at _ _ _ _ rfl
 have x1:Ext w W1:=by rw[←hW1];exact(Zy2 w).alloc _
 have u3:(prog.info? 221).map (·.size)=some 3:=by kernel_rfl
 have cp1:Sem.run prog (Builtin.copy_ #[121,121] 3 #[.slice (some ⟨g,0,none⟩) N N,.slice (some ⟨b,0,none⟩) 1 1]) W1=.ok (.int .i64 1) (W1.setCells g 0 (Gq 1)):=by
  have q:=Po (P:=prog) W1 121 121 3 221 3 g 0 N N ⟨b,0,none⟩ 1 1 (Gq 1) underlying121 u3 (by rw[Vz,show Nat.min 1 N=1 from Nat.min_eq_left hN.1])
   (fun j v e=>by
    have lt:j<3:=by have:=(List.getElem?_eq_some_iff.1 e).1;rw[Vz] at this;omega
    match j,lt with
    | 0,_=>cases e;exact x1.cell h0
    | 1,_=>cases e;exact x1.cell h1
    | 2,_=>cases e;exact x1.cell h2)
   (fun j hj=>by rw[Vz] at hj;exact r0.c _ (by omega)) (fun j _=>r0.f _) (Bo 1)
  rw[show Nat.min 1 N=1 from Nat.min_eq_left hN.1] at q;exact q
 have r1:=r0.more (k:=1) (by omega);simp only[Nat.zero_mul,Nat.zero_add] at r1;obtain⟨W2,hW2⟩:=Zb (W1.setCells g 0 (Gq 1));have x2:Ext w W2:=by rw[←hW2];exact((Chg.refl (fun k=>k=g) W1).setCells (Gq 1) 0 rfl).over x1 fun k e=>by have e1:k=g:=e;omega
 rw[hW2] at cp1 r1;have I0:=Za (And.intro r1 x2);have HN:=Za (And.intro hN hg);clear hN r0 x1 x2 r1 hW2 u3 h0 h1 h2;go_enter func180,ntmps180;go_wp2_with fail;refine ML.out.zz ?_;go_wp2_with fail
 go_loopw [8] (fun t8 wr=>∃n:Nat,t8=.int .i64 (n:Int)∧1≤n∧Hid (Zep wr g N n∧Ext w wr)) (fun t8 wr=>match t8 with|.int _ v=>N-v.toNat|_=>0)
 case atStart=>exact⟨1,rfl,Zy1 _,I0⟩
 case round=>
  obtain⟨n,rfl,hn,P⟩:=hrel;by_cases q:n<N
  ·have tl:decide ((n:Int)<(N:Int))=true:=Zyy (by omega);obtain⟨k,hk⟩:=Zb (Nat.min n (N-n));have kb:1≤k∧k≤n∧n+k≤N:=by
    have a:k≤n:=hk▸Nat.min_le_left n (N-n);have c:k≤N-n:=hk▸Nat.min_le_right n (N-n);have d:1≤k:=hk▸Nat.le_min.2 ⟨hn,by omega⟩;exact⟨d,a,by omega⟩
   have r1:Zep wr.drew g N n:=⟨fun i hi=>(P.out.1.e i hi).chg (P:=fun _=>False) (Zy3 (Zy2 wr).drew) (fun a=>a),fun j hj=>by rw[World.cell?_drew];exact P.out.1.c j hj,fun o=>by rw[World.frozen?_drew];exact P.out.1.f o,P.out.1.n⟩;have cp:Sem.run prog (Builtin.copy_ #[121,121] 3 #[.slice (some ⟨g,n*3,none⟩) (N-n) (N-n),.slice (some ⟨g,0,none⟩) n N]) wr.drew=.ok (.int .i64 (k:Int)) (wr.drew.setCells g (n*3) (Gq k)):=by
    have u3:(prog.info? 221).map (·.size)=some 3:=by kernel_rfl
    have q:=Po (P:=prog) wr.drew 121 121 3 221 3 g (n*3) (N-n) (N-n) ⟨g,0,none⟩ n N (Gq k) underlying121 u3 (by rw[Vz,hk])
     (fun j v e=>by
      have lt:j<k*3:=by have:=(List.getElem?_eq_some_iff.1 e).1;rw[Vz] at this;omega
      have ej:j=j / 3*3+j % 3:=by omega
      have m3:j % 3<3:=Nat.mod_lt _ (by decide);rw[ej,Bp k (j / 3) (j % 3) (by omega) m3] at e;have ea:=r1.e (j / 3) (by omega);rw[Zsc,Nat.zero_add,ej]
      generalize j % 3=r at e m3 ⊢
      match r,m3 with
      | 0,_=>cases e;exact ea.st
      | 1,_=>cases e;exact ea.s
      | 2,_=>cases e;exact ea.g)
     (fun j hj=>by rw[Vz] at hj;exact r1.c _ (by omega)) (fun j _=>r1.f _) (Bo k)
    rw[hk] at q;exact q
   have r2:=r1.more (k:=k) kb.2.2;obtain⟨W3,hW3⟩:=Zb (wr.drew.setCells g (n*3) (Gq k));have x3:Ext w W3:=by rw[←hW3];exact((Chg.refl (fun k=>k=g) wr.drew).setCells (Gq k) (n*3) rfl).over P.out.2.drew fun k e=>by have e1:k=g:=e;have:=HN.out.2;omega
   rw[hW3] at cp r2;have NX:=Za (And.intro r2 (And.intro x3 kb));have ws:IntKind.i64.wrap ((n:Int)+(k:Int))=((n+k:Nat):Int):=by rw[IntWalk.i64_in _ (by have:=HN.out.1;omega)];omega
   have tn0:(0:Int)≤(n:Int):=by omega
   have tn1:(n:Int)≤(N:Int):=by omega
   have tn2:n≤N:=by omega
   clear r1 r2 x3 hW3 kb hk;go_wp2_with fail
   go_region_held3 (fun _=>True) (trivial) (fail)
   all_goals
    go_wp2;go_roundw
    case rel=>exact⟨n+k,by rw[Int.natCast_add],by omega,Za ⟨NX.out.1,NX.out.2.1⟩⟩
    case measure=>
     have:=NX.out.2.2;simp only;omega
  ·have tl:decide ((n:Int)<(N:Int))=false:=Zyx (by omega);have e:n=N:=by have:=P.out.1.n;omega
   subst e;clear q;go_wp2;go_ret;exact⟨g,rfl,P.out.1,by have:=HN.out.2;omega,Zj (P.out.1.e 0 (by omega)).st,P.out.2⟩
theorem Zb1(N i:Nat)(e:Ent)(h:i<N):Zx (List.replicate N e) i=e:=by
 unfold Zx;simp[List.getD,h]
theorem Zu1{N:Nat}{gens:Int}(hN:1≤N∧N≤1024)(hg:1≤gens∧gens≤2147483648) :
  Calls prog 141 #[(N:Int),.int .i64 gens] w fun e w'=>∃b g,e=.returned (.tuple #[.pointer (some ⟨b,0,none⟩),(0:Int)])∧Si w' b g N gens (List.replicate N ⟨0,0,1⟩)∧w.heap.size≤b∧w.heap.size≤g∧Ext w w':=by
 have t0:decide ((N:Int)<1)=false:=Zyx (by omega);have t1:decide ((1024:Int)<(N:Int))=false:=Zyx (by omega);have t2:decide (gens<1)=false:=Zyx (by omega);have t3:decide ((2147483648:Int)<gens)=false:=Zyx (by omega);have HN:=Za (And.intro hN hg);obtain⟨z,hz⟩:=Zb (w.heap.size);obtain⟨W1,hW1⟩:=Zb (w.alloc (.cells #[(0:Int),(0:Int),.int .u32 1] 221));have x1:Ext w W1:=by rw[←hW1];exact(Zy2 w).alloc _
 have b1:Zn W1 z [(0:Int),(0:Int),.int .u32 1]:=by rw[←hW1];exact Zn.new w [(0:Int),(0:Int),.int .u32 1] _ hz
 have RP:=Za (Gr (w:=W1) hN (b1.c 0 _ rfl) (b1.c 1 _ rfl) (b1.c 2 _ rfl));clear hN hg b1;go_enter func141,ntmps141;go_wp2_with fail;refine RP.out.mono ?_;rintro e w2 ⟨g,rfl,r2,g1,g2,x2⟩;go_wp2;go_ret2;have e0:Oo (List.replicate N (⟨0,0,1⟩:Ent)) 0=N:=by simp[Oo]
 have e1:Oo (List.replicate N (⟨0,0,1⟩:Ent)) 1=0:=by simp[Oo]
 have e2:Oo (List.replicate N (⟨0,0,1⟩:Ent)) 2=0:=by simp[Oo]
 have e3:Oo (List.replicate N (⟨0,0,1⟩:Ent)) 3=0:=by simp[Oo]
 obtain⟨W3,hW3⟩:=Zb (w2.alloc (.cells #[.slice (some ⟨g,0,none⟩) N N,.int .i64 gens,(N:Int),(0:Int),(0:Int),(0:Int)] 124));have x3:Ext w2 W3:=by rw[←hW3];exact(Zy2 w2).alloc _
 have b3:Zn W3 w2.heap.size [.slice (some ⟨g,0,none⟩) N N,.int .i64 gens,(N:Int),(0:Int),(0:Int),(0:Int)]:=by rw[←hW3];exact Zn.new w2 [.slice (some ⟨g,0,none⟩) N N,.int .i64 gens,(N:Int),(0:Int),(0:Int),(0:Int)] _ rfl
 rw[hW3];have hn:=HN.out;have s1:=x1.size;have s2:=x2.size;refine⟨w2.heap.size,g,rfl,⟨?_,fun i hi=>?_,fun o=>?_,by omega,?_,?_,hn.2,fun i hi=>?_⟩,by omega,by omega,(x1.trans x2).trans x3⟩
 ·unfold tbs;rw[e0,e1,e2,e3,Zza];exact b3
 ·rw[Zza] at hi;rw[Zb1 N i _ hi];exact(r2.e i hi).chg (P:=fun _=>False) (Zy3 x3) (fun a=>a)
 ·rw[x3.frozen (by exact g2)];exact r2.f o
 ·rw[Zza];exact hn.1
 ·rw[Zza];exact⟨Zy1 _,by unfold maxLen;omega⟩
 ·rw[Zza] at hi;rw[Zb1 N i _ hi];exact⟨by decide,hn.2.1,by decide⟩
end
theorem Znw{c:Zh}{i:Nat}(h:i<c.ts.length):Ao c i=0:=by unfold Ao;rw[if_neg (by omega)]
theorem Wl.got{c:Zh}{ws:List Int}{i:Nat}{w w':World}{sv:Value}(h:Wl c ws i 0 w w' sv):∃a cap,sv=.slice a (Uc c ws i).length cap∧Yj .u64 w w' a cap (Uc c ws i):=by
 rcases h with ⟨_,a,cap,rfl,hn⟩|⟨h,_⟩
 ·exact⟨a,cap,by rw[Zy4],by rwa [Zy4] at hn⟩
 ·exact absurd rfl h
section
variable{w w':World}{bb mb gw gb pb gp:Nat}{c:Zh}{t:Nat}{ws ws':List Int}{s i k u x:Int}
theorem Zsd(hm:Yo w mb gw gb c ws)(hp:Zt w pb gp c t)(hw:Wid w)(ho:WOk ws)(hne:pb≠gw∧gp≠gw∧0≠gw) :
  Calls prog 139 #[mb,.int .i64 t,pb] w
   fun e w'=>∃bb,e=.returned (.tuple #[.pointer (some ⟨bb,0,none⟩),(0:Int)])∧Zy w' bb mb gw gb pb gp c t ws∧Ext w w'∧w.heap.size≤bb:=by
 have HM:=Za hm;have HP:=Za hp;have HW:=Za hw;have HO:=Za ho;have NE:=Za hne;have RE:=Za (Znw hp.ti);have RL:=Ox hp.ok hp.ti hm.len;have HG:=Za hm.lt.2.1;have sp:=hp.ok.nS_pos hp.ti;have se:=hp.ok.nS_eq hp.ti;obtain⟨N,hN⟩:=Zb (nS c t);rw[hN] at sp se;have SE:=Za se.symm;have tz:((N:Int)==0)=false:=by simp;omega
 have tz':(N==0)=false:=by simp;omega
 obtain⟨M,hM⟩:=Zb (Z0 c t);have WE:=Za (show sG c t c.cl.length*c.page=(M:Int) by rw[←hM];exact(Tv hp.ok hp.ti).symm);rw[hM] at RL;have X:=Za (Zy2 w);clear hm hp hw ho hne se hN hM;go_enter func139,ntmps139;go_wp2_with fail;refine(Zkh HM.out RE.out).mono ?_;rintro e w1 ⟨sv,rfl,hw,x1⟩;obtain⟨a,cp,rfl,_⟩:=hw.got;rw[RL];replace X:=Za (X.out.trans x1);clear hw x1;go_wp2_with fail;refine(Yx (N:Int) SE.out (HP.out.ext X.out)).zz ?_;go_wp2_with fail;refine(If (M:Int) WE.out (HP.out.ext X.out)).ze fun w3 x3=>?_;replace X:=Za (X.out.trans x3);clear x3;have tm:((M:Int) != (M:Int))=false:=by simp
 go_wp2;go_ret2;have xb:=(Zy2 w3).alloc (.cells #[mb,.int .i64 t,pb] 259);have XX:=X.out.trans xb;have l3:=X.out.size;refine⟨w3.heap.size,rfl,⟨Zn.new w3 _ _ rfl,HM.out.ext XX,HP.out.ext XX,HW.out.ext XX,HO.out,?_⟩,XX,l3⟩;have:=HG.out;exact⟨by omega,NE.out⟩
end
theorem Q8.planG{w0 wr:World}{c:Zh}{t b:Nat}{sv:Value}(h:Q8 w0 c t b c.cl.length sv wr)(ho:KOk c)(ht:t<c.ts.length):∃gp,Zt wr b gp c t∧b≤gp:=by
 obtain⟨g,cap,rfl,p1,p2⟩:=h.own.form (by have:=ho.cl.pos;omega);refine⟨g,⟨ho,ht,⟨cap,h.c0⟩,h.c1,h.c2,h.c3,fun i hi j u hu=>?_⟩,by first|omega|(obtain⟨p1,_⟩:=p1;omega)|(obtain⟨p2,_⟩:=p2;omega)⟩;have hj:j<5:=by have:=(List.getElem?_eq_some_iff.1 hu).1;simpa [pc5] using this
 rw[h.own.cellAt _ (by omega),Zs4 c t _ i j hi hj];exact hu
def Zse(c:Zh)(t:Nat)(w:World)(e:Ending)(w':World):Prop:=∃b gp,e=.returned (.tuple #[.pointer (some ⟨b,0,none⟩),(0:Int)])∧Zt w' b gp c t∧Ext w w'∧w.heap.size≤b∧w.heap.size≤gp
theorem Znx{ca ta:Option Addr}{cc tc:Nat}(c:Zh)(i:Nat){w:World}(hk0:Yc c=0)(hi:i<c.ts.length)(h:Y7 w ca ta cc tc c) :
  Calls prog 138 #[.agg #[.slice ca c.cl.length cc,c.page,.slice ta c.ts.length tc,c.wk,c.gr,c.gens],.int .i64 i] w (Zse c i w):=by
 obtain⟨i0,hi0,hz0,hz1,hz2⟩:=info_parts Zku;obtain⟨hx,h1⟩:=Zd w (Zf ca cc ta tc c);have ho:=Y8 hk0;have K0:=Za hk0;have HO:=Za ho;have c8:=ho.cl.most;have c1:=ho.cl.pos;have R:=Za (Ub (Th (i:=i) (j:=0) hk0 hi c1));obtain⟨pw,hpw⟩:∃p,Yb c i=p:=⟨_,rfl⟩;rw[hpw] at R;have H:=Za h;obtain⟨cb,co,rfl,hc⟩:=h.cl.pos c1;have HC:=Za hc;clear h hk0 ho hpw hc;go_enter func138,ntmps138;go_wp2_with fail;refine(J3 c i pw 0 R.out (H.out.ext (hx.trans h1))).ze fun w1 h2=>?_;replace h1:=h1.trans h2;clear h2;obtain⟨b0,b1,b2,b3,b4,b5⟩:=Vo h1;have hlt1:w.heap.size<w1.heap.size:=Zj b0;go_wp2_with fail;have PR0:Hid (Q8 (w.alloc (.cells #[.slice (some ⟨cb,co,none⟩) c.cl.length cc,c.page,.slice ta c.ts.length tc,c.wk,c.gr,c.gens] 25)) c i w1.heap.size 0 (.slice none 0 0) (w1.alloc (.cells #[.slice none 0 0,(0:Int),(0:Int),c.page] 120))):=
  Za ⟨Zg _ _ _ 0,World.ownsRow_nil _ _ _ _,Zg _ _ _ 1,Zg _ _ _ 2,Zg _ _ _ 3,fun o=>World.frozen?_alloc_at _ _ _ _ rfl,h1.size,h1.alloc _⟩
 clear b0 b1 b2 b3 b4 b5 hlt1 h1
 generalize w1.heap.size=b at *
 go_loopw [31] (fun kv wr=>∃(k:Nat) (sv:Value),k≤c.cl.length∧kv=.int .i64 k∧Hid (Q8 (w.alloc (.cells #[.slice (some ⟨cb,co,none⟩) c.cl.length cc,c.page,.slice ta c.ts.length tc,c.wk,c.gr,c.gens] 25)) c i b k sv wr)) (fun kv _=>c.cl.length-(intOf kv).toNat)
 case atStart=>exact⟨0,_,Nat.zero_le _,rfl,PR0⟩
 case round=>
  clear PR0;obtain⟨k,sv,hk,rfl,PR⟩:=hrel;have h1:=PR.out.ext;by_cases hlt:k<c.cl.length
  ·have z0:=(hx.trans h1).cell (HC.out k hlt);have KS:=Za (Sx (Th K0.out hi hlt));have KP:=Za (Sy (Th K0.out hi hlt));have bd:=HO.out.bounds hi hlt;have u1:=bd.c2;have u2:=bd.cpage;have u3:=bd.p64;have u4:=bd.c64;have u5:=bd.s1;have u6:=bd.s2048;have u7:=bd.pg1;have u8:=bd.pg2048;have u9:=bd.per1;have u10:=bd.per32;have sl:=HO.out.sS_le hi hk;have gl:=HO.out.sG_le hi hk;have HPE:=Za (show c.page / nth c.cl k=Zw c k from rfl);have SS:=Za (show sS c i (k+1)=sS c i k+Zl c i k from rfl);have SG:=Za (show sG c i (k+1)=sG c i k+Zp c i k from rfl);have PS:=Za (show pcs c i (k+1)=pcs c i k++[.int .i64 (nth c.cl k),.int .i64 (sS c i k),.int .i64 (Zl c i k),.int .i64 (sG c i k),.int .i64 (Zw c k)] from rfl);obtain⟨b0,b1,b2,b3,b4,b5⟩:=Vo h1;clear bd;obtain⟨s0,s1⟩:=sl;obtain⟨g0,g1⟩:=gl
   generalize nth c.cl k=x at *
   generalize Zl c i k=s at *
   generalize Zp c i k=pg at *
   generalize Zw c k=pe at *
   go_wp2_with fail;clear b0 b1 b2 b3 b4 b5;refine(Lb c i k s 0 KS.out (H.out.ext (hx.trans h1))).ze fun w2 h2=>?_;have PR2:=Za (PR.out.go h2);clear h2 h1 z0;have h1:=PR2.out.ext;obtain⟨b0,b1,b2,b3,b4,b5⟩:=Vo h1;go_wp2_with fail;clear b0 b1 b2 b3 b4 b5;refine(Fa c i k pg 0 KP.out (H.out.ext (hx.trans h1))).ze fun w3 h2=>?_;have PR3:=Za (PR2.out.go h2);clear h2 h1;have h1:=PR3.out.ext;obtain⟨b0,b1,b2,b3,b4,b5⟩:=Vo h1;have p0:=PR3.out.c0;have p1:=PR3.out.c1;have p2:=PR3.out.c2;have p3:=PR3.out.c3;go_wp2_with fail;have n0:=PR3.out.ne;have n1:=PR3.out.ne' (x:=w.heap.size) (by simp);have hb3:b<w3.heap.size:=Zj p0;have x0:¬x=0:=by omega
   have hwp:IntKind.i64.wrap pe=pe:=IntWalk.i64_in _ (by omega);have NB1:=Za (show ∀j u,[Value.int .i64 x,.int .i64 (sS c i k),.int .i64 s,.int .i64 (sG c i k),.int .i64 pe][j]?=some u→(w3.drew.alloc (.cells #[.int .i64 x,.int .i64 (sS c i k),.int .i64 s,.int .i64 (sG c i k),.int .i64 pe] 128)).cell? ((⟨w3.heap.size,0,none⟩:Addr).add j)=some u from fun j u hu=>World.news_of_block (heap_alloc_new w3.drew _) j u hu);have NB2:=Za (show ∀j u,[Value.int .i64 x,.int .i64 (sS c i k),.int .i64 s,.int .i64 (sG c i k),.int .i64 pe][j]?=some u→((w3.alloc (.cells #[.int .i64 x,.int .i64 (sS c i k),.int .i64 s,.int .i64 (sG c i k),.int .i64 pe] 128)).drew).cell? ((⟨w3.heap.size,0,none⟩:Addr).add j)=some u from fun j u hu=>(Zy2 _).drew.cell (World.news_of_block (heap_alloc_new w3 _) j u hu));have hbw:b≠w.heap.size:=by have:=PR3.out.lo;simp at this;omega
   have xq:(c.page).tdiv x=pe:=by rw[←HPE.out];exact Int.tdiv_eq_ediv_of_nonneg (by omega)
   refine wp_region_noPanic ?_;refine wp_region_held_drew (S:=(fun w'=>w'.cell? ⟨b,1,none⟩=some (.int .i64 (sS c i k))∧w'.cell? ⟨b,2,none⟩=some (.int .i64 (sG c i k))∧w'.cell? ⟨w.heap.size,1,none⟩=some (.int .i64 c.page))) (by kernel_rfl) ?_ (fun hHeld=>?_)
   focus ((try dsimp only);go_keep)
   refine Zyu 0 (v:=?_) ?_ ?_;rotate_left
   focus (intro w hSw;(try dsimp only at hSw);go_simp;try with_reducible rfl)
   try simp only[Zyt]
   refine Zyu 1 (v:=?_) ?_ ?_;rotate_left
   focus (intro w hSw;(try dsimp only at hSw);go_simp;try with_reducible rfl)
   try simp only[Zyt]
   refine Zyu 2 (v:=?_) ?_ ?_;rotate_left
   focus (intro w hSw;(try dsimp only at hSw);go_simp;try with_reducible rfl)
   try simp only[Zyt]
   refine Zyu 3 (v:=?_) ?_ ?_;rotate_left
   focus (intro w hSw;(try dsimp only at hSw);go_simp;try with_reducible rfl)
   try simp only[Zyt]
   refine Zyu 5 (v:=?_) ?_ ?_;rotate_left
   focus (intro w hSw;(try dsimp only at hSw);go_simp;try with_reducible rfl)
   try simp only[Zyt]
   refine Zyu 6 (v:=?_) ?_ ?_;rotate_left
   focus (intro w hSw;(try dsimp only at hSw);go_simp;try with_reducible rfl)
   try simp only[Zyt]
   refine Zyu 7 (v:=?_) ?_ ?_;rotate_left
   focus (intro w hSw;(try dsimp only at hSw);go_simp;try with_reducible rfl)
   try simp only[Zyt]
   refine Zyu 8 (v:=?_) ?_ ?_;rotate_left
   focus (intro w hSw;(try dsimp only at hSw);go_simp;try with_reducible rfl)
   try simp only[Zyt]
   refine Zyu 9 (v:=?_) ?_ ?_;rotate_left
   focus (intro w hSw;(try dsimp only at hSw);go_simp;try with_reducible rfl)
   try simp only[Zyt]
   refine Zyu 10 (v:=?_) ?_ ?_;rotate_left
   focus (intro w hSw;(try dsimp only at hSw);go_simp;try with_reducible rfl)
   try simp only[Zyt]
   refine Zyu 11 (v:=?_) ?_ ?_;rotate_left
   focus (intro w hSw;(try dsimp only at hSw);go_simp;try with_reducible rfl)
   try simp only[Zyt]
   refine Zyu 12 (v:=?_) ?_ ?_;rotate_left
   focus (intro w hSw;(try dsimp only at hSw);go_simp;try with_reducible rfl)
   try simp only[Zyt]
   refine Zyu 13 (v:=?_) ?_ ?_;rotate_left
   focus (intro w hSw;(try dsimp only at hSw);go_simp;try with_reducible rfl)
   try simp only[Zyt]
   refine Zyu 14 (v:=?_) ?_ ?_;rotate_left
   focus (intro w hSw;(try dsimp only at hSw);go_simp;try with_reducible rfl)
   try simp only[Zyt]
   refine Zyu 15 (v:=?_) ?_ ?_;rotate_left
   focus (intro w hSw;(try dsimp only at hSw);go_simp;try with_reducible rfl)
   try simp only[Zyt]
   refine Zyu 16 (v:=?_) ?_ ?_;rotate_left
   focus (intro w hSw;(try dsimp only at hSw);go_simp;try with_reducible rfl)
   try simp only[Zyt]
   refine Zyu 17 (v:=?_) ?_ ?_;rotate_left
   focus (intro w hSw;(try dsimp only at hSw);go_simp;try with_reducible rfl)
   try simp only[Zyt]
   refine Zyu 18 (v:=?_) ?_ ?_;rotate_left
   focus (intro w hSw;(try dsimp only at hSw);go_simp;try with_reducible rfl)
   try simp only[Zyt]
   refine Zyu 19 (v:=?_) ?_ ?_;rotate_left
   focus (intro w hSw;(try dsimp only at hSw);go_simp;try with_reducible rfl)
   try simp only[Zyt]
   refine wpAnyH_ready (rs:=[4,20]) (by kernel_rfl) (by simp) ?_;refine AllReadyH.cons (i:=4) rfl (fun K hK=>?_) (AllReadyH.cons (i:=20) rfl (fun K hK=>?_) AllReadyH.nil)
   ·go_simp;refine hK.out _ _ ?_ (fun hHeld=>?_)
    focus ((try dsimp only);assumption)
    clear hK K
    try simp only[Zyt]
    refine wpAnyH_ready (rs:=[20]) (by kernel_rfl) (by simp) ?_;refine AllReadyH.cons (i:=20) rfl (fun K hK=>?_) AllReadyH.nil;go_simp;refine hK.out _ _ ?_ (fun hHeld=>?_)
    focus ((try dsimp only);go_keep)
    clear hK K
    try simp only[Zyt]
    refine wpAnyH_ready (rs:=[21]) (by kernel_rfl) (by simp) ?_;refine AllReadyH.cons (i:=21) rfl (fun K hK=>?_) AllReadyH.nil
    (refine step_append_lies _ (by rfl) (.tmp 54) (.tmp 70) 118 (by rfl) (b+1) 128 i0 (.agg #[(0:Int),(0:Int),(0:Int),(0:Int),(0:Int)]) 5 40 underlying118 hi0 hz0 hz1 hz2 rfl (by decide) sv k (pcs c i k) (by simp[Act.eval]) (Xe PR3.out.own (by repeat (first|with_reducible exact Zy2 _|with_reducible refine Ext.drew ?_|with_reducible refine Ext.alloc ?_ _))) ⟨w3.heap.size,0,none⟩ 1 1 [.int .i64 x,.int .i64 (sS c i k),.int .i64 s,.int .i64 (sG c i k),.int .i64 pe] (by simp[Act.eval]) rfl (fun j u hu=>by first|exact NB1.out j u hu|exact NB2.out j u hu) (Zkj ⟨x,sS c i k,s,sG c i k,pe⟩) (by decide) (by unfold maxLen;omega) (by omega) (by simp;omega) (w3.heap.size+1) (by simp) ?_;intro g cap w4 hown hgrow hat hltg;obtain⟨q0,q1,q2,q3,qf,h4⟩:=PR3.out.grown (by repeat (first|with_reducible exact Zy2 _|with_reducible refine Ext.drew ?_|with_reducible refine Ext.alloc ?_ _)) hgrow;have q4:=(Vo h4).2.1;have qf0:=qf 0;have qf1:=qf 1;have qf2:=qf 2)
    refine hK.out _ _ ?_ (fun hHeld=>?_)
    focus ((try dsimp only);exact⟨q1,q2,q4⟩)
    clear hK K
    try simp only[Zyt]
    refine Zyu 22 (v:=?_) ?_ ?_;rotate_left
    focus (intro w hSw;(try dsimp only at hSw);go_simp;try with_reducible rfl)
    try simp only[Zyt]
    refine Zyu 23 (v:=?_) ?_ ?_;rotate_left
    focus (intro w hSw;(try dsimp only at hSw);go_simp;try with_reducible rfl)
    try simp only[Zyt]
    refine wpAnyH_ready (rs:=[24]) (by kernel_rfl) (by simp) ?_;refine AllReadyH.cons (i:=24) rfl (fun K hK=>?_) AllReadyH.nil;go_simp;refine hK.out _ _ ?_ (fun hHeld=>?_)
    focus ((try dsimp only);exact⟨Li (by decide) q1,Li (by decide) q2,(cell_far _ _ _ _ hbw).trans q4⟩)
    clear hK K
    try simp only[Zyt]
    refine wpAnyH_done (by kernel_rfl) ?_ _;refine NoPanic.normal ?_;have hown2:=Za hown;rw[←PS.out] at hown2;clear hown hgrow hat hltg q4 b0 b1 b2 b3 b4 b5 n0 n1 NB1 NB2 hwp x0 xq;go_wp2;go_roundw
    case rel=>exact⟨k+1,.slice (some ⟨g,0,none⟩) (k+1) cap,by omega,by go_num,Q8.step q0 q1 q2 q3 qf h4 PR3.out.lo hown2.out (by rw[SS.out]) (by rw[SG.out])⟩
    case measure=>simp[intOf];omega
   ·go_simp;refine hK.out _ _ ?_ (fun hHeld=>?_)
    focus ((try dsimp only);go_keep)
    clear hK K
    try simp only[Zyt]
    refine wpAnyH_ready (rs:=[4]) (by kernel_rfl) (by simp) ?_;refine AllReadyH.cons (i:=4) rfl (fun K hK=>?_) AllReadyH.nil;go_simp;refine hK.out _ _ ?_ (fun hHeld=>?_)
    focus ((try dsimp only);assumption)
    clear hK K
    try simp only[Zyt]
    refine wpAnyH_ready (rs:=[21]) (by kernel_rfl) (by simp) ?_;refine AllReadyH.cons (i:=21) rfl (fun K hK=>?_) AllReadyH.nil
    (refine step_append_lies _ (by rfl) (.tmp 54) (.tmp 70) 118 (by rfl) (b+1) 128 i0 (.agg #[(0:Int),(0:Int),(0:Int),(0:Int),(0:Int)]) 5 40 underlying118 hi0 hz0 hz1 hz2 rfl (by decide) sv k (pcs c i k) (by simp[Act.eval]) (Xe PR3.out.own (by repeat (first|with_reducible exact Zy2 _|with_reducible refine Ext.drew ?_|with_reducible refine Ext.alloc ?_ _))) ⟨w3.heap.size,0,none⟩ 1 1 [.int .i64 x,.int .i64 (sS c i k),.int .i64 s,.int .i64 (sG c i k),.int .i64 pe] (by simp[Act.eval]) rfl (fun j u hu=>by first|exact NB1.out j u hu|exact NB2.out j u hu) (Zkj ⟨x,sS c i k,s,sG c i k,pe⟩) (by decide) (by unfold maxLen;omega) (by omega) (by simp;omega) (w3.heap.size+1) (by simp) ?_;intro g cap w4 hown hgrow hat hltg;obtain⟨q0,q1,q2,q3,qf,h4⟩:=PR3.out.grown (by repeat (first|with_reducible exact Zy2 _|with_reducible refine Ext.drew ?_|with_reducible refine Ext.alloc ?_ _)) hgrow;have q4:=(Vo h4).2.1;have qf0:=qf 0;have qf1:=qf 1;have qf2:=qf 2)
    refine hK.out _ _ ?_ (fun hHeld=>?_)
    focus ((try dsimp only);exact⟨q1,q2,q4⟩)
    clear hK K
    try simp only[Zyt]
    refine Zyu 22 (v:=?_) ?_ ?_;rotate_left
    focus (intro w hSw;(try dsimp only at hSw);go_simp;try with_reducible rfl)
    try simp only[Zyt]
    refine Zyu 23 (v:=?_) ?_ ?_;rotate_left
    focus (intro w hSw;(try dsimp only at hSw);go_simp;try with_reducible rfl)
    try simp only[Zyt]
    refine wpAnyH_ready (rs:=[24]) (by kernel_rfl) (by simp) ?_;refine AllReadyH.cons (i:=24) rfl (fun K hK=>?_) AllReadyH.nil;go_simp;refine hK.out _ _ ?_ (fun hHeld=>?_)
    focus ((try dsimp only);exact⟨Li (by decide) q1,Li (by decide) q2,(cell_far _ _ _ _ hbw).trans q4⟩)
    clear hK K
    try simp only[Zyt]
    refine wpAnyH_done (by kernel_rfl) ?_ _;refine NoPanic.normal ?_;have hown2:=Za hown;rw[←PS.out] at hown2;clear hown hgrow hat hltg q4 b0 b1 b2 b3 b4 b5 n0 n1 NB1 NB2 hwp x0 xq;go_wp2;go_roundw
    case rel=>exact⟨k+1,.slice (some ⟨g,0,none⟩) (k+1) cap,by omega,by go_num,Q8.step q0 q1 q2 q3 qf h4 PR3.out.lo hown2.out (by rw[SS.out]) (by rw[SG.out])⟩
    case measure=>simp[intOf];omega
  ·obtain rfl:k=c.cl.length:=by omega
   obtain⟨gp,hpl,hgp⟩:=PR.out.planG HO.out hi;have hlo:=PR.out.lo;have hsz:w.heap.size≤(w.alloc (.cells #[.slice (some ⟨cb,co,none⟩) c.cl.length cc,c.page,.slice ta c.ts.length tc,c.wk,c.gr,c.gens] 25)).heap.size:=hx.size;have HPL:=Za hpl;clear hpl;go_wp2;go_ret2;exact⟨b,gp,rfl,HPL.out,hx.trans h1,Zy6 hsz hlo,Zy6 (Zy6 hsz hlo) hgp⟩
section
variable{w w' W W':World}{c:Zh}{t:Nat}
structure Sr(w W:World)(z yb:Nat)(cs ys:List Value):Prop where
 x:Ext w W
 b:Zn W z cs
 y:Zn W yb ys
 lo:w.heap.size≤yb
 ne:z≠yb
theorem Sr.call{z yb:Nat}{cs ys:List Value}(h:Sr w W z yb cs ys)(x:Ext W W'):Sr w W' z yb cs ys:=⟨h.x.trans x,h.b.ext x,h.y.ext x,h.lo,h.ne⟩
theorem Sr.store{z yb i:Nat}{cs ys:List Value}{v:Value}(h:Sr w W z yb cs ys)(hi:i<ys.length)(e:W.setCell ⟨yb,i,none⟩ v=W'):Sr w W' z yb cs (ys.set i v)∧Chg (fun k=>k=yb) W W':=by
 subst e;have cx:=Wn W yb i v;exact⟨⟨cx.over h.x fun k e=>by have e1:k=yb:=e;have:=h.lo;omega,h.b.chg cx h.ne,h.y.set hi v,h.lo,h.ne⟩,cx⟩
def Zu2(w:World)(c:Zh)(t n:Nat)(gens wk:Int)(mb gw gm:Nat)(y:CY)(e:Ending)(w':World):Prop:=
 ∃B:CB,e=.returned (.tuple #[B.yb,(0:Int)])∧Vw w' B c t n gens wk y∧B.mb=mb∧B.gw=gw∧B.gm=gm∧w.heap.size≤B.yb∧B.a9≤w'.heap.size∧Ext w w'
theorem Wi(w:World)(b i j:Nat)(u:Value)(hne:i≠j):(w.setCell ⟨b,j,none⟩ u).cell? ⟨b,i,none⟩=w.cell? ⟨b,i,none⟩:=
 Zy0 _ _ _ _ (by intro q;cases q;exact hne rfl)
theorem Xw.gltC{w:World}{b rb rg g:Nat}{ms:List Int}(h:Xw w b rb rg g ms)(hp:0<ms.length):b<w.heap.size∧rb<w.heap.size∧rg<w.heap.size∧g<w.heap.size:=by
 refine⟨Zj h.head,h.row.lt,h.row.glt (by rw[Lo];exact hp),?_⟩;obtain⟨a,cap,_,hA,_,_,h5⟩:=h.ex;obtain⟨x,o,e,hc⟩:=hA 0 hp;rw[(h5 hp).1] at e;cases e;exact Zj hc
theorem Zu3{ca co ta to_ cc tc mb gw gm:Nat}{ws:List Int}(hc:Y7 w (some ⟨ca,co,none⟩) (some ⟨ta,to_,none⟩) cc tc c)(hk:Yc c=0)(ht:t<c.ts.length)(hm:Yo w mb gw gm c ws)(hw:Wid w)(hT:Tab w)(hwo:WOk ws)(hgw:0≠gw∧2≠gw)(hl:mb<w.heap.size∧gw<w.heap.size∧gm<w.heap.size∧0<w.heap.size∧2<w.heap.size) :
  Calls prog 104 #[.agg #[.slice (some ⟨ca,co,none⟩) c.cl.length cc,c.page,.slice (some ⟨ta,to_,none⟩) c.ts.length tc,c.wk,c.gr,c.gens],(t:Int),mb] w (Zu2 w c t c.gr.toNat c.gens c.wk mb gw gm (Zcl c t c.wk.toNat (Vg c.ts t).cp.toNat ws)):=by
 obtain⟨z,hz⟩:=Zb (w.heap.size);obtain⟨W0,hW0⟩:=Zb (w.alloc (.cells #[.slice (some ⟨ca,co,none⟩) c.cl.length cc,c.page,.slice (some ⟨ta,to_,none⟩) c.ts.length tc,c.wk,c.gr,c.gens] 25));have x0:Ext w W0:=by rw[←hW0];exact(Zy2 w).alloc _
 have b0:Zn W0 z [.slice (some ⟨ca,co,none⟩) c.cl.length cc,c.page,.slice (some ⟨ta,to_,none⟩) c.ts.length tc,c.wk,c.gr,c.gens]:=by rw[←hW0];exact Zn.new w [.slice (some ⟨ca,co,none⟩) c.cl.length cc,c.page,.slice (some ⟨ta,to_,none⟩) c.ts.length tc,c.wk,c.gr,c.gens] _ hz
 have ho:=Y8 hk;have wpos:0<ws.length:=by
  have p:=ho.total_pos;have q:=hm.len;omega
 have WP:=Za wpos;obtain⟨rp,hrp⟩:∃rp,Ow c (t:Int)=(rp,0):=⟨_,Ub (Th (i:=t) (j:=0) hk ht ho.cl.pos)⟩;have AL:=Za (Ztw (hm.ext x0));have RG:=Za (fun W (q:Ext w W)=>J3 c (t:Int) rp 0 hrp (hc.ext q));have SN:=Za (fun W (q:Ext w W)=>Znx c t hk ht (hc.ext q));have B0:=Za b0;have HC:=Za hc;have HM:=Za hm;have HWI:=Za hw;have HT:=Za hT;have WO:=Za hwo;have HL:=Za (And.intro hgw hl);have HO:=Za (And.intro ho ht);obtain⟨k0,k1,k2,k3,k4,k5⟩:=b0.k6;clear hk ht hrp ho b0 hm hc wpos hw hT hwo hgw hl;have en:∀(g n k:Nat) (w:World),Sem.run prog (binOp BinOp.eql 72 (.slice (some ⟨g,0,none⟩) n k) (.slice none 0 0)) w=.ok (.bool false) w:=fun g n k w=>rfl
 go_enter func104,ntmps104;go_wp2_with fail;refine AL.out.mono ?_;rintro e w1 ⟨a,cap,rfl,hN,x1⟩;obtain⟨ag,rfl,_,_,_⟩:=hN.own WP.out;clear hN;have X1:=Za (x0.trans x1);have B1:=Za (B0.out.ext x1);obtain⟨k0,k1,k2,k3,k4,k5⟩:=B1.out.k6;go_wp2_with fail;refine(RG.out _ X1.out).ze fun w2 x2=>?_;have X2:=Za (X1.out.trans x2);have B2:=Za (B1.out.ext x2);obtain⟨k0,k1,k2,k3,k4,k5⟩:=B2.out.k6;obtain⟨yb,hyb⟩:=Zb (w2.heap.size);obtain⟨W3,hW3⟩:=Zb (w2.alloc (.cells #[.pointer none,.pointer none,.pointer none,.pointer none,.pointer none,.pointer none,.pointer none,c.wk,.int .u8 0,(0:Int)] 117));have x3:Ext w2 W3:=by rw[←hW3];exact(Zy2 w2).alloc _
 have Y3:Zn W3 yb [.pointer none,.pointer none,.pointer none,.pointer none,.pointer none,.pointer none,.pointer none,c.wk,.int .u8 0,(0:Int)]:=by rw[←hW3];exact Zn.new w2 [.pointer none,.pointer none,.pointer none,.pointer none,.pointer none,.pointer none,.pointer none,c.wk,.int .u8 0,(0:Int)] _ hyb
 have R3:Hid (Sr w W3 z yb [.slice (some ⟨ca,co,none⟩) c.cl.length cc,c.page,.slice (some ⟨ta,to_,none⟩) c.ts.length tc,c.wk,c.gr,c.gens] [.pointer none,.pointer none,.pointer none,.pointer none,.pointer none,.pointer none,.pointer none,c.wk,.int .u8 0,(0:Int)]):=Za ⟨X2.out.trans x3,B2.out.ext x3,Y3,by have:=X2.out.size;omega,by have:=B2.out.lt;omega⟩;obtain⟨k0,k1,k2,k3,k4,k5⟩:=R3.out.b.k6;clear x1 x2 x3 Y3 X1 B1 B2 AL RG;go_wp2_with fail;refine(SN.out _ R3.out.x).mono ?_;rintro e w4 ⟨pb,gp,rfl,P4,x4,l4,m4⟩;have R4:=Za (R3.out.call x4);have GB:Hid (yb<pb∧yb<gp):=Za (by have:=R3.out.y.lt;omega);have ZP:Hid (yb<W3.heap.size∧W3.heap.size≤pb∧pb<w4.heap.size∧W3.heap.size≤gp∧gp<w4.heap.size):=Za (by have:=R3.out.y.lt;have:=P4.lt;omega);have P4:=Za P4;obtain⟨y0,y1,y2,y3,y4,y5,y6,y7,y8,y9⟩:=R4.out.y.k10;obtain⟨f0,f1,f2,f3,f4,f5,f6,f7,f8,f9⟩:=R4.out.y.g10;obtain⟨W5,hW5⟩:=Zb (w4.setCell yb (pb:Value));obtain⟨r5,c5⟩:=R4.out.store (i:=0) (by show 0<10;decide) hW5;have R5:Hid (Sr w W5 z yb [.slice (some ⟨ca,co,none⟩) c.cl.length cc,c.page,.slice (some ⟨ta,to_,none⟩) c.ts.length tc,c.wk,c.gr,c.gens] [pb,.pointer none,.pointer none,.pointer none,.pointer none,.pointer none,.pointer none,c.wk,.int .u8 0,(0:Int)]):=Za r5;have E5:Hid (W5.heap.size=w4.heap.size):=Za (by rw[←hW5];simp);obtain⟨k0,k1,k2,k3,k4,k5⟩:=R5.out.b.k6;obtain⟨v0,v1,v2,v3,v4,v5,v6,v7,v8,v9⟩:=R5.out.y.k10;have P5:=Za (P4.out.chg c5 (fun e=>by have e1:pb=yb:=e;have:=GB.out;omega) (fun e=>by have e1:gp=yb:=e;have:=GB.out;omega));clear r5 c5;have BN:=Za (Zsd (HM.out.ext R5.out.x) P5.out (HWI.out.ext R5.out.x) WO.out (by have g:=GB.out;have h:=HL.out;have l:=R5.out.lo;exact⟨by omega,by omega,h.1.1⟩));go_wp2_with fail;refine BN.out.mono ?_;rintro e w6 ⟨bb,rfl,D6,x6,l6⟩;have R6:=Za (R5.out.call x6);have P6:=Za (P5.out.ext x6);have GB:Hid (yb<pb∧yb<gp∧yb<bb):=Za (by have g:=GB.out;have h:=R5.out.y.lt;omega);have ZB:Hid (W5.heap.size≤bb∧bb<w6.heap.size):=Za (by have:=D6.lt;omega);have D6:=Za D6;clear x6 l6 BN;obtain⟨y0,y1,y2,y3,y4,y5,y6,y7,y8,y9⟩:=R6.out.y.k10;obtain⟨f0,f1,f2,f3,f4,f5,f6,f7,f8,f9⟩:=R6.out.y.g10;obtain⟨W7,hW7⟩:=Zb (w6.setCell ⟨yb,2,none⟩ (bb:Value));obtain⟨r7,c7⟩:=R6.out.store (i:=2) (by show 2<10;decide) hW7;have R7:Hid (Sr w W7 z yb [.slice (some ⟨ca,co,none⟩) c.cl.length cc,c.page,.slice (some ⟨ta,to_,none⟩) c.ts.length tc,c.wk,c.gr,c.gens] [pb,.pointer none,bb,.pointer none,.pointer none,.pointer none,.pointer none,c.wk,.int .u8 0,(0:Int)]):=Za r7;have E7:Hid (W7.heap.size=w6.heap.size):=Za (by rw[←hW7];simp);obtain⟨k0,k1,k2,k3,k4,k5⟩:=R7.out.b.k6;obtain⟨v0,v1,v2,v3,v4,v5,v6,v7,v8,v9⟩:=R7.out.y.k10
 have P7:=Za (P6.out.chg c7 (fun e=>by have e1:pb=yb:=e;have:=GB.out;omega) (fun e=>by have e1:gp=yb:=e;have:=GB.out;omega));have D7:=Za (D6.out.chgB c7 (fun e=>by have e1:bb=yb:=e;have:=GB.out;omega) ⟨fun e=>by have e1:mb=yb:=e;have:=HL.out;have:=R3.out.lo;omega,fun e=>by have e1:gw=yb:=e;have:=HL.out;have:=R3.out.lo;omega,fun e=>by have e1:gm=yb:=e;have:=HL.out;have:=R3.out.lo;omega⟩ ⟨fun e=>by have e1:pb=yb:=e;have:=GB.out;omega,fun e=>by have e1:gp=yb:=e;have:=GB.out;omega⟩ (fun e=>by have e1:0=yb:=e;have:=HL.out;have:=R3.out.lo;omega));clear r7 c7;have AN:=Za (Zlu P7.out);go_wp2_with fail;refine AN.out.mono ?_;rintro e w8 ⟨r,rfl,ab,ar,ag8,rfl,A8,l8,m8,n8,x8⟩;have R8:=Za (R7.out.call x8);have P8:=Za (P7.out.ext x8);have D8:=Za (D7.out.ext x8);have GB:Hid (yb<pb∧yb<gp∧yb<bb∧yb<ab∧yb<ar∧yb<ag8):=Za (by have g:=GB.out;have h:=R7.out.y.lt;omega);have ZA:Hid (W7.heap.size≤ab∧ab<w8.heap.size∧W7.heap.size≤ar∧ar<w8.heap.size∧W7.heap.size≤ag8∧ag8<w8.heap.size):=Za (by have:=Y9.lt A8;omega);have A8:=Za A8;clear x8 l8 m8 n8 AN;obtain⟨y0,y1,y2,y3,y4,y5,y6,y7,y8,y9⟩:=R8.out.y.k10;obtain⟨f0,f1,f2,f3,f4,f5,f6,f7,f8,f9⟩:=R8.out.y.g10;obtain⟨W9,hW9⟩:=Zb (w8.setCell ⟨yb,1,none⟩ (ab:Value));obtain⟨r9,c9⟩:=R8.out.store (i:=1) (by show 1<10;decide) hW9;have R9:Hid (Sr w W9 z yb [.slice (some ⟨ca,co,none⟩) c.cl.length cc,c.page,.slice (some ⟨ta,to_,none⟩) c.ts.length tc,c.wk,c.gr,c.gens] [pb,ab,bb,.pointer none,.pointer none,.pointer none,.pointer none,c.wk,.int .u8 0,(0:Int)]):=Za r9;have E9:Hid (W9.heap.size=w8.heap.size):=Za (by rw[←hW9];simp);obtain⟨k0,k1,k2,k3,k4,k5⟩:=R9.out.b.k6;obtain⟨v0,v1,v2,v3,v4,v5,v6,v7,v8,v9⟩:=R9.out.y.k10;have P9:=Za (P8.out.chg c9 (fun e=>by have e1:pb=yb:=e;have:=GB.out;omega) (fun e=>by have e1:gp=yb:=e;have:=GB.out;omega));have D9:=Za (D8.out.chgB c9 (fun e=>by have e1:bb=yb:=e;have:=GB.out;omega) ⟨fun e=>by have e1:mb=yb:=e;have:=HL.out;have:=R3.out.lo;omega,fun e=>by have e1:gw=yb:=e;have:=HL.out;have:=R3.out.lo;omega,fun e=>by have e1:gm=yb:=e;have:=HL.out;have:=R3.out.lo;omega⟩ ⟨fun e=>by have e1:pb=yb:=e;have:=GB.out;omega,fun e=>by have e1:gp=yb:=e;have:=GB.out;omega⟩ (fun e=>by have e1:0=yb:=e;have:=HL.out;have:=R3.out.lo;omega));have A9:=Za (A8.out.chg c9 (fun e=>by have e1:ab=yb:=e;have:=GB.out;omega) ⟨fun e=>by have e1:pb=yb:=e;have:=GB.out;omega,fun e=>by have e1:gp=yb:=e;have:=GB.out;omega⟩ ⟨fun e=>by have e1:ar=yb:=e;have:=GB.out;omega,fun e=>by have e1:ag8=yb:=e;have:=GB.out;omega⟩);clear r9 c9;obtain⟨N,hN⟩:∃N:Nat,(Vg c.ts t).cp=(N:Int):=⟨(Vg c.ts t).cp.toNat,by have:=(HO.out.1.ten t HO.out.2).2.2.2.2.1;omega⟩;have tlt:=HO.out.2;have hi0:(0:Int)≤(t:Int):=Int.natCast_nonneg _;have hi1:(t:Int)<(c.ts.length:Int):=by omega
 have TN:=Za (Zu1 (w:=W9.drew) (N:=N) (gens:=c.gens) (by have q1:=(HO.out.1.ten t HO.out.2).2.2.2.2.1;have q2:=(HO.out.1.ten t HO.out.2).2.2.2.2.2.1;omega) (by have q:=HO.out.1.head.2.2.2.2.2.2.2.2;exact q));obtain⟨ta',o',e',_,_,cp9,_⟩:=(HC.out.ext R9.out.x).ts t HO.out.2;cases e';rw[hN] at cp9;have HN:=Za hN;clear hN;have y1:z≠yb:=R9.out.ne;have y2:yb≠z:=y1.symm;have y3:ta≠yb:=by obtain⟨_,_,e,_,_,q,_⟩:=HC.out.ts t HO.out.2;cases e;have q2:=Zj q;have l:=R9.out.lo;(try simp only at q2);omega
 have y4:yb≠ta:=y3.symm;obtain⟨y0,y1,y2,y3,y4,y5,y6,y7,y8,y9⟩:=R9.out.y.k10;obtain⟨f0,f1,f2,f3,f4,f5,f6,f7,f8,f9⟩:=R9.out.y.g10;go_wp2_with fail
 go_region_held3 (fun W'=>W'.cell? ⟨z,2,none⟩=some (.slice (some ⟨ta,to_,none⟩) c.ts.length tc)∧W'.cell? ⟨z,5,none⟩=some (.int .i64 c.gens)∧W'.cell? ⟨ta,to_+t*4+2,none⟩=some (.int .i64 (N:Int)))
  ((first|go_keep|assumption|(go_split_ands;assumption)))
  (first|(go_at_call 141;with_reducible refine TN.out.mono ?_;rintro e w10 ⟨tb,tg,rfl,T10,tl1,tl2,x10⟩;have R10:=Za (R9.out.call ((Zy2 W9).drew.trans x10));have k2:=R10.out.b.c 2 _ rfl;have k5:=R10.out.b.c 5 _ rfl;have cp10:=((Zy2 W9).drew.trans x10).cell cp9;have m3:=R10.out.y.c 3 _ rfl;have n3:=R10.out.y.f 3)|fail)
 have X10:=Za ((Zy2 W9).drew.trans x10);have P10:=Za (P9.out.ext X10.out);have D10:=Za (D9.out.ext X10.out);have A10:=Za (A9.out.chg (P:=fun _=>False) (Zy3 X10.out) id ⟨id,id⟩ ⟨id,id⟩);have ZT:Hid (W9.heap.size≤tb∧tb<w10.heap.size∧W9.heap.size≤tg∧tg<w10.heap.size):=Za (by have:=T10.lt;have q1:W9.heap.size≤tb:=tl1;have q2:W9.heap.size≤tg:=tl2;omega);have GT:Hid (yb<tb∧yb<tg):=Za (by have:=ZT.out;have:=R9.out.y.lt;omega);have T10:=Za T10;clear x10 tl1 tl2 TN k2 k5 cp10 m3 n3 cp9;obtain⟨y0,y1,y2,y3,y4,y5,y6,y7,y8,y9⟩:=R10.out.y.k10;obtain⟨f0,f1,f2,f3,f4,f5,f6,f7,f8,f9⟩:=R10.out.y.g10;obtain⟨W11,hW11⟩:=Zb (w10.setCell ⟨yb,3,none⟩ (tb:Value));obtain⟨r11,c11⟩:=R10.out.store (i:=3) (by show 3<10;decide) hW11;have R11:Hid (Sr w W11 z yb [.slice (some ⟨ca,co,none⟩) c.cl.length cc,c.page,.slice (some ⟨ta,to_,none⟩) c.ts.length tc,c.wk,c.gr,c.gens] [pb,ab,bb,tb,.pointer none,.pointer none,.pointer none,c.wk,.int .u8 0,(0:Int)]):=Za r11;have E11:Hid (W11.heap.size=w10.heap.size):=Za (by rw[←hW11];simp);obtain⟨k0,k1,k2,k3,k4,k5⟩:=R11.out.b.k6;obtain⟨v0,v1,v2,v3,v4,v5,v6,v7,v8,v9⟩:=R11.out.y.k10;have P11:=Za (P10.out.chg c11 (fun e=>by have e1:pb=yb:=e;have:=GB.out;omega) (fun e=>by have e1:gp=yb:=e;have:=GB.out;omega));have D11:=Za (D10.out.chgB c11 (fun e=>by have e1:bb=yb:=e;have:=GB.out;omega) ⟨fun e=>by have e1:mb=yb:=e;have:=HL.out;have:=R3.out.lo;omega,fun e=>by have e1:gw=yb:=e;have:=HL.out;have:=R3.out.lo;omega,fun e=>by have e1:gm=yb:=e;have:=HL.out;have:=R3.out.lo;omega⟩ ⟨fun e=>by have e1:pb=yb:=e;have:=GB.out;omega,fun e=>by have e1:gp=yb:=e;have:=GB.out;omega⟩ (fun e=>by have e1:0=yb:=e;have:=HL.out;have:=R3.out.lo;omega));have A11:=Za (A10.out.chg c11 (fun e=>by have e1:ab=yb:=e;have:=GB.out;omega) ⟨fun e=>by have e1:pb=yb:=e;have:=GB.out;omega,fun e=>by have e1:gp=yb:=e;have:=GB.out;omega⟩ ⟨fun e=>by have e1:ar=yb:=e;have:=GB.out;omega,fun e=>by have e1:ag8=yb:=e;have:=GB.out;omega⟩);have T11:=Za (T10.out.chg c11 (fun e=>by have e1:tb=yb:=e;have:=GT.out;omega) (fun e=>by have e1:tg=yb:=e;have:=GT.out;omega));clear r11 c11
 try rw[hW11]
 obtain⟨S,hS⟩:=Zb (nS c t);have SN2:=HO.out.1.nS_eq HO.out.2;have SB:Hid (1≤S∧S≤65536∧nS c t=S):=Za (by have q1:=HO.out.1.nS_pos HO.out.2;have q2:=HO.out.1.nS_le HO.out.2;omega);have SL:=Za (Yx (S:Int) (by rw[←hS];exact SN2.symm) P11.out);have PN:=Za (Zpz S (w:=W11) SB.out.2.1);clear hS SN2;go_wp2_with fail;refine SL.out.zz ?_;go_wp2_with fail;refine PN.out.mono ?_;rintro e w12 ⟨nb,nr,nrg,ng,rfl,N12,nl1,nl2,nl3,x12⟩;have R12:=Za (R11.out.call x12);have P12:=Za (P11.out.ext x12);have D12:=Za (D11.out.ext x12);have A12:=Za (A11.out.chg (P:=fun _=>False) (Zy3 x12) id ⟨id,id⟩ ⟨id,id⟩);have T12:=Za (T11.out.ext x12);have ZN:Hid (W11.heap.size≤nb∧nb<w12.heap.size∧W11.heap.size≤nr∧nr<w12.heap.size∧W11.heap.size≤nrg∧nrg<w12.heap.size∧W11.heap.size≤ng∧ng<w12.heap.size):=Za (by
  have:=SB.out.1;have q:=nl3 (by omega);have p:=N12.gltC (by rw[Zza];omega);omega)
 have GN:Hid (yb<nb∧yb<nr∧yb<nrg∧yb<ng):=Za (by have:=ZN.out;have:=R11.out.y.lt;omega);have N12:=Za N12;clear x12 nl1 nl2 nl3 PN SL;obtain⟨y0,y1,y2,y3,y4,y5,y6,y7,y8,y9⟩:=R12.out.y.k10;obtain⟨f0,f1,f2,f3,f4,f5,f6,f7,f8,f9⟩:=R12.out.y.g10;obtain⟨W13,hW13⟩:=Zb (w12.setCell ⟨yb,4,none⟩ (nb:Value));obtain⟨r13,c13⟩:=R12.out.store (i:=4) (by show 4<10;decide) hW13;have R13:Hid (Sr w W13 z yb [.slice (some ⟨ca,co,none⟩) c.cl.length cc,c.page,.slice (some ⟨ta,to_,none⟩) c.ts.length tc,c.wk,c.gr,c.gens] [pb,ab,bb,tb,nb,.pointer none,.pointer none,c.wk,.int .u8 0,(0:Int)]):=Za r13;have E13:Hid (W13.heap.size=w12.heap.size):=Za (by rw[←hW13];simp);obtain⟨k0,k1,k2,k3,k4,k5⟩:=R13.out.b.k6;obtain⟨v0,v1,v2,v3,v4,v5,v6,v7,v8,v9⟩:=R13.out.y.k10;have P13:=Za (P12.out.chg c13 (fun e=>by have e1:pb=yb:=e;have:=GB.out;omega) (fun e=>by have e1:gp=yb:=e;have:=GB.out;omega));have D13:=Za (D12.out.chgB c13 (fun e=>by have e1:bb=yb:=e;have:=GB.out;omega) ⟨fun e=>by have e1:mb=yb:=e;have:=HL.out;have:=R3.out.lo;omega,fun e=>by have e1:gw=yb:=e;have:=HL.out;have:=R3.out.lo;omega,fun e=>by have e1:gm=yb:=e;have:=HL.out;have:=R3.out.lo;omega⟩ ⟨fun e=>by have e1:pb=yb:=e;have:=GB.out;omega,fun e=>by have e1:gp=yb:=e;have:=GB.out;omega⟩ (fun e=>by have e1:0=yb:=e;have:=HL.out;have:=R3.out.lo;omega));have A13:=Za (A12.out.chg c13 (fun e=>by have e1:ab=yb:=e;have:=GB.out;omega) ⟨fun e=>by have e1:pb=yb:=e;have:=GB.out;omega,fun e=>by have e1:gp=yb:=e;have:=GB.out;omega⟩ ⟨fun e=>by have e1:ar=yb:=e;have:=GB.out;omega,fun e=>by have e1:ag8=yb:=e;have:=GB.out;omega⟩);have T13:=Za (T12.out.chg c13 (fun e=>by have e1:tb=yb:=e;have:=GT.out;omega) (fun e=>by have e1:tg=yb:=e;have:=GT.out;omega));have N13:=Za (N12.out.chgP c13 (fun e=>by have e1:nb=yb:=e;have:=GN.out;omega) ⟨fun e=>by have e1:nr=yb:=e;have:=GN.out;omega,fun e=>by have e1:nrg=yb:=e;have:=GN.out;omega⟩ (fun e=>by have e1:ng=yb:=e;have:=GN.out;omega));clear r13 c13;obtain⟨K,hK⟩:∃K:Nat,c.wk=(K:Int):=⟨c.wk.toNat,by have:=HO.out.1.head.2.2.2.2.1;omega⟩;obtain⟨G,hG⟩:∃G:Nat,c.gr=(G:Int):=⟨c.gr.toNat,by have:=HO.out.1.head.2.2.2.2.2.2.1;omega⟩;obtain⟨B0,hB0⟩:∃B0:CB,B0={ mb:=mb,gw:=gw,gm:=gm,yb:=yb,a0:=W3.heap.size,pb:=pb,gp:=gp,a1:=w4.heap.size,bb:=bb,a2:=w6.heap.size,ab:=ab,ar:=ar,ag:=ag8,a3:=w8.heap.size,tb:=tb,tg:=tg,tcap:=N,a4:=w10.heap.size,nb:=nb,nr:=nr,nrg:=nrg,ng:=ng,a5:=0,gb:=0,ob:=0,og:=0,db:=0,dg:=0,rg:=0,a6:=0,cb:=0,cg:=0,a7:=0,hd:=0,hcap:=0,kb:=0,a8:=0,sb:=0,sr:=0,sg:=0,a9:=0 }:=⟨_,rfl⟩;have O5:Hid (B0.Ord5 w12.heap.size):=Za (by
  have z1:=ZP.out;have z2:=ZB.out;have z3:=ZA.out;have z4:=ZT.out;have z5:=ZN.out;have e5:=E5.out;have e7:=E7.out;have e9:=E9.out;have e11:=E11.out;have l:=R3.out.lo;have hl:=HL.out;have mm:=HM.out.ne;have mn:=HM.out.nb;rw[hB0];refine⟨?_,?_,?_,?_,?_,?_,?_⟩<;>(try simp only)<;>omega)
 have q13:Ext W13 W13.drew:=(Zy2 _).drew;have MN:=Za (Zsb (B:=B0) (k:=K) (n:=G) (gens:=c.gens) (l:=List.replicate N ⟨0,0,1⟩) (ms:=List.replicate S 0) w12.heap.size O5.out (by rw[hB0];exact D13.out.ext q13) (by rw[hB0];exact T13.out.ext q13) (by rw[Zza];have q1:=(HO.out.1.ten t HO.out.2).2.2.2.2.1;have:=HN.out;omega) (by rw[hB0];exact N13.out.chgP (P:=fun _=>False) (Zy3 q13) id ⟨id,id⟩ id) (by rw[Zza];exact SB.out.2.2.symm) (by have:=HO.out.1.head.2.2.2.2.2.1;omega) (by have q1:=HO.out.1.head.2.2.2.2.2.2.1;have q2:=HO.out.1.head.2.2.2.2.2.2.2.1;omega) ((HT.out.ext R13.out.x).ext q13) (by show w12.heap.size≤W13.heap.size;have:=E13.out;omega));rw[←hK,←hG] at MN;have HB:=Za hB0;have MN2:Hid (Calls prog 143 #[bb,pb,tb,nb,c.wk,c.gr] W13.drew (Zu0 W13.drew B0 c t G (K+1) c.gens ws (List.replicate N ⟨0,0,1⟩) (List.replicate S 0) w12.heap.size)):=Za (by have:=MN.out;rw[hB0] at this ⊢;exact this);have hk:=Za hK;have hg:=Za hG;unfold Zu0 at MN2;clear MN hB0 hK hG;obtain⟨y0,y1,y2,y3,y4,y5,y6,y7,y8,y9⟩:=R13.out.y.k10;obtain⟨f0,f1,f2,f3,f4,f5,f6,f7,f8,f9⟩:=R13.out.y.g10;have s0:=fun (W:World) (u:Value)=>Wi W yb 0 5 u (by decide)
 have s2:=fun (W:World) (u:Value)=>Wi W yb 2 5 u (by decide)
 have s3:=fun (W:World) (u:Value)=>Wi W yb 3 5 u (by decide)
 have s4:=fun (W:World) (u:Value)=>Wi W yb 4 5 u (by decide)
 go_wp2_with fail
 go_region_held3 (fun W'=>W'.cell? ⟨z,3,none⟩=some (.int .i64 c.wk)∧W'.cell? ⟨z,4,none⟩=some (.int .i64 c.gr)∧W'.cell? yb=some (pb:Value)∧W'.cell? ⟨yb,2,none⟩=some (bb:Value)∧W'.cell? ⟨yb,3,none⟩=some (tb:Value)∧W'.cell? ⟨yb,4,none⟩=some (nb:Value))
  ((first|go_keep|assumption|(go_split_ands;assumption)))
  (first|(go_at_call 143;with_reducible refine MN2.out.mono ?_;rintro e w14 ⟨gb,ob,og,db,dg,rg,a6,cb,cg,a7,hd,kb,rfl,x14,M14⟩;have R14:=Za (R13.out.call (q13.trans x14));have k3:=R14.out.b.c 3 _ rfl;have k4:=R14.out.b.c 4 _ rfl;have m0:=R14.out.y.c 0 _ rfl;have m2:=R14.out.y.c 2 _ rfl;have m3:=R14.out.y.c 3 _ rfl;have m4:=R14.out.y.c 4 _ rfl;have m5:=R14.out.y.c 5 _ rfl;have n5:=R14.out.y.f 5)|fail)
 have X14:=Za (q13.trans x14);obtain⟨B1,hB1⟩:∃B1:CB,B1={ B0 with a5:=w12.heap.size,gb:=gb,ob:=ob,og:=og,db:=db,dg:=dg,rg:=rg,a6:=a6,cb:=cb,cg:=cg,a7:=a7,hd:=hd,hcap:=K+1,kb:=kb,a8:=w14.heap.size }:=⟨_,rfl⟩;have Y1:Hid (B1.yb=yb∧B1.ab=ab∧B1.bb=bb∧B1.pb=pb∧B1.gp=gp∧B1.ar=ar∧B1.ag=ag8∧B1.kb=kb∧B1.mb=mb∧B1.gw=gw∧B1.gm=gm∧B1.tb=tb∧B1.nb=nb∧B1.a8=w14.heap.size):=Za (by rw[hB1];have q:=HB.out;rw[q];exact⟨rfl,rfl,rfl,rfl,rfl,rfl,rfl,rfl,rfl,rfl,rfl,rfl,rfl,rfl⟩);have M14:Hid (Ye w14 B1 c t G c.gens ws (List.replicate N ⟨0,0,1⟩) (List.replicate S 0) (Zjd c t (K+1))):=Za (by rw[hB1];exact M14);have A14:=Za (A13.out.chg (P:=fun _=>False) (Zy3 X14.out) id ⟨id,id⟩ ⟨id,id⟩);clear x14 MN2 k3 k4 m0 m2 m3 m4 m5 n5 hB1 q13 s0 s2 s3 s4;obtain⟨y0,y1,y2,y3,y4,y5,y6,y7,y8,y9⟩:=R14.out.y.k10;obtain⟨f0,f1,f2,f3,f4,f5,f6,f7,f8,f9⟩:=R14.out.y.g10;obtain⟨W15,hW15⟩:=Zb (w14.setCell ⟨yb,5,none⟩ (kb:Value));obtain⟨r15,c15⟩:=R14.out.store (i:=5) (by show 5<10;decide) hW15;have R15:Hid (Sr w W15 z yb [.slice (some ⟨ca,co,none⟩) c.cl.length cc,c.page,.slice (some ⟨ta,to_,none⟩) c.ts.length tc,c.wk,c.gr,c.gens] [pb,ab,bb,tb,nb,kb,.pointer none,c.wk,.int .u8 0,(0:Int)]):=Za r15;have E15:Hid (W15.heap.size=w14.heap.size):=Za (by rw[←hW15];simp);obtain⟨k0,k1,k2,k3,k4,k5⟩:=R15.out.b.k6;obtain⟨v0,v1,v2,v3,v4,v5,v6,v7,v8,v9⟩:=R15.out.y.k10;have A15:=Za (A14.out.chg c15 (fun e=>by have e1:ab=yb:=e;have:=GB.out;omega) ⟨fun e=>by have e1:pb=yb:=e;have:=GB.out;omega,fun e=>by have e1:gp=yb:=e;have:=GB.out;omega⟩ ⟨fun e=>by have e1:ar=yb:=e;have:=GB.out;omega,fun e=>by have e1:ag8=yb:=e;have:=GB.out;omega⟩);have M15:=Za (M14.out.chgY c15 (fun j h1 h2 e=>h1 (by have e1:j=yb:=e;rw[e1];exact Y1.out.1.symm)));clear r15 c15
 try rw[hW15]
 have q15:Ext W15 W15.drew:=(Zy2 _).drew;have SW:=Za (Znt (M15.out.ext q15) (bs:=List.replicate (nS c t) false) (by obtain⟨e1,e2,e3,e4,e5,e6,e7,_⟩:=Y1.out;rw[e2,e4,e5,e6,e7];exact A15.out.chg (P:=fun _=>False) (Zy3 q15) id ⟨id,id⟩ ⟨id,id⟩));obtain⟨e1,e2,e3,e4,e5,e6,e7,e8,e9⟩:=Y1.out;rw[e2,e3,e4,e8] at SW;clear e1 e2 e3 e4 e5 e6 e7 e8 e9;unfold Zuz at SW;obtain⟨y0,y1,y2,y3,y4,y5,y6,y7,y8,y9⟩:=R15.out.y.k10;obtain⟨f0,f1,f2,f3,f4,f5,f6,f7,f8,f9⟩:=R15.out.y.g10;have s0:=fun (W:World) (u:Value)=>Wi W yb 0 6 u (by decide)
 have s1:=fun (W:World) (u:Value)=>Wi W yb 1 6 u (by decide)
 have s2:=fun (W:World) (u:Value)=>Wi W yb 2 6 u (by decide)
 have s5:=fun (W:World) (u:Value)=>Wi W yb 5 6 u (by decide)
 go_wp2_with fail
 go_region_held3 (fun W'=>W'.cell? yb=some (pb:Value)∧W'.cell? ⟨yb,1,none⟩=some (ab:Value)∧W'.cell? ⟨yb,2,none⟩=some (bb:Value)∧W'.cell? ⟨yb,5,none⟩=some (kb:Value))
  ((first|go_keep|assumption|(go_split_ands;assumption)))
  (first|(go_at_call 144;with_reducible refine SW.out.mono ?_;rintro e w16 ⟨sb,sr,sg,rfl,x16,I16⟩;have R16:=Za (R15.out.call (q15.trans x16));obtain⟨m0,m1,m2⟩:=R16.out.y.k3;have m5:=R16.out.y.c 5 _ rfl;have m6:=R16.out.y.c 6 _ rfl;have n6:=R16.out.y.f 6)|fail)
 have X16:=Za (q15.trans x16);obtain⟨B2,hB2⟩:∃B2:CB,B2={ B1 with sb:=sb,sr:=sr,sg:=sg,a9:=w16.heap.size }:=⟨_,rfl⟩;have Y2:Hid (B2.yb=yb∧B2.pb=pb∧B2.ab=ab∧B2.bb=bb∧B2.tb=tb∧B2.nb=nb∧B2.kb=kb∧B2.sb=sb∧B2.mb=mb∧B2.gw=gw∧B2.gm=gm∧B2.a9=w16.heap.size):=Za (by obtain⟨e1,e2,e3,e4,e5,e6,e7,e8,e9,e10,e11,e12,e13,e14⟩:=Y1.out;rw[hB2];exact⟨e1,e4,e2,e3,e12,e13,e8,rfl,e9,e10,e11,rfl⟩);have I16:Hid (Vl w16 B2 c t G c.gens ⟨ws,List.replicate (nS c t) false,List.replicate N ⟨0,0,1⟩,List.replicate S 0,Zjd c t (K+1),⟨List.replicate (nS c t) false,0,false⟩,0,0⟩):=Za (by rw[hB2];exact I16);clear x16 SW m0 m1 m2 m5 m6 n6 hB2 q15 s0 s1 s2 s5;obtain⟨y0,y1,y2,y3,y4,y5,y6,y7,y8,y9⟩:=R16.out.y.k10;obtain⟨f0,f1,f2,f3,f4,f5,f6,f7,f8,f9⟩:=R16.out.y.g10;obtain⟨W17,hW17⟩:=Zb (w16.setCell ⟨yb,6,none⟩ (sb:Value));obtain⟨r17,c17⟩:=R16.out.store (i:=6) (by show 6<10;decide) hW17;have R17:Hid (Sr w W17 z yb [.slice (some ⟨ca,co,none⟩) c.cl.length cc,c.page,.slice (some ⟨ta,to_,none⟩) c.ts.length tc,c.wk,c.gr,c.gens] [pb,ab,bb,tb,nb,kb,sb,c.wk,.int .u8 0,(0:Int)]):=Za r17;have E17:Hid (W17.heap.size=w16.heap.size):=Za (by rw[←hW17];simp);obtain⟨k0,k1,k2,k3,k4,k5⟩:=R17.out.b.k6;obtain⟨v0,v1,v2,v3,v4,v5,v6,v7,v8,v9⟩:=R17.out.y.k10;have I17:=Za (I16.out.offY c17 (fun j q=>by have e1:j=yb:=q;rw[e1];exact Y2.out.1.symm));clear r17 c17
 try rw[hW17]
 have FIN:Hid (Zu2 w c t c.gr.toNat c.gens c.wk mb gw gm (Zcl c t c.wk.toNat (Vg c.ts t).cp.toNat ws) (.returned (.tuple #[yb,(0:Int)])) W17):=Za (by
  obtain⟨e1,e2,e3,e4,e5,e6,e7,e8,e9,e10,e11,e12⟩:=Y2.out;have eg:c.gr.toNat=G:=by rw[hg.out];rfl
  have ek:c.wk.toNat=K:=by rw[hk.out];rfl
  have en:(Vg c.ts t).cp.toNat=N:=by rw[HN.out];rfl
  have es:=SB.out.2.2;have iy:=I17.out;rw[←es] at iy;refine⟨B2,by rw[e1],⟨⟨?_,?_,?_,?_⟩,?_⟩,e9,e10,e11,by rw[e1];exact R17.out.lo,by rw[e12];have:=E17.out;omega,R17.out.x⟩
  ·rw[eg,ek,en];exact iy
  ·rw[e1];have eb:ycs B2 c.wk (Zcl c t c.wk.toNat (Vg c.ts t).cp.toNat ws)=[(pb:Value),(ab:Value),(bb:Value),(tb:Value),(nb:Value),(kb:Value),(sb:Value),.int .i64 c.wk,.int .u8 0,.int .i64 0]:=by unfold ycs;rw[e2,e3,e4,e5,e6,e7,e8];rfl
   rw[eb];exact R17.out.y
  ·show(0:Nat)<1099511627776;decide
  ·show(0:Nat)≤3;decide
  ·exact Zy1 _)
 clear R17 I17 E17;go_wp2;go_ret2;exact FIN.out
end
end Go.Proofs.YtfcldaembdedjaaGreatDoor
