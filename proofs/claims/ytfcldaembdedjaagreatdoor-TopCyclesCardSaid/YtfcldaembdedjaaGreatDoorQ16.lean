/-
  Parts of the proof of TopCycles: Raw3, Mach, Mach2, Mach3, Mach4, Mach4m, Mach5, Reach.
-/
import Derived.Test.YtfcldaembdedjaaGreatDoorQ15
import Derived.Deep.RegionLaw
set_option linter.unusedVariables false
set_option linter.unusedSimpArgs false
set_option maxRecDepth 100000
set_option maxHeartbeats 16000000
namespace Go.Proofs.YtfcldaembdedjaaGreatDoor
open Go.RowKit Tryz
section
variable{w w' W W':World}{rb bb p:Nat}{bs:List Int}
theorem Zn7(s:ByteArray)(W:World):∃cap W1,(convert 9 165 (.string s)).run prog W=.ok (.slice (some ⟨W.heap.size,0,none⟩) s.size cap) W1∧At .u8 W1 (some ⟨W.heap.size,0,none⟩) (sbs s)∧s.size≤cap∧Ext W W1∧W1.heap.size=W.heap.size+1:=by
 refine⟨_,_,run_bytes_of_string W 9 165 5 s underlying9 underlying165 underlying5,fun i hi=>⟨W.heap.size,0,rfl,?_⟩,?_,(Zy2 W).drew.alloc _,by simp⟩
 ·rw[Pq] at hi;rw[Nat.zero_add];have e:=World.cell?_alloc_mark W.drew (bytesRow s (grownCap W s.size 0 5)) 5 ((bytesRow s (grownCap W s.size 0 5)).size,(bytesRow s (grownCap W s.size 0 5)).size+1) i;rw[bytesRow_at s _ i hi] at e;rw[Zb5 hi];exact e
 ·exact grownCap_ge _ _ _ _
structure Gd(w W:World)(xb rb bb:Nat)(bs:List Int)(V:List Value)(p:Nat):Prop where
 x:Zn W xb V
 e:Zn W (xb+1) [(0:Int)]
 r:Gs W rb bb bs p
 o:w.heap.size=xb∧xb+1<bb∧bb<rb
 ext:Ext w W
variable{xb:Nat}{V:List Value}
theorem Gd.read{q:Nat}(h:Gd w W xb rb bb bs V p)(r:Gs W' rb bb bs q)(x:Chg (fun k=>k=rb) W W'):Gd w W' xb rb bb bs V q:=by
 obtain⟨o1,o2,o3⟩:=h.o;exact⟨h.x.chg x (fun z=>by have e1:xb=rb:=z;omega),h.e.chg x (fun z=>by have e1:xb+1=rb:=z;omega),r,h.o,x.over h.ext fun k z=>by have e1:k=rb:=z;omega⟩
theorem Gd.store(h:Gd w W xb rb bb bs V p){i:Nat}(hi:i<V.length){v:Value}(e:W.setCell ⟨xb,i,none⟩ v=W'):Gd w W' xb rb bb bs (V.set i v) p:=by
 subst e;obtain⟨o1,o2,o3⟩:=h.o;have x:Chg (fun k=>k=xb) W (W.setCell ⟨xb,i,none⟩ v):=Chg.setCell (P:=fun j=>j=xb) (p:=⟨xb,i,none⟩) (Chg.refl _ W) (.inl rfl) v;exact⟨h.x.set hi v,h.e.chg x (fun z=>by have e1:xb+1=xb:=z;omega),h.r.chg x (fun z=>by have e1:rb=xb:=z;omega) (fun z=>by have e1:bb=xb:=z;omega),h.o,x.over h.ext fun k z=>by have e1:k=xb:=z;omega⟩
theorem Gd.new(s:ByteArray)(w:World)(xb:Nat)(hz:w.heap.size=xb):∃W0 cap W1 W2,(w.alloc (.cells #[.int .u8 0,(0:Int),.int .u8 0,.int .u64 0,(0:Int),(0:Int),.int .u64 0,(0:Int),.int .u8 0] 38)).alloc (.cells #[(0:Int)] 28)=W0 ∧
  (convert 9 165 (.string s)).run prog W0=.ok (.slice (some ⟨xb+2,0,none⟩) s.size cap) W1∧W1.alloc (.cells #[.slice (some ⟨xb+2,0,none⟩) s.size cap] 167)=W2∧W1.heap.size=xb+3∧Gd w W2 xb (xb+3) (xb+2) (sbs s) enZ 0:=by
 obtain⟨W0,hW0⟩:=Zb ((w.alloc (.cells #[.int .u8 0,(0:Int),.int .u8 0,.int .u64 0,(0:Int),(0:Int),.int .u64 0,(0:Int),.int .u8 0] 38)).alloc (.cells #[(0:Int)] 28));have z0:W0.heap.size=xb+2:=by rw[←hW0];simp[hz]
 have x0:Ext w W0:=by rw[←hW0];exact((Zy2 w).alloc _).alloc _
 have b0:Zn W0 xb enZ:=by rw[←hW0];exact(Zn.new w enZ _ hz).ext ((Zy2 _).alloc _)
 have e0:Zn W0 (xb+1) [(0:Int)]:=by rw[←hW0];exact Zn.new _ [(0:Int)] _ (by simp[hz])
 obtain⟨cap,W1,hc,ha,hl,x1,z1⟩:=Zn7 s W0;rw[z0] at hc ha z1;have x2:Ext W1 (W1.alloc (.cells #[.slice (some ⟨xb+2,0,none⟩) s.size cap] 167)):=(Zy2 _).alloc _;refine⟨W0,cap,W1,_,hW0,hc,rfl,z1,b0.ext (x1.trans x2),e0.ext (x1.trans x2),⟨Nat.zero_le _,by omega,some ⟨xb+2,0,none⟩,cap,?_,?_,?_,fun d e=>by cases e;rfl⟩,⟨hz,by omega,by omega⟩,(x0.trans x1).trans x2⟩
 ·rw[Pq];exact Zn.new W1 [.slice (some ⟨xb+2,0,none⟩) s.size cap] _ z1
 ·rw[List.drop_zero];exact ha.ext x2
 ·rw[Pq];omega
theorem Zn8(s:ByteArray){x:EnI}{k:Int}(hx:(Tg (sbs s)).1=x)(hk:(if (Tg (sbs s)).2 then (0:Int) else 250)=k):Calls prog 38 #[.string s] w fun e w'=>e=.returned (.tuple #[enV x,.int .i64 k])∧Ext w w':=by
 have hmf:=Ze
 obtain⟨xb,hz⟩:=Zb (w.heap.size);obtain⟨W0,cap,W1,W2,hW0,hc,hW2,z1,g0⟩:=Gd.new s w xb hz;have bo:=Ro s;have G0:=Za g0;have BO:=Za bo;obtain⟨bs,hbs⟩:=Zb (sbs s);rw[hbs] at G0 BO hx hk;have PAN:Hid (∀W V p,Gd w W xb (xb+3) (xb+2) bs V p→V.length=9→CallsD prog 70 #[xb,.pointer (some ⟨xb+1,0,none⟩)] (.panicking Wy) W fun e u' w'=>
   e=.returned (.tuple #[])∧u'=.panicking [{ v:=.iface 162 (.agg #[]),recovered:=true }]∧Bq w' xb (.int .u8 0) (.int .i64 0) (.int .u8 0) (.int .u64 0) (.int .i64 0) (.int .i64 0) (.int .u64 0) (.int .i64 0) (.int .u8 0)∧w'.cell? ⟨xb+1,0,none⟩=some (.int .i64 250)∧Ext w w'):=Za fun W V p g hl=>by
  refine(Zn6 g.x hl g.e (by omega)).mono fun e u' w' q=>?_
  obtain⟨q1,q2,q3,q4,q5⟩:=q;exact⟨q1,q2,Zn.read9 q3,q4.c 0 _ rfl,q5.over g.ext fun k z=>by have:=g.o.1;(try simp only at z);omega⟩
 unfold Wy at PAN;have FIN:Hid (∀W v0 v1 v2 v3 v4 v5 v6 v7 v8 p,Gd w W xb (xb+3) (xb+2) bs [v0,v1,v2,v3,v4,v5,v6,v7,v8] p→Bq ((put9 W xb v0 v1 v2 v3 v4 v5 v6 v7 v8).setCell ⟨xb+1,0,none⟩ (.int .i64 0)) xb v0 v1 v2 v3 v4 v5 v6 v7 v8∧((put9 W xb v0 v1 v2 v3 v4 v5 v6 v7 v8).setCell ⟨xb+1,0,none⟩ (.int .i64 0)).cell? ⟨xb+1,0,none⟩=some (.int .i64 0)∧Ext w ((put9 W xb v0 v1 v2 v3 v4 v5 v6 v7 v8).setCell ⟨xb+1,0,none⟩ (.int .i64 0))):=Za fun W v0 v1 v2 v3 v4 v5 v6 v7 v8 p g=>by
  have b1:=g.x.put9 v0 v1 v2 v3 v4 v5 v6 v7 v8;have x1:=Xs W xb v0 v1 v2 v3 v4 v5 v6 v7 v8;have e1:=g.e.chg x1 (fun q=>by have e2:xb+1=xb:=q;omega);have x2:Chg (fun k=>k=xb+1) (put9 W xb v0 v1 v2 v3 v4 v5 v6 v7 v8) ((put9 W xb v0 v1 v2 v3 v4 v5 v6 v7 v8).setCell ⟨xb+1,0,none⟩ (.int .i64 0)):=Chg.setCell (P:=fun j=>j=xb+1) (p:=⟨xb+1,0,none⟩) (Chg.refl _ _) (.inl rfl) _;have o:=g.o.1;exact⟨(b1.chg x2 (fun q=>by have e2:xb=xb+1:=q;omega)).read9,(e1.set (i:=0) (by show 0<1;decide) (.int .i64 0)).c 0 _ rfl,((x1.mono fun k q=>(.inl q:k=xb∨k=xb+1)).trans (x2.mono fun k q=>.inr q)).over g.ext fun k q=>by omega⟩
 clear g0 bo;have HX:=Za hx;have HK:=Za hk;clear hx hk;by_cases l0:bs.length=0
 ·skip
  have XE:Hid (x=en0∧k=250):=Za (by
   have hx:=HX.out;have hk:=HK.out;unfold Tg at hx hk;rw[if_neg (show ¬(bs.length=3∧nth bs 0=2) from fun q=>by omega),if_neg (show ¬(bs.length=27∧nth bs 0=1) from fun q=>by omega)] at hx hk;exact⟨hx.symm,hk.symm⟩)
  go_enter_defers func38,ntmps38
  have CN1:=Za (Rp G0.out.r (by omega));go_wp2_with fail;refine CN1.out.zz ?_;have PC:=PAN.out _ _ _ G0.out rfl
  (try unfold Wy)
  go_wp2_with fail;refine leaves_cons (f:=70) (args:=#[(xb:Value),.pointer (some ⟨xb+1,0,none⟩)]) (by simp) (by simp[go_sem]) ?_;refine PC.mono ?_;rintro e u' w4 ⟨rfl,rfl,r9,ce,xx⟩;obtain⟨rfl,rfl⟩:=XE.out;unfold en0 enV;simp[Leaves,settle,results,results38,go_sem,r9.c0,r9.c1,r9.c2,r9.c3,r9.c4,r9.c5,r9.c6,r9.c7,r9.c8,ce];exact xx
 obtain⟨u0,hu0⟩:∃u,nth bs 0=u:=⟨_,rfl⟩;have HU0:=Za hu0;by_cases k1:u0=1
 ·subst k1;obtain⟨u1,hu1⟩:∃u,nth bs 1=u:=⟨_,rfl⟩;obtain⟨u2,hu2⟩:∃u,nth bs 2=u:=⟨_,rfl⟩;obtain⟨u3,hu3⟩:∃u,Yn bs 3 8=u:=⟨_,rfl⟩;obtain⟨u4,hu4⟩:∃u,K9 (Yn bs 11 4)=u:=⟨_,rfl⟩;obtain⟨u5,hu5⟩:∃u,K9 (Yn bs 15 4)=u:=⟨_,rfl⟩;obtain⟨u6,hu6⟩:∃u,Yn bs 19 8=u:=⟨_,rfl⟩;have HU1:=Za hu1;have HU2:=Za hu2;have HU3:=Za hu3;have HU4:=Za hu4;have HU5:=Za hu5;have HU6:=Za hu6;clear hu0 hu1 hu2 hu3 hu4 hu5 hu6
  go_enter_defers func38,ntmps38
  have CN1:=Za (Nm G0.out.r BO.out (by omega) HU0.out);go_wp2_with fail;refine CN1.out.mono ?_;rintro e w1 ⟨rfl,a1,x1⟩;have g1:=Za (G0.out.read a1 x1);clear a1 x1 CN1;have q:=g1.out.x.c 0 _ rfl;have f:=g1.out.x.f 0;obtain⟨S1_0,hS1_0⟩:∃W,w1.setCell xb (.int .u8 1)=W:=⟨_,rfl⟩;have h1_0:Hid (Gd w S1_0 xb (xb+3) (xb+2) bs [.int .u8 1,(0:Int),.int .u8 0,.int .u64 0,(0:Int),(0:Int),.int .u64 0,(0:Int),.int .u8 0] _):=Za (g1.out.store (i:=0) (by show 0<9;decide) hS1_0);have qk:=h1_0.out.x.c 0 _ rfl;by_cases l2:bs.length<2
  ·skip
   have XE:Hid (x=en0∧k=250):=Za (by
    have hx:=HX.out;have hk:=HK.out;unfold Tg at hx hk;rw[if_neg (show ¬(bs.length=3∧nth bs 0=2) from fun q=>by have:=HU0.out;omega),if_neg (show ¬(bs.length=27∧nth bs 0=1) from fun q=>by have:=HU0.out;omega)] at hx hk;exact⟨hx.symm,hk.symm⟩)
   have CN:=Za (Rp h1_0.out.r (by omega));go_wp2_with fail;refine CN.out.zz ?_;have PC:=PAN.out _ _ _ h1_0.out rfl
   (try unfold Wy)
   go_wp2_with fail;refine leaves_cons (f:=70) (args:=#[(xb:Value),.pointer (some ⟨xb+1,0,none⟩)]) (by simp) (by simp[go_sem]) ?_;refine PC.mono ?_;rintro e u' w4 ⟨rfl,rfl,r9,ce,xx⟩;obtain⟨rfl,rfl⟩:=XE.out;unfold en0 enV;simp[Leaves,settle,results,results38,go_sem,r9.c0,r9.c1,r9.c2,r9.c3,r9.c4,r9.c5,r9.c6,r9.c7,r9.c8,ce];exact xx
  have wi:IntKind.i64.wrap u1=u1:=by have:=BO.out 1 (by omega);rw[HU1.out] at this;rw[IntWalk.i64_in _ (by omega)]
  have CN2:=Za (Nm h1_0.out.r BO.out (by omega) HU1.out);go_wp2_with fail;refine CN2.out.mono ?_;rintro e w2 ⟨rfl,a2,x2⟩;have g2:=Za (h1_0.out.read a2 x2);clear a2 x2 CN2;have q:=g2.out.x.c 1 _ rfl;have f:=g2.out.x.f 1;obtain⟨S2_0,hS2_0⟩:∃W,w2.setCell ⟨xb,1,none⟩ (.int .i64 u1)=W:=⟨_,rfl⟩;have h2_0:Hid (Gd w S2_0 xb (xb+3) (xb+2) bs [.int .u8 1,.int .i64 u1,.int .u8 0,.int .u64 0,(0:Int),(0:Int),.int .u64 0,(0:Int),.int .u8 0] _):=Za (g2.out.store (i:=1) (by show 1<9;decide) hS2_0);by_cases l3:bs.length<3
  ·skip
   have XE:Hid (x=en0∧k=250):=Za (by
    have hx:=HX.out;have hk:=HK.out;unfold Tg at hx hk;rw[if_neg (show ¬(bs.length=3∧nth bs 0=2) from fun q=>by have:=HU0.out;omega),if_neg (show ¬(bs.length=27∧nth bs 0=1) from fun q=>by have:=HU0.out;omega)] at hx hk;exact⟨hx.symm,hk.symm⟩)
   have CN:=Za (Rp h2_0.out.r (by omega));go_wp2_with fail;refine CN.out.zz ?_;have PC:=PAN.out _ _ _ h2_0.out rfl
   (try unfold Wy)
   go_wp2_with fail;refine leaves_cons (f:=70) (args:=#[(xb:Value),.pointer (some ⟨xb+1,0,none⟩)]) (by simp) (by simp[go_sem]) ?_;refine PC.mono ?_;rintro e u' w4 ⟨rfl,rfl,r9,ce,xx⟩;obtain⟨rfl,rfl⟩:=XE.out;unfold en0 enV;simp[Leaves,settle,results,results38,go_sem,r9.c0,r9.c1,r9.c2,r9.c3,r9.c4,r9.c5,r9.c6,r9.c7,r9.c8,ce];exact xx
  have CN3:=Za (Nm h2_0.out.r BO.out (by omega) HU2.out);go_wp2_with fail;refine CN3.out.mono ?_;rintro e w3 ⟨rfl,a3,x3⟩;have g3:=Za (h2_0.out.read a3 x3);clear a3 x3 CN3;by_cases l11:bs.length<11
  ·skip
   have XE:Hid (x=en0∧k=250):=Za (by
    have hx:=HX.out;have hk:=HK.out;unfold Tg at hx hk;rw[if_neg (show ¬(bs.length=3∧nth bs 0=2) from fun q=>by have:=HU0.out;omega),if_neg (show ¬(bs.length=27∧nth bs 0=1) from fun q=>by have:=HU0.out;omega)] at hx hk;exact⟨hx.symm,hk.symm⟩)
   have CN:=Za (Kt g3.out.r (by omega));go_wp2_with fail;refine CN.out.zz ?_;have PC:=PAN.out _ _ _ g3.out rfl
   (try unfold Wy)
   go_wp2_with fail;refine leaves_cons (f:=70) (args:=#[(xb:Value),.pointer (some ⟨xb+1,0,none⟩)]) (by simp) (by simp[go_sem]) ?_;refine PC.mono ?_;rintro e u' w4 ⟨rfl,rfl,r9,ce,xx⟩;obtain⟨rfl,rfl⟩:=XE.out;unfold en0 enV;simp[Leaves,settle,results,results38,go_sem,r9.c0,r9.c1,r9.c2,r9.c3,r9.c4,r9.c5,r9.c6,r9.c7,r9.c8,ce];exact xx
  have CN4:=Za (Zb6 g3.out.r BO.out (by omega) HU3.out);go_wp2_with fail;refine CN4.out.mono ?_;rintro e w4 ⟨rfl,a4,x4⟩;have g4:=Za (g3.out.read a4 x4);clear a4 x4 CN4;have q:=g4.out.x.c 2 _ rfl;have f:=g4.out.x.f 2;obtain⟨S4_0,hS4_0⟩:∃W,w4.setCell ⟨xb,2,none⟩ (.int .u8 u2)=W:=⟨_,rfl⟩;have h4_0:Hid (Gd w S4_0 xb (xb+3) (xb+2) bs [.int .u8 1,.int .i64 u1,.int .u8 u2,.int .u64 0,(0:Int),(0:Int),.int .u64 0,(0:Int),.int .u8 0] _):=Za (g4.out.store (i:=2) (by show 2<9;decide) hS4_0);have q1:=h4_0.out.x.c 3 _ rfl;have f1:=h4_0.out.x.f 3;obtain⟨S4_1,hS4_1⟩:∃W,S4_0.setCell ⟨xb,3,none⟩ (.int .u64 u3)=W:=⟨_,rfl⟩;have h4_1:Hid (Gd w S4_1 xb (xb+3) (xb+2) bs [.int .u8 1,.int .i64 u1,.int .u8 u2,.int .u64 u3,(0:Int),(0:Int),.int .u64 0,(0:Int),.int .u8 0] _):=Za (h4_0.out.store (i:=3) (by show 3<9;decide) hS4_1);by_cases l15:bs.length<15
  ·skip
   have XE:Hid (x=en0∧k=250):=Za (by
    have hx:=HX.out;have hk:=HK.out;unfold Tg at hx hk;rw[if_neg (show ¬(bs.length=3∧nth bs 0=2) from fun q=>by have:=HU0.out;omega),if_neg (show ¬(bs.length=27∧nth bs 0=1) from fun q=>by have:=HU0.out;omega)] at hx hk;exact⟨hx.symm,hk.symm⟩)
   have CN:=Za (Hw h4_1.out.r (by omega));go_wp2_with fail;refine CN.out.zz ?_;have PC:=PAN.out _ _ _ h4_1.out rfl
   (try unfold Wy)
   go_wp2_with fail;refine leaves_cons (f:=70) (args:=#[(xb:Value),.pointer (some ⟨xb+1,0,none⟩)]) (by simp) (by simp[go_sem]) ?_;refine PC.mono ?_;rintro e u' w4 ⟨rfl,rfl,r9,ce,xx⟩;obtain⟨rfl,rfl⟩:=XE.out;unfold en0 enV;simp[Leaves,settle,results,results38,go_sem,r9.c0,r9.c1,r9.c2,r9.c3,r9.c4,r9.c5,r9.c6,r9.c7,r9.c8,ce];exact xx
  have CN5:=Za (Zgo h4_1.out.r BO.out (by omega) HU4.out);go_wp2_with fail;refine CN5.out.mono ?_;rintro e w5 ⟨rfl,a5,x5⟩;have g5:=Za (h4_1.out.read a5 x5);clear a5 x5 CN5;by_cases l19:bs.length<19
  ·skip
   have XE:Hid (x=en0∧k=250):=Za (by
    have hx:=HX.out;have hk:=HK.out;unfold Tg at hx hk;rw[if_neg (show ¬(bs.length=3∧nth bs 0=2) from fun q=>by have:=HU0.out;omega),if_neg (show ¬(bs.length=27∧nth bs 0=1) from fun q=>by have:=HU0.out;omega)] at hx hk;exact⟨hx.symm,hk.symm⟩)
   have CN:=Za (Hw g5.out.r (by omega));go_wp2_with fail;refine CN.out.zz ?_;have PC:=PAN.out _ _ _ g5.out rfl
   (try unfold Wy)
   go_wp2_with fail;refine leaves_cons (f:=70) (args:=#[(xb:Value),.pointer (some ⟨xb+1,0,none⟩)]) (by simp) (by simp[go_sem]) ?_;refine PC.mono ?_;rintro e u' w4 ⟨rfl,rfl,r9,ce,xx⟩;obtain⟨rfl,rfl⟩:=XE.out;unfold en0 enV;simp[Leaves,settle,results,results38,go_sem,r9.c0,r9.c1,r9.c2,r9.c3,r9.c4,r9.c5,r9.c6,r9.c7,r9.c8,ce];exact xx
  have CN6:=Za (Zgo g5.out.r BO.out (by omega) HU5.out);go_wp2_with fail;refine CN6.out.mono ?_;rintro e w6 ⟨rfl,a6,x6⟩;have g6:=Za (g5.out.read a6 x6);clear a6 x6 CN6;have q:=g6.out.x.c 4 _ rfl;have f:=g6.out.x.f 4;obtain⟨S6_0,hS6_0⟩:∃W,w6.setCell ⟨xb,4,none⟩ (.int .i64 u4)=W:=⟨_,rfl⟩;have h6_0:Hid (Gd w S6_0 xb (xb+3) (xb+2) bs [.int .u8 1,.int .i64 u1,.int .u8 u2,.int .u64 u3,.int .i64 u4,(0:Int),.int .u64 0,(0:Int),.int .u8 0] _):=Za (g6.out.store (i:=4) (by show 4<9;decide) hS6_0);have q1:=h6_0.out.x.c 5 _ rfl;have f1:=h6_0.out.x.f 5;obtain⟨S6_1,hS6_1⟩:∃W,S6_0.setCell ⟨xb,5,none⟩ (.int .i64 u5)=W:=⟨_,rfl⟩;have h6_1:Hid (Gd w S6_1 xb (xb+3) (xb+2) bs [.int .u8 1,.int .i64 u1,.int .u8 u2,.int .u64 u3,.int .i64 u4,.int .i64 u5,.int .u64 0,(0:Int),.int .u8 0] _):=Za (h6_0.out.store (i:=5) (by show 5<9;decide) hS6_1);by_cases l27:bs.length<27
  ·skip
   have XE:Hid (x=en0∧k=250):=Za (by
    have hx:=HX.out;have hk:=HK.out;unfold Tg at hx hk;rw[if_neg (show ¬(bs.length=3∧nth bs 0=2) from fun q=>by have:=HU0.out;omega),if_neg (show ¬(bs.length=27∧nth bs 0=1) from fun q=>by have:=HU0.out;omega)] at hx hk;exact⟨hx.symm,hk.symm⟩)
   have CN:=Za (Kt h6_1.out.r (by omega));go_wp2_with fail;refine CN.out.zz ?_;have PC:=PAN.out _ _ _ h6_1.out rfl
   (try unfold Wy)
   go_wp2_with fail;refine leaves_cons (f:=70) (args:=#[(xb:Value),.pointer (some ⟨xb+1,0,none⟩)]) (by simp) (by simp[go_sem]) ?_;refine PC.mono ?_;rintro e u' w4 ⟨rfl,rfl,r9,ce,xx⟩;obtain⟨rfl,rfl⟩:=XE.out;unfold en0 enV;simp[Leaves,settle,results,results38,go_sem,r9.c0,r9.c1,r9.c2,r9.c3,r9.c4,r9.c5,r9.c6,r9.c7,r9.c8,ce];exact xx
  have CN7:=Za (Zb6 h6_1.out.r BO.out (by omega) HU6.out);go_wp2_with fail;refine CN7.out.mono ?_;rintro e w7 ⟨rfl,a7,x7⟩;have g7:=Za (h6_1.out.read a7 x7);clear a7 x7 CN7;have q:=g7.out.x.c 6 _ rfl;have f:=g7.out.x.f 6;obtain⟨S7_0,hS7_0⟩:∃W,w7.setCell ⟨xb,6,none⟩ (.int .u64 u6)=W:=⟨_,rfl⟩;have h7_0:Hid (Gd w S7_0 xb (xb+3) (xb+2) bs [.int .u8 1,.int .i64 u1,.int .u8 u2,.int .u64 u3,.int .i64 u4,.int .i64 u5,.int .u64 u6,(0:Int),.int .u8 0] _):=Za (g7.out.store (i:=6) (by show 6<9;decide) hS7_0);obtain⟨ra,rc,rbx,_,_,_⟩:=h7_0.out.r.ex;have rl:=rbx.c 0 _ rfl;by_cases le:bs.length=27
  ·skip
   have XE:Hid (x=⟨1,u1,⟨u2,u3,u4,u5,u6⟩,0,0⟩∧k=0):=Za (by
    have hx:=HX.out;have hk:=HK.out;unfold Tg at hx hk;rw[if_neg (show ¬(bs.length=3∧nth bs 0=2) from fun q=>by have:=HU0.out;omega),if_pos (show bs.length=27∧nth bs 0=1 from ⟨le,HU0.out⟩)] at hx hk;refine⟨?_,hk.symm⟩;rw[←hx];unfold Zjn Zgn;rw[HU1.out,HU2.out,HU3.out,HU4.out,HU5.out,HU6.out])
   rw[show bs.length-27=0 by omega] at rl;have fin:=FIN.out _ (.int .u8 1) (.int .i64 u1) (.int .u8 u2) (.int .u64 u3) (.int .i64 u4) (.int .i64 u5) (.int .u64 u6) (.int .i64 0) (.int .u8 0) _ h7_0.out;obtain⟨c0,c1,c2,c3,c4,c5,c6,c7,c8⟩:=h7_0.out.x.k9;obtain⟨d0,d1,d2,d3,d4,d5,d6,d7,d8⟩:=h7_0.out.x.g9;have ce:=h7_0.out.e.c 0 _ rfl;have cf:=h7_0.out.e.f 0;clear rbx qk;go_wp2_with fail;refine leaves_cons (f:=70) (args:=#[(xb:Value),.pointer (some ⟨xb+1,0,none⟩)]) (by simp) (by simp[go_sem]) ?_;refine(Ou _ _).mono ?_;rintro e u' w4 ⟨rfl,rfl,rfl⟩;obtain⟨r9,cz,xx⟩:=fin;obtain⟨rfl,rfl⟩:=XE.out;unfold enV;simp[Leaves,settle,results,results38,go_sem,r9.c0,r9.c1,r9.c2,r9.c3,r9.c4,r9.c5,r9.c6,r9.c7,r9.c8,cz];exact xx
  ·skip
   have XE:Hid (x=en0∧k=250):=Za (by
    have hx:=HX.out;have hk:=HK.out;unfold Tg at hx hk;rw[if_neg (show ¬(bs.length=3∧nth bs 0=2) from fun q=>by have:=HU0.out;omega),if_neg (show ¬(bs.length=27∧nth bs 0=1) from fun q=>by have:=HU0.out;omega)] at hx hk;exact⟨hx.symm,hk.symm⟩)
   obtain⟨D,hD⟩:=Zb (bs.length-27);rw[hD] at rl;have dp:decide ((0:Int)<(D:Int))=true:=Zyy (by omega);have dp2:decide (0<D)=true:=Zyy (by omega);clear rbx;go_wp2_with fail;have PC:=PAN.out _ _ _ h7_0.out rfl
   (try unfold Wy)
   go_wp2_with fail;refine leaves_cons (f:=70) (args:=#[(xb:Value),.pointer (some ⟨xb+1,0,none⟩)]) (by simp) (by simp[go_sem]) ?_;refine PC.mono ?_;rintro e u' w4 ⟨rfl,rfl,r9,ce,xx⟩;obtain⟨rfl,rfl⟩:=XE.out;unfold en0 enV;simp[Leaves,settle,results,results38,go_sem,r9.c0,r9.c1,r9.c2,r9.c3,r9.c4,r9.c5,r9.c6,r9.c7,r9.c8,ce];exact xx
 by_cases k2:u0=2
 ·subst k2;obtain⟨u1,hu1⟩:∃u,nth bs 1=u:=⟨_,rfl⟩;obtain⟨u2,hu2⟩:∃u,nth bs 2=u:=⟨_,rfl⟩;have HU1:=Za hu1;have HU2:=Za hu2;clear hu0 hu1 hu2 k1
  go_enter_defers func38,ntmps38
  have CN1:=Za (Nm G0.out.r BO.out (by omega) HU0.out);go_wp2_with fail;refine CN1.out.mono ?_;rintro e w1 ⟨rfl,a1,x1⟩;have g1:=Za (G0.out.read a1 x1);clear a1 x1 CN1;have q:=g1.out.x.c 0 _ rfl;have f:=g1.out.x.f 0;obtain⟨S1_0,hS1_0⟩:∃W,w1.setCell xb (.int .u8 2)=W:=⟨_,rfl⟩;have h1_0:Hid (Gd w S1_0 xb (xb+3) (xb+2) bs [.int .u8 2,(0:Int),.int .u8 0,.int .u64 0,(0:Int),(0:Int),.int .u64 0,(0:Int),.int .u8 0] _):=Za (g1.out.store (i:=0) (by show 0<9;decide) hS1_0);have qk:=h1_0.out.x.c 0 _ rfl;by_cases l2:bs.length<2
  ·skip
   have XE:Hid (x=en0∧k=250):=Za (by
    have hx:=HX.out;have hk:=HK.out;unfold Tg at hx hk;rw[if_neg (show ¬(bs.length=3∧nth bs 0=2) from fun q=>by have:=HU0.out;omega),if_neg (show ¬(bs.length=27∧nth bs 0=1) from fun q=>by have:=HU0.out;omega)] at hx hk;exact⟨hx.symm,hk.symm⟩)
   have CN:=Za (Rp h1_0.out.r (by omega));go_wp2_with fail;refine CN.out.zz ?_;have PC:=PAN.out _ _ _ h1_0.out rfl
   (try unfold Wy)
   go_wp2_with fail;refine leaves_cons (f:=70) (args:=#[(xb:Value),.pointer (some ⟨xb+1,0,none⟩)]) (by simp) (by simp[go_sem]) ?_;refine PC.mono ?_;rintro e u' w4 ⟨rfl,rfl,r9,ce,xx⟩;obtain⟨rfl,rfl⟩:=XE.out;unfold en0 enV;simp[Leaves,settle,results,results38,go_sem,r9.c0,r9.c1,r9.c2,r9.c3,r9.c4,r9.c5,r9.c6,r9.c7,r9.c8,ce];exact xx
  have wi:IntKind.i64.wrap u1=u1:=by have:=BO.out 1 (by omega);rw[HU1.out] at this;rw[IntWalk.i64_in _ (by omega)]
  have CN2:=Za (Nm h1_0.out.r BO.out (by omega) HU1.out);go_wp2_with fail;refine CN2.out.mono ?_;rintro e w2 ⟨rfl,a2,x2⟩;have g2:=Za (h1_0.out.read a2 x2);clear a2 x2 CN2;by_cases l3:bs.length<3
  ·skip
   have XE:Hid (x=en0∧k=250):=Za (by
    have hx:=HX.out;have hk:=HK.out;unfold Tg at hx hk;rw[if_neg (show ¬(bs.length=3∧nth bs 0=2) from fun q=>by have:=HU0.out;omega),if_neg (show ¬(bs.length=27∧nth bs 0=1) from fun q=>by have:=HU0.out;omega)] at hx hk;exact⟨hx.symm,hk.symm⟩)
   have CN:=Za (Rp g2.out.r (by omega));go_wp2_with fail;refine CN.out.zz ?_;have PC:=PAN.out _ _ _ g2.out rfl
   (try unfold Wy)
   go_wp2_with fail;refine leaves_cons (f:=70) (args:=#[(xb:Value),.pointer (some ⟨xb+1,0,none⟩)]) (by simp) (by simp[go_sem]) ?_;refine PC.mono ?_;rintro e u' w4 ⟨rfl,rfl,r9,ce,xx⟩;obtain⟨rfl,rfl⟩:=XE.out;unfold en0 enV;simp[Leaves,settle,results,results38,go_sem,r9.c0,r9.c1,r9.c2,r9.c3,r9.c4,r9.c5,r9.c6,r9.c7,r9.c8,ce];exact xx
  have CN3:=Za (Nm g2.out.r BO.out (by omega) HU2.out);go_wp2_with fail;refine CN3.out.mono ?_;rintro e w3 ⟨rfl,a3,x3⟩;have g3:=Za (g2.out.read a3 x3);clear a3 x3 CN3;have q:=g3.out.x.c 7 _ rfl;have f:=g3.out.x.f 7;obtain⟨S3_0,hS3_0⟩:∃W,w3.setCell ⟨xb,7,none⟩ (.int .i64 u1)=W:=⟨_,rfl⟩;have h3_0:Hid (Gd w S3_0 xb (xb+3) (xb+2) bs [.int .u8 2,(0:Int),.int .u8 0,.int .u64 0,(0:Int),(0:Int),.int .u64 0,.int .i64 u1,.int .u8 0] _):=Za (g3.out.store (i:=7) (by show 7<9;decide) hS3_0);have q1:=h3_0.out.x.c 8 _ rfl;have f1:=h3_0.out.x.f 8;obtain⟨S3_1,hS3_1⟩:∃W,S3_0.setCell ⟨xb,8,none⟩ (.int .u8 u2)=W:=⟨_,rfl⟩;have h3_1:Hid (Gd w S3_1 xb (xb+3) (xb+2) bs [.int .u8 2,(0:Int),.int .u8 0,.int .u64 0,(0:Int),(0:Int),.int .u64 0,.int .i64 u1,.int .u8 u2] _):=Za (h3_0.out.store (i:=8) (by show 8<9;decide) hS3_1);obtain⟨ra,rc,rbx,_,_,_⟩:=h3_1.out.r.ex;have rl:=rbx.c 0 _ rfl;by_cases le:bs.length=3
  ·skip
   have XE:Hid (x=⟨2,0,⟨0,0,0,0,0⟩,u1,u2⟩∧k=0):=Za (by
    have hx:=HX.out;have hk:=HK.out;unfold Tg at hx hk;rw[if_pos (show bs.length=3∧nth bs 0=2 from ⟨le,HU0.out⟩)] at hx hk;refine⟨?_,hk.symm⟩;rw[←hx];unfold Zn4;rw[HU1.out,HU2.out])
   rw[show bs.length-3=0 by omega] at rl;have fin:=FIN.out _ (.int .u8 2) (.int .i64 0) (.int .u8 0) (.int .u64 0) (.int .i64 0) (.int .i64 0) (.int .u64 0) (.int .i64 u1) (.int .u8 u2) _ h3_1.out;obtain⟨c0,c1,c2,c3,c4,c5,c6,c7,c8⟩:=h3_1.out.x.k9;obtain⟨d0,d1,d2,d3,d4,d5,d6,d7,d8⟩:=h3_1.out.x.g9;have ce:=h3_1.out.e.c 0 _ rfl;have cf:=h3_1.out.e.f 0;clear rbx qk;go_wp2_with fail;refine leaves_cons (f:=70) (args:=#[(xb:Value),.pointer (some ⟨xb+1,0,none⟩)]) (by simp) (by simp[go_sem]) ?_;refine(Ou _ _).mono ?_;rintro e u' w4 ⟨rfl,rfl,rfl⟩;obtain⟨r9,cz,xx⟩:=fin;obtain⟨rfl,rfl⟩:=XE.out;unfold enV;simp[Leaves,settle,results,results38,go_sem,r9.c0,r9.c1,r9.c2,r9.c3,r9.c4,r9.c5,r9.c6,r9.c7,r9.c8,cz];exact xx
  ·skip
   have XE:Hid (x=en0∧k=250):=Za (by
    have hx:=HX.out;have hk:=HK.out;unfold Tg at hx hk;rw[if_neg (show ¬(bs.length=3∧nth bs 0=2) from fun q=>by have:=HU0.out;omega),if_neg (show ¬(bs.length=27∧nth bs 0=1) from fun q=>by have:=HU0.out;omega)] at hx hk;exact⟨hx.symm,hk.symm⟩)
   obtain⟨D,hD⟩:=Zb (bs.length-3);rw[hD] at rl;have dp:decide ((0:Int)<(D:Int))=true:=Zyy (by omega);have dp2:decide (0<D)=true:=Zyy (by omega);clear rbx;go_wp2_with fail;have PC:=PAN.out _ _ _ h3_1.out rfl
   (try unfold Wy)
   go_wp2_with fail;refine leaves_cons (f:=70) (args:=#[(xb:Value),.pointer (some ⟨xb+1,0,none⟩)]) (by simp) (by simp[go_sem]) ?_;refine PC.mono ?_;rintro e u' w4 ⟨rfl,rfl,r9,ce,xx⟩;obtain⟨rfl,rfl⟩:=XE.out;unfold en0 enV;simp[Leaves,settle,results,results38,go_sem,r9.c0,r9.c1,r9.c2,r9.c3,r9.c4,r9.c5,r9.c6,r9.c7,r9.c8,ce];exact xx
 have t1:(u0==1)=false:=by simpa using k1
 have t2:(u0==2)=false:=by simpa using k2
 have k3:¬nth bs 0=1:=by rw[HU0.out];exact k1
 have k4:¬nth bs 0=2:=by rw[HU0.out];exact k2
 have K3:=Za k3;have K4:=Za k4;clear hu0 k1 k2 k3 k4
 go_enter_defers func38,ntmps38
 have CN1:=Za (Nm G0.out.r BO.out (by omega) HU0.out);go_wp2_with fail;refine CN1.out.mono ?_;rintro e w1 ⟨rfl,a1,x1⟩;have g1:=Za (G0.out.read a1 x1);clear a1 x1 CN1;have q:=g1.out.x.c 0 _ rfl;have f:=g1.out.x.f 0;obtain⟨S1_0,hS1_0⟩:∃W,w1.setCell xb (.int .u8 u0)=W:=⟨_,rfl⟩;have h1_0:Hid (Gd w S1_0 xb (xb+3) (xb+2) bs [.int .u8 u0,(0:Int),.int .u8 0,.int .u64 0,(0:Int),(0:Int),.int .u64 0,(0:Int),.int .u8 0] _):=Za (g1.out.store (i:=0) (by show 0<9;decide) hS1_0);have qk:=h1_0.out.x.c 0 _ rfl;have XE:Hid (x=en0∧k=250):=Za (by
  have hx:=HX.out;have hk:=HK.out;unfold Tg at hx hk;rw[if_neg (show ¬(bs.length=3∧nth bs 0=2) from fun q=>by have:=K3.out;have:=K4.out;omega),if_neg (show ¬(bs.length=27∧nth bs 0=1) from fun q=>by have:=K3.out;have:=K4.out;omega)] at hx hk;exact⟨hx.symm,hk.symm⟩)
 go_wp2_with fail;have PC:=PAN.out _ _ _ h1_0.out rfl
 (try unfold Wy)
 go_wp2_with fail;refine leaves_cons (f:=70) (args:=#[(xb:Value),.pointer (some ⟨xb+1,0,none⟩)]) (by simp) (by simp[go_sem]) ?_;refine PC.mono ?_;rintro e u' w4 ⟨rfl,rfl,r9,ce,xx⟩;obtain⟨rfl,rfl⟩:=XE.out;unfold en0 enV;simp[Leaves,settle,results,results38,go_sem,r9.c0,r9.c1,r9.c2,r9.c3,r9.c4,r9.c5,r9.c6,r9.c7,r9.c8,ce];exact xx
end
section
structure MB where
 M:FB
 zb:Nat
 top:Nat
structure Ts(w:World)(Q:MB)(c:Zh)(n:Nat)(X:Nat→HP)(ws:List Int)(L:List (Int × Sn))(v:Value):Prop where
 fm:Hs w Q.M c n X ws
 box:Zn w Q.zb [Q.M.fb,v]
 own:w.ownsRow Q.top 44 9 v L.length (Zjl L)
 o:Q.M.hi≤Q.zb∧Q.zb<Q.top∧Q.top≤w.heap.size
def MB.mcP(Q:MB)(v:Value)(k:Nat):Prop:=(Q.M.lo≤k∧k<Q.top)∨some k=v.ownBlock
variable{w w' W W':World}{Q:MB}{c:Zh}{t n a d:Nat}{X:Nat→HP}{ws:List Int}{L:List (Int × Sn)}{v:Value}{o:OpI}
theorem Ts.chg{P:Nat→Prop}(h:Ts w Q c n X ws L v)(hx:Chg P w w')(hP:∀k,k<Q.top→¬P k)(hv:∀g,v.ownBlock=some g→¬P g):Ts w' Q c n X ws L v:=
 ⟨h.fm.chg hx fun k hk=>hP k (by have:=h.o;omega),h.box.chg hx (hP _ h.o.2.1),Zeu h.own hx hv,h.o.1,h.o.2.1,Zy6 h.o.2.2 hx.size⟩
theorem Ts.ext(h:Ts w Q c n X ws L v)(hx:Ext w w'):Ts w' Q c n X ws L v:=h.chg (P:=fun _=>False) (Zy3 hx) (fun _ _ a=>a) (fun _ _ a=>a)
theorem Ts.fmTo{X':Nat→HP}{ws':List Int}(h:Ts w Q c n X ws L v)(hf:Hs w' Q.M c n X' ws')(hx:Chg Q.M.fmP w w'):Ts w' Q c n X' ws' L v∧Chg (Q.mcP v) w w':=by
 have o:=h.o;have ow:=h.own.lt;exact⟨⟨hf,h.box.chg hx (fun q=>by unfold FB.fmP at q;omega),Zeu h.own hx (fun g e q=>by have:=(ow g e).1;unfold FB.fmP at q;omega),o.1,o.2.1,Zy6 o.2.2 hx.size⟩,hx.mono fun k q=>.inl (by unfold FB.fmP at q;omega)⟩
theorem Mu(h:Ts w Q c n X ws L v):Calls prog 36 #[Q.zb] w fun e w'=>e=.returned (.bool false)∧w=w':=by
 have c0:=h.box.c 0 _ rfl;clear h;go_enter func36,ntmps36;go_wp2;go_ret;exact⟨rfl,rfl⟩
theorem Zn9(h:Ts w Q c n X ws L v):Calls prog 10 #[Q.zb] w fun e w'=>e=.returned (Q.M.fb:Value)∧w=w':=by
 have c0:=h.box.c 0 _ rfl;have NO:=Za (Mu h);clear h;go_enter func10,ntmps10;go_wp2_with fail;refine(NO.out).zz ?_;go_wp2;go_ret;exact⟨rfl,rfl⟩
theorem Zu7{base:Nat}(h:w.ownsRow base 44 9 v L.length (Zjl L)):∃a cap,v=.slice a L.length cap∧Zjm w a L:=by
 have h':=h;obtain⟨_,⟨rfl,h0⟩|⟨g,cap,cur,rfl,hb,hh,hc,hm,hs,ht⟩⟩:=h
 ·exact⟨none,0,by rw[h0],fun i hi=>by omega⟩
 ·refine⟨some ⟨g,0,none⟩,cap,rfl,fun i hi=>⟨g,0,rfl,fun j u e=>?_⟩⟩;have hj:j<9:=by have:=(List.getElem?_eq_some_iff.1 e).1;rwa [Bv] at this
  rw[Nat.zero_add,h'.cellAt _ (by omega),Zn0 L i j hi hj];exact e
theorem Zjo{i:Int}(h:Ts w Q c n X ws L v)(hl:L.length≤1000):Calls prog 14 #[Q.zb,.int .i64 i] w fun e w'=>∃u,e=.returned u∧w'.ownsRow w.heap.size 42 8 u (Sv L i L.length).length (Ac (Sv L i L.length))∧Ext w w':=by
 obtain⟨a,cap,rfl,ha⟩:=Zu7 h.own;have c1:=h.box.c 1 _ rfl;have NO:=Za (Mu h);have OF:=Za (Zsn (cap:=cap) (t:=i) L ha hl);clear h ha hl;go_enter func14,ntmps14;go_wp2_with fail;refine(NO.out).zz ?_;go_wp2_with fail;refine OF.out.mono ?_;rintro e w1 ⟨u,rfl,ho,x1⟩;have FIN:=Za (And.intro ho x1);clear ho x1 OF;go_wp2;go_ret;exact⟨u,rfl,FIN.out⟩
def Mv(e:Int):Int × Sn:=(-1,Z9 e)
theorem Et{k:Int}:Calls prog 37 #[.int .i64 k] w fun e w'=>e=.returned (Ul (Mv k))∧Ext w w':=by
 unfold Ul Mv Z9;simp only;go_enter func37,ntmps37;go_wp2_with fail;exact bodyPost_ret (v:=.agg #[.int .i64 (-1),.int .i64 k,.int .u64 0,.int .u64 0,(0:Int),(0:Int),(0:Int),(0:Int),false]) (by simp[results,results37,go_sem]) rfl ⟨rfl,(Zy2 w).alloc _⟩
theorem Zey{ca ta:Option Addr}{cc tc:Nat}(hc:Y7 w ca ta cc tc c)(hk:Yc c≠0):Calls prog 5 #[.agg #[.slice ca c.cl.length cc,c.page,.slice ta c.ts.length tc,c.wk,c.gr,c.gens]] w fun e w'=>e=.returned (.tuple #[.pointer none,(2:Int)])∧Ext w w':=by
 obtain⟨W0,hW0,b0,x0⟩:=newBox w 25 [.slice ca c.cl.length cc,c.page,.slice ta c.ts.length tc,c.wk,c.gr,c.gens];have FN:=Za (Zev (hc.ext x0) hk);have X0:=Za x0;obtain⟨k0,k1,k2,k3,k4,k5⟩:=b0.k6;clear b0 hc hk x0;go_enter func5,ntmps5;go_wp2_with fail;refine FN.out.ze fun w1 x1=>?_;go_wp2;go_ret2;exact⟨rfl,X0.out.trans x1⟩
def Zss(w:World)(c:Zh)(e:Ending)(w':World):Prop:=
 ∃Q:MB,e=.returned (.tuple #[Q.zb,(0:Int)])∧Ts w' Q c c.gr.toNat (fun i=>hOf c i (List.replicate (Zo c) 0)) (List.replicate (Zo c) 0) [] (.slice none 0 0)∧w.heap.size≤Q.M.lo∧Ext w w'
theorem Bw{ca co ta to_ cc tc:Nat}(hc:Y7 w (some ⟨ca,co,none⟩) (some ⟨ta,to_,none⟩) cc tc c)(hk:Yc c=0)(hw:Wid w)(hT:Tab w)(hg:0<w.heap.size∧2<w.heap.size):Calls prog 5 #[.agg #[.slice (some ⟨ca,co,none⟩) c.cl.length cc,c.page,.slice (some ⟨ta,to_,none⟩) c.ts.length tc,c.wk,c.gr,c.gens]] w (Zss w c):=by
 obtain⟨W0,hW0,b0,x0⟩:=newBox w 25 [.slice (some ⟨ca,co,none⟩) c.cl.length cc,c.page,.slice (some ⟨ta,to_,none⟩) c.ts.length tc,c.wk,c.gr,c.gens];have sz:=x0.size;have FN:=Za (Zsm (hc.ext x0) hk (hw.chg (P:=fun _=>False) (Zy3 x0) id) (hT.chgT (P:=fun _=>False) (Zy3 x0) id) ⟨by omega,by omega⟩);have X0:=Za x0;obtain⟨k0,k1,k2,k3,k4,k5⟩:=b0.k6;clear b0 hc hk x0 hw hT hg;unfold Zu6 at FN;go_enter func5,ntmps5;go_wp2_with fail;refine FN.out.mono ?_;rintro e w1 ⟨M,rfl,F1,l1,x1⟩;obtain⟨W2,hW2,b2,x2⟩:=newBox w1 93 [M.fb,.slice none 0 0];have FIN:Hid (Zss w c (.returned (.tuple #[w1.heap.size,(0:Int)])) W2):=Za ⟨⟨M,w1.heap.size,W2.heap.size⟩,rfl,⟨F1.ext x2,b2,World.ownsRow_nil _ _ _ _,F1.top,b2.lt,Zy1 _⟩,by (try simp only);omega,(X0.out.trans x1).trans x2⟩;clear F1 x1 x2 b2 l1;go_wp2;go_ret2;exact FIN.out
end
section
variable{w w' W W':World}{Q:MB}{c:Zh}{t n a d:Nat}{X:Nat→HP}{ws:List Int}{L:List (Int × Sn)}{v:Value}{o:OpI}
structure DsF(w W:World)(Q:MB)(v:Value)(z:Nat)(V:List Value):Prop where
 b:Zn W z V
 r:Zn W (z+1) [(0:Int),(0:Int),.int .u64 0,.int .u64 0,(0:Int),(0:Int),(0:Int),(0:Int),false]
 o:w.heap.size=z∧Q.top≤z∧∀g,v.ownBlock=some g→g<z
theorem DsF.new(h:Ts w Q c n X ws L v)(V:List Value)(T U:TypeId){z:Nat}(hz:w.heap.size=z):∃W0,(w.alloc (.cells V.toArray T)).alloc (.cells #[(0:Int),(0:Int),.int .u64 0,.int .u64 0,(0:Int),(0:Int),(0:Int),(0:Int),false] U)=W0∧DsF w W0 Q v z V∧Ext w W0:=by
 have e:∀(W:World) (o:Obj),Ext W (W.alloc o):=fun W o=>(Zy2 W).alloc _
 exact⟨_,rfl,⟨(Zn.new w V T hz).ext (e _ _),Zn.new _ [(0:Int),(0:Int),.int .u64 0,.int .u64 0,(0:Int),(0:Int),(0:Int),(0:Int),false] U (by simp[hz]),hz,by have:=h.o;omega,fun g q=>by have:=(h.own.lt g q).2;omega⟩,(e _ _).trans (e _ _)⟩
variable{z:Nat}{V:List Value}
theorem DsF.go(h:DsF w W Q v z V)(hx:Chg (Q.mcP v) W W'):DsF w W' Q v z V:=by
 obtain⟨o1,o2,o3⟩:=h.o;have q:∀k,z≤k→¬Q.mcP v k:=fun k hk p=>by
  rcases p with p|p
  ·omega
  ·have:=o3 k p.symm;omega
 exact⟨h.b.chg hx (q _ (Zy1 _)),h.r.chg hx (q _ (by omega)),h.o⟩
theorem DsF.ext(h:DsF w W Q v z V)(hx:Ext W W'):DsF w W' Q v z V:=⟨h.b.ext hx,h.r.ext hx,h.o⟩
theorem DsF.off(h:DsF w W Q v z V){Y:Nat}(hx:Chg (fun k=>k=Y) W W')(hY:z+1<Y):DsF w W' Q v z V:=⟨h.b.chg hx (fun e=>by have e1:z=Y:=e;omega),h.r.chg hx (fun e=>by have e1:z+1=Y:=e;omega),h.o⟩
theorem Ts.box9(h:Ts W Q c n X ws L v){Y:Nat}(hx:Chg (fun k=>k=Y) W W')(hY:Q.top≤Y)(hv:∀g,v.ownBlock=some g→g≠Y):Ts W' Q c n X ws L v:=
 h.chg hx (fun k hk e=>by have e1:k=Y:=e;omega) (fun g e q=>hv g e q)
def Tc(e:EnI):List Value:=[.int .u8 e.kind,.int .i64 e.tenant,.int .u8 e.op.code,.int .u64 e.op.h,.int .i64 e.op.a,.int .i64 e.op.b,.int .u64 e.op.v,.int .i64 e.worker,.int .u8 e.micro]
def DoQ(w:World)(Q:MB)(c:Zh)(n t:Nat)(X:Nat→HP)(L:List (Int × Sn))(v:Value)(o:OpI)(W:World)(s:Sn):Prop:=
 ∃(f:Int) (r:HP × Sn),hDo c t n c.gens fuel f (X t) o=r∧r.2=s∧Ts W Q c n (Ol X t r.1) r.1.y.ws L v∧Chg (Q.mcP v) w W
variable{s:Sn}{Y:Nat}
theorem DoQ.ext(h:DoQ w Q c n t X L v o W s)(hx:Ext W W'):DoQ w Q c n t X L v o W' s:=by
 obtain⟨f,r,h1,h2,h3,h4⟩:=h;exact⟨f,r,h1,h2,h3.ext hx,h4.trans (Zy3 hx)⟩
theorem DoQ.box(h:DoQ w Q c n t X L v o W s)(hx:Chg (fun k=>k=Y) W W')(h1:Q.top≤Y)(h2:∀g,v.ownBlock=some g→g≠Y)(h3:w.heap.size≤Y):DoQ w Q c n t X L v o W' s:=by
 obtain⟨f,r,q1,q2,q3,q4⟩:=h;exact⟨f,r,q1,q2,q3.box9 hx h1 h2,q4.new (hx.mono fun k e=>by have e1:k=Y:=e;omega)⟩
theorem Zb8{ew em:Int}(h:Ts w Q c n X ws L v)(ht:t<c.ts.length)(ho:Zvu o)(hk:Wo c n a d X ws)(ha:a+1≤1048576)(hd:d+4≤1048576) :
  Calls prog 39 #[Q.zb,enV ⟨1,(t:Int),o,ew,em⟩] w fun e w'=>∃s,e=.returned (.tuple #[Ul ((t:Int),s),true])∧DoQ w Q c n t X L v o w' s:=by
 obtain⟨z,hz⟩:=Zb (w.heap.size);obtain⟨W0,hW0,d0,x0⟩:=DsF.new h (Tc ⟨1,(t:Int),o,ew,em⟩) 38 44 hz;have H0:=h.ext x0;obtain⟨Y,hY⟩:=Zb (W0.heap.size);have YZ:z+1<Y:=by have:=d0.r.lt;omega
 have OA:∀W,Ext W0 W→Calls prog 75 #[Q.M.fb,(t:Int),opV o] W fun e w'=>∃s0 s1 s2 s3 s4 s5 s6 s7,e=.returned (.tuple #[.agg #[.int .i64 s0,.int .u64 s1,.int .u64 s2,.int .i64 s3,.int .i64 s4,.int .i64 s5,.int .i64 s6,.bool s7],(0:Int)])∧Hid (DoQ w Q c n t X L v o w' ⟨s0,s1,s2,s3,s4,s5,s6,s7⟩)∧Chg Q.M.fmP W w':=fun W q=>
  (Zuy (H0.ext q).fm ht ho (hk.ok t ht) ha hd).mono fun e w' p=>by
   obtain⟨f,r,p1,p2,p3,p4⟩:=p;obtain⟨m1,m2⟩:=(H0.ext q).fmTo p3 p4;obtain⟨xr,s0,s1,s2,s3,s4,s5,s6,s7⟩:=r;exact⟨s0,s1,s2,s3,s4,s5,s6,s7,p2,Za ⟨f,_,p1,rfl,m1,(Zy3 (x0.trans q)).trans m2⟩,p4⟩
 have zz:∀W W':World,Chg Q.M.fmP W W'→∀k i u,z≤k→W.cell? ⟨k,i,none⟩=some u→W'.cell? ⟨k,i,none⟩=some u:=fun W W' x k i u hk e=>x.cell (fun p=>by have:=h.o;have:=d0.o.2.1;unfold FB.fmP at p;(try simp only at p);omega) e
 have zb:∀W W':World,Chg Q.M.fmP W W'→∀i u,W.cell? ⟨Q.zb,i,none⟩=some u→W'.cell? ⟨Q.zb,i,none⟩=some u:=fun W W' x i u e=>x.cell (fun p=>by have:=h.o;unfold FB.fmP at p;(try simp only at p);omega) e
 obtain⟨oc,oh,oa,ob,ov⟩:=o;have D0:=Za d0;unfold Tc at hW0
 (try simp only at hW0)
 have b0:=d0.b;unfold Tc at b0
 (try simp only at b0)
 obtain⟨k0,k1,k2,k3,k4,k5,k6,k7,k8⟩:=b0.k9;have kz:=H0.box.c 0 _ rfl;have q0:Ext W0 W0.drew:=(Zy2 _).drew;have qB:Ext W0 (W0.alloc (.cells #[(0:Int),.int .u64 0,.int .u64 0,(0:Int),(0:Int),(0:Int),(0:Int),false] 42)).drew:=((Zy2 W0).alloc _).drew;have bB:Zn (W0.alloc (.cells #[(0:Int),.int .u64 0,.int .u64 0,(0:Int),(0:Int),(0:Int),(0:Int),false] 42)).drew Y [(0:Int),.int .u64 0,.int .u64 0,(0:Int),(0:Int),(0:Int),(0:Int),false]:=(Zn.new W0 [(0:Int),.int .u64 0,.int .u64 0,(0:Int),(0:Int),(0:Int),(0:Int),false] 42 hY).ext (Zy2 _).drew;have OPA:=Za (OA _ q0);have OPB:=Za (OA _ qB);have ZZ:=Za zz;have ZB:=Za zb;have BB:=Za bB;have QB:=Za qB;have Q0:=Za q0;have YY:=Za YZ;unfold opV at OPA OPB;unfold enV
 (try simp only)
 have n1:Y≠z:=by omega
 have n2:z≠Y:=by omega
 have n3:Y≠Q.zb:=by have:=h.o;have:=d0.o.2.1;omega
 have n4:Q.zb≠Y:=n3.symm;have lz:z<W0.heap.size:=by omega
 have lq:Q.zb<W0.heap.size:=by have:=h.o;have:=d0.o.2.1;omega
 have OT:=Za (show Q.M.hi<Q.top from by have:=h.o;omega);have TY:=Za (show Q.top≤Y from by have:=d0.o.2.1;omega);clear h ho hk OA zz zb d0 H0 b0 x0 qB bB YZ;go_enter func39,ntmps39;go_wp2_with fail
 go_region_held3 (fun W'=>W'.cell? Q.zb=some (Q.M.fb:Value)∧W'.cell? ⟨z,1,none⟩=some (.int .i64 (t:Int))∧W'.cell? ⟨z,2,none⟩=some (.int .u8 oc)∧W'.cell? ⟨z,3,none⟩=some (.int .u64 oh)∧W'.cell? ⟨z,4,none⟩=some (.int .i64 oa)∧W'.cell? ⟨z,5,none⟩=some (.int .i64 ob)∧W'.cell? ⟨z,6,none⟩=some (.int .u64 ov))
  ((first|go_keep|assumption|(go_split_ands;assumption)))
  (first|(go_at_call 75;with_reducible refine OPA.out.mono ?_;rintro e w5 ⟨s0,s1,s2,s3,s4,s5,s6,s7,rfl,Qs,x5⟩;have m0:=ZB.out _ _ x5 0 _ (Q0.out.cell kz);have m1:=ZZ.out _ _ x5 z 1 _ (Zy1 _) (Q0.out.cell k1);have m2:=ZZ.out _ _ x5 z 2 _ (Zy1 _) (Q0.out.cell k2);have m3:=ZZ.out _ _ x5 z 3 _ (Zy1 _) (Q0.out.cell k3);have m4:=ZZ.out _ _ x5 z 4 _ (Zy1 _) (Q0.out.cell k4);have m5:=ZZ.out _ _ x5 z 5 _ (Zy1 _) (Q0.out.cell k5);have m6:=ZZ.out _ _ x5 z 6 _ (Zy1 _) (Q0.out.cell k6);have l0:=World.new_ne w5 _ m0;have l1:=World.new_ne w5 _ m1)|(go_at_call 75;with_reducible refine OPB.out.mono ?_;rintro e w5 ⟨s0,s1,s2,s3,s4,s5,s6,s7,rfl,Qs,x5⟩;have m0:=ZB.out _ _ x5 0 _ (QB.out.cell kz);have m1:=ZZ.out _ _ x5 z 1 _ (Zy1 _) (QB.out.cell k1);have m2:=ZZ.out _ _ x5 z 2 _ (Zy1 _) (QB.out.cell k2);have m3:=ZZ.out _ _ x5 z 3 _ (Zy1 _) (QB.out.cell k3);have m4:=ZZ.out _ _ x5 z 4 _ (Zy1 _) (QB.out.cell k4);have m5:=ZZ.out _ _ x5 z 5 _ (Zy1 _) (QB.out.cell k5);have m6:=ZZ.out _ _ x5 z 6 _ (Zy1 _) (QB.out.cell k6);have bY:Zn w5 Y [(0:Int),.int .u64 0,.int .u64 0,(0:Int),(0:Int),(0:Int),(0:Int),false]:=⟨fun i x e=>ZZ.out _ _ x5 Y i _ (by have:=YY.out;omega) (BB.out.c i x e),fun i=>by rw[x5.frozen (p:=⟨Y,i,none⟩) BB.out.lt (fun p=>by have:=TY.out;have:=OT.out;unfold FB.fmP at p;(try simp only at p);omega)];exact BB.out.f i,Zy5 BB.out.lt x5.size⟩;have y0:=bY.c 0 _ rfl;have g0:=bY.f 0;have y1:=bY.c 1 _ rfl;have g1:=bY.f 1;have y2:=bY.c 2 _ rfl;have g2:=bY.f 2;have y3:=bY.c 3 _ rfl;have g3:=bY.f 3;have y4:=bY.c 4 _ rfl;have g4:=bY.f 4;have y5:=bY.c 5 _ rfl;have g5:=bY.f 5;have y6:=bY.c 6 _ rfl;have g6:=bY.f 6;have y7:=bY.c 7 _ rfl;have g7:=bY.f 7)|fail)
 ·obtain⟨W6,hW6,B6,x6⟩:=newBox w5 42 [s0,.int .u64 s1,.int .u64 s2,s3,s4,s5,s6,s7];have D6:=Za ((D0.out.go ((Zy3 Q0.out).trans (x5.mono fun k p=>.inl (by have:=OT.out;unfold FB.fmP at p;omega)))).ext x6);have Q6:=Za (Qs.out.ext x6)
  try rw[hW6]
  clear Qs x5 m0 m1 m2 m3 m4 m5 m6 l0 l1 x6 k0 k1 k2 k3 k4 k5 k6 k7 k8 kz hW6 hW0;obtain⟨y0,y1,y2,y3,y4,y5,y6,y7⟩:=B6.k8;obtain⟨q0,q1,q2,q3,q4,q5,q6,q7,q8⟩:=D6.out.b.k9;obtain⟨r0,r1,r2,r3,r4,r5,r6,r7,r8⟩:=D6.out.r.k9;obtain⟨f0,f1,f2,f3,f4,f5,f6,f7,f8⟩:=D6.out.r.g9;have r9:=(D6.out.r.put9 (.int .i64 (t:Int)) (.int .i64 s0) (.int .u64 s1) (.int .u64 s2) (.int .i64 s3) (.int .i64 s4) (.int .i64 s5) (.int .i64 s6) (.bool s7)).read9;have cx:=Xs W6 (z+1) (.int .i64 (t:Int)) (.int .i64 s0) (.int .u64 s1) (.int .u64 s2) (.int .i64 s3) (.int .i64 s4) (.int .i64 s5) (.int .i64 s6) (.bool s7);have FQ:=Za (Q6.out.box cx (by have:=D6.out.o;omega) (fun g e=>by have:=D6.out.o.2.2 g e;omega) (by have:=D6.out.o.1;omega));have R9:=Za r9;clear Q6 D6 cx r9;go_wp2_with fail;have r9:=R9.out;refine bodyPost_ret (v:=.tuple #[.agg #[(t:Int),s0,.int .u64 s1,.int .u64 s2,s3,s4,s5,s6,s7],true]) (by simp[results,results39,go_sem,r9.c0,r9.c1,r9.c2,r9.c3,r9.c4,r9.c5,r9.c6,r9.c7,r9.c8]) rfl ?_;exact⟨⟨s0,s1,s2,s3,s4,s5,s6,s7⟩,rfl,FQ.out⟩
 ·obtain⟨W6,hW6⟩:=Zb (put8w w5 Y (.int .i64 s0) (.int .u64 s1) (.int .u64 s2) (.int .i64 s3) (.int .i64 s4) (.int .i64 s5) (.int .i64 s6) (.bool s7));have B6:Zn W6 Y [s0,.int .u64 s1,.int .u64 s2,s3,s4,s5,s6,s7]:=by rw[←hW6];exact bY.put8w (.int .i64 s0) (.int .u64 s1) (.int .u64 s2) (.int .i64 s3) (.int .i64 s4) (.int .i64 s5) (.int .i64 s6) (.bool s7)
  have x6:Chg (fun k=>k=Y) w5 W6:=by rw[←hW6];exact Rn w5 Y (.int .i64 s0) (.int .u64 s1) (.int .u64 s2) (.int .i64 s3) (.int .i64 s4) (.int .i64 s5) (.int .i64 s6) (.bool s7)
  have D6:=Za ((D0.out.go ((Zy3 QB.out).trans (x5.mono fun k p=>.inl (by have:=OT.out;unfold FB.fmP at p;omega)))).off x6 YY.out);have Q6:=Za (Qs.out.box x6 TY.out (fun g e=>by have:=D0.out.o.2.2 g e;have:=YY.out;omega) (by have:=D0.out.o.1;have:=YY.out;omega));change Exit.then _ _ _ _ (put8w w5 Y (.int .i64 s0) (.int .u64 s1) (.int .u64 s2) (.int .i64 s3) (.int .i64 s4) (.int .i64 s5) (.int .i64 s6) (.bool s7));rw[hW6];clear Qs x5 m0 m1 m2 m3 m4 m5 m6 x6 k0 k1 k2 k3 k4 k5 k6 k7 k8 kz hW6 hW0 bY y0 g0 y1 g1 y2 g2 y3 g3 y4 g4 y5 g5 y6 g6 y7 g7;obtain⟨y0,y1,y2,y3,y4,y5,y6,y7⟩:=B6.k8;obtain⟨q0,q1,q2,q3,q4,q5,q6,q7,q8⟩:=D6.out.b.k9;obtain⟨r0,r1,r2,r3,r4,r5,r6,r7,r8⟩:=D6.out.r.k9;obtain⟨f0,f1,f2,f3,f4,f5,f6,f7,f8⟩:=D6.out.r.g9;have r9:=(D6.out.r.put9 (.int .i64 (t:Int)) (.int .i64 s0) (.int .u64 s1) (.int .u64 s2) (.int .i64 s3) (.int .i64 s4) (.int .i64 s5) (.int .i64 s6) (.bool s7)).read9;have cx:=Xs W6 (z+1) (.int .i64 (t:Int)) (.int .i64 s0) (.int .u64 s1) (.int .u64 s2) (.int .i64 s3) (.int .i64 s4) (.int .i64 s5) (.int .i64 s6) (.bool s7);have FQ:=Za (Q6.out.box cx (by have:=D6.out.o;omega) (fun g e=>by have:=D6.out.o.2.2 g e;omega) (by have:=D6.out.o.1;omega));have R9:=Za r9;clear Q6 D6 cx r9;go_wp2_with fail;have r9:=R9.out;refine bodyPost_ret (v:=.tuple #[.agg #[(t:Int),s0,.int .u64 s1,.int .u64 s2,s3,s4,s5,s6,s7],true]) (by simp[results,results39,go_sem,r9.c0,r9.c1,r9.c2,r9.c3,r9.c4,r9.c5,r9.c6,r9.c7,r9.c8]) rfl ?_;exact⟨⟨s0,s1,s2,s3,s4,s5,s6,s7⟩,rfl,FQ.out⟩
end
section
variable{w w' W W':World}{Q:MB}{c:Zh}{t n a d z Y:Nat}{X:Nat→HP}{ws:List Int}{L:List (Int × Sn)}{v:Value}{o:OpI}
def Eu(w:World)(Q:MB)(c:Zh)(n a d:Nat)(X:Nat→HP)(L:List (Int × Sn))(v:Value)(W:World):Prop:=
 ∃(X':Nat→HP) (ws':List Int),Ts W Q c n X' ws' L v∧Chg (Q.mcP v) w W∧Wo c n a d X' ws'∧∀t,t<c.ts.length→Hr c t n a d (X t) (X' t)
theorem Eu.refl(h:Ts w Q c n X ws L v)(hk:Wo c n a d X ws)(hx:Ext w W):Eu w Q c n a d X L v W:=⟨X,ws,h.ext hx,Zy3 hx,hk,fun t ht=>Hr.refl (hk.ok t ht)⟩
theorem Eu.ext(h:Eu w Q c n a d X L v W)(hx:Ext W W'):Eu w Q c n a d X L v W':=by
 obtain⟨f,r,h1,h2,h3⟩:=h;exact⟨f,r,h1.ext hx,h2.trans (Zy3 hx),h3⟩
theorem Eu.box(h:Eu w Q c n a d X L v W)(hx:Chg (fun k=>k=Y) W W')(h1:Q.top≤Y)(h2:∀g,v.ownBlock=some g→g≠Y)(h3:w.heap.size≤Y):Eu w Q c n a d X L v W':=by
 obtain⟨f,r,q1,q2,q3⟩:=h;exact⟨f,r,q1.box9 hx h1 h2,q2.new (hx.mono fun k e=>by have e1:k=Y:=e;omega),q3⟩
theorem Hx{x:EnI}(h:Ts w Q c n X ws L v)(hk:Wo c n a d X ws)(h1:x.kind≠1)(h2:x.kind≠2) :
  Calls prog 39 #[Q.zb,enV x] w fun e w'=>e=.returned (.tuple #[Ul (Mv 250),true])∧Eu w Q c n a d X L v w':=by
 obtain⟨z,hz⟩:=Zb (w.heap.size);obtain⟨W0,hW0,d0,x0⟩:=DsF.new h (Tc x) 38 44 hz;have Q0:=Za (Eu.refl h hk x0);have D0:=Za d0;obtain⟨xk,xt,⟨oc,oh,oa,ob,ov⟩,xw,xm⟩:=x;unfold Tc at hW0
 (try simp only at hW0 h1 h2)
 have b0:=d0.b;unfold Tc at b0
 (try simp only at b0)
 obtain⟨k0,k1,k2,k3,k4,k5,k6,k7,k8⟩:=b0.k9;have t1:(xk==1)=false:=by simpa using h1
 have t2:(xk==2)=false:=by simpa using h2
 have WR:=Za (Et (w:=W0) (k:=250));unfold enV;unfold Ul Mv Z9 at WR ⊢
 (try simp only at WR ⊢)
 clear h hk h1 h2 d0 b0 x0;go_enter func39,ntmps39;go_wp2_with fail;refine WR.out.ze fun w6 x6=>?_;have D6:=Za (D0.out.ext x6);have Q6:=Za (Q0.out.ext x6);clear x6 k0 k1 k2 k3 k4 k5 k6 k7 k8 hW0;obtain⟨r0,r1,r2,r3,r4,r5,r6,r7,r8⟩:=D6.out.r.k9;obtain⟨f0,f1,f2,f3,f4,f5,f6,f7,f8⟩:=D6.out.r.g9;have r9:=(D6.out.r.put9 (.int .i64 (-1)) (.int .i64 250) (.int .u64 0) (.int .u64 0) (.int .i64 0) (.int .i64 0) (.int .i64 0) (.int .i64 0) (.bool false)).read9;have cx:=Xs w6 (z+1) (.int .i64 (-1)) (.int .i64 250) (.int .u64 0) (.int .u64 0) (.int .i64 0) (.int .i64 0) (.int .i64 0) (.int .i64 0) (.bool false);have FQ:=Za (Q6.out.box cx (by have:=D6.out.o;omega) (fun g e=>by have:=D6.out.o.2.2 g e;omega) (by have:=D6.out.o.1;omega));have R9:=Za r9;clear Q6 D6 cx r9;go_wp2_with fail;have r9:=R9.out;refine bodyPost_ret (v:=.tuple #[.agg #[.int .i64 (-1),(250:Int),.int .u64 0,.int .u64 0,(0:Int),(0:Int),(0:Int),(0:Int),false],true]) (by simp[results,results39,go_sem,r9.c0,r9.c1,r9.c2,r9.c3,r9.c4,r9.c5,r9.c6,r9.c7,r9.c8]) rfl ?_;exact⟨rfl,FQ.out⟩
theorem Bx{x:EnI}(h:Ts w Q c n X ws L v)(hk:Wo c n a d X ws)(h1:x.kind=1)(h2:0≤x.tenant)(h3:(c.ts.length:Int)≤x.tenant) :
  Calls prog 39 #[Q.zb,enV x] w fun e w'=>e=.returned (.tuple #[Ul (Mv 250),true])∧Eu w Q c n a d X L v w':=by
 obtain⟨z,hz⟩:=Zb (w.heap.size);obtain⟨W0,hW0,d0,x0⟩:=DsF.new h (Tc x) 38 44 hz;have Q0:=Za (Eu.refl h hk x0);have D0:=Za d0;have H0:=h.ext x0;obtain⟨Y,hY⟩:=Zb (W0.heap.size);have YZ:z+1<Y:=by have:=d0.r.lt;omega
 obtain⟨xk,xt,⟨oc,oh,oa,ob,ov⟩,xw,xm⟩:=x;unfold Tc at hW0
 (try simp only at hW0 h1 h2 h3)
 subst h1;have b0:=d0.b;unfold Tc at b0
 (try simp only at b0)
 obtain⟨k0,k1,k2,k3,k4,k5,k6,k7,k8⟩:=b0.k9;have kz:=H0.box.c 0 _ rfl;have q0:Ext W0 W0.drew:=(Zy2 _).drew;have qB:Ext W0 (W0.alloc (.cells #[(0:Int),.int .u64 0,.int .u64 0,(0:Int),(0:Int),(0:Int),(0:Int),false] 42)).drew:=((Zy2 W0).alloc _).drew;have bB:Zn (W0.alloc (.cells #[(0:Int),.int .u64 0,.int .u64 0,(0:Int),(0:Int),(0:Int),(0:Int),false] 42)).drew Y [(0:Int),.int .u64 0,.int .u64 0,(0:Int),(0:Int),(0:Int),(0:Int),false]:=(Zn.new W0 [(0:Int),.int .u64 0,.int .u64 0,(0:Int),(0:Int),(0:Int),(0:Int),false] 42 hY).ext (Zy2 _).drew;have OPA:=Za (Er (o:=⟨oc,oh,oa,ob,ov⟩) (H0.ext q0).fm h2 h3);have OPB:=Za (Er (o:=⟨oc,oh,oa,ob,ov⟩) (H0.ext qB).fm h2 h3);have QB:=Za qB;have QA:=Za q0;have BB:=Za bB;have YY:=Za YZ;have TY:=Za (show Q.top≤Y from by have:=d0.o.2.1;omega);unfold opV snV Z9 at OPA OPB
 (try simp only at OPA OPB)
 have WR:=Za (fun W:World=>Et (w:=W) (k:=250));unfold enV;unfold Ul Mv Z9 at WR ⊢
 (try simp only at WR ⊢)
 have n1:Y≠z:=by omega
 have n2:z≠Y:=by omega
 have n3:Y≠Q.zb:=by have:=h.o;have:=d0.o.2.1;omega
 have n4:Q.zb≠Y:=n3.symm;have lz:z<W0.heap.size:=by omega
 have lq:Q.zb<W0.heap.size:=by have:=h.o;have:=d0.o.2.1;omega
 clear h hk h2 h3 d0 H0 b0 x0 qB bB YZ;go_enter func39,ntmps39;go_wp2_with fail
 go_region_held3 (fun W'=>W'.cell? Q.zb=some (Q.M.fb:Value)∧W'.cell? ⟨z,1,none⟩=some (.int .i64 xt)∧W'.cell? ⟨z,2,none⟩=some (.int .u8 oc)∧W'.cell? ⟨z,3,none⟩=some (.int .u64 oh)∧W'.cell? ⟨z,4,none⟩=some (.int .i64 oa)∧W'.cell? ⟨z,5,none⟩=some (.int .i64 ob)∧W'.cell? ⟨z,6,none⟩=some (.int .u64 ov))
  ((first|go_keep|assumption|(go_split_ands;assumption)))
  (first|(go_at_call 75;with_reducible refine OPA.out.ze fun w5 x5=>?_;have m0:=x5.cell (QA.out.cell kz);have m1:=x5.cell (QA.out.cell k1);have m2:=x5.cell (QA.out.cell k2);have m3:=x5.cell (QA.out.cell k3);have m4:=x5.cell (QA.out.cell k4);have m5:=x5.cell (QA.out.cell k5);have m6:=x5.cell (QA.out.cell k6);have l0:=World.new_ne w5 _ m0;have l1:=World.new_ne w5 _ m1)|(go_at_call 75;with_reducible refine OPB.out.ze fun w5 x5=>?_;have m0:=x5.cell (QB.out.cell kz);have m1:=x5.cell (QB.out.cell k1);have m2:=x5.cell (QB.out.cell k2);have m3:=x5.cell (QB.out.cell k3);have m4:=x5.cell (QB.out.cell k4);have m5:=x5.cell (QB.out.cell k5);have m6:=x5.cell (QB.out.cell k6);have bY:=BB.out.ext x5;have y0:=bY.c 0 _ rfl;have g0:=bY.f 0;have y1:=bY.c 1 _ rfl;have g1:=bY.f 1;have y2:=bY.c 2 _ rfl;have g2:=bY.f 2;have y3:=bY.c 3 _ rfl;have g3:=bY.f 3;have y4:=bY.c 4 _ rfl;have g4:=bY.f 4;have y5:=bY.c 5 _ rfl;have g5:=bY.f 5;have y6:=bY.c 6 _ rfl;have g6:=bY.f 6;have y7:=bY.c 7 _ rfl;have g7:=bY.f 7)|fail)
 ·obtain⟨W6,hW6,B6,x6⟩:=newBox w5 42 [(0:Int),.int .u64 0,.int .u64 0,(0:Int),(0:Int),(0:Int),(0:Int),false];have WR6:=Za (WR.out W6);have x56:=Za ((QA.out.trans x5).trans x6)
  try rw[hW6]
  clear x5 m0 m1 m2 m3 m4 m5 m6 l0 l1 x6 k0 k1 k2 k3 k4 k5 k6 k7 k8 kz hW6 hW0 WR;go_wp2_with fail;refine WR6.out.ze fun w7 x7=>?_;have D6:=Za (D0.out.ext (x56.out.trans x7));have Q6:=Za (Q0.out.ext (x56.out.trans x7));clear x7;obtain⟨r0,r1,r2,r3,r4,r5,r6,r7,r8⟩:=D6.out.r.k9;obtain⟨f0,f1,f2,f3,f4,f5,f6,f7,f8⟩:=D6.out.r.g9;have r9:=(D6.out.r.put9 (.int .i64 (-1)) (.int .i64 250) (.int .u64 0) (.int .u64 0) (.int .i64 0) (.int .i64 0) (.int .i64 0) (.int .i64 0) (.bool false)).read9;have cx:=Xs w7 (z+1) (.int .i64 (-1)) (.int .i64 250) (.int .u64 0) (.int .u64 0) (.int .i64 0) (.int .i64 0) (.int .i64 0) (.int .i64 0) (.bool false);have FQ:=Za (Q6.out.box cx (by have:=D6.out.o;omega) (fun g e=>by have:=D6.out.o.2.2 g e;omega) (by have:=D6.out.o.1;omega));have R9:=Za r9;clear Q6 D6 cx r9;go_wp2_with fail;have r9:=R9.out;refine bodyPost_ret (v:=.tuple #[.agg #[.int .i64 (-1),(250:Int),.int .u64 0,.int .u64 0,(0:Int),(0:Int),(0:Int),(0:Int),false],true]) (by simp[results,results39,go_sem,r9.c0,r9.c1,r9.c2,r9.c3,r9.c4,r9.c5,r9.c6,r9.c7,r9.c8]) rfl ?_;exact⟨rfl,FQ.out⟩
 ·obtain⟨W6,hW6⟩:=Zb (put8w w5 Y (.int .i64 0) (.int .u64 0) (.int .u64 0) (.int .i64 0) (.int .i64 0) (.int .i64 0) (.int .i64 0) (.bool false));have x6:Chg (fun k=>k=Y) w5 W6:=by rw[←hW6];exact Rn w5 Y (.int .i64 0) (.int .u64 0) (.int .u64 0) (.int .i64 0) (.int .i64 0) (.int .i64 0) (.int .i64 0) (.bool false)
  have D5:=Za ((D0.out.ext (QB.out.trans x5)).off x6 YY.out);have Q5:=Za ((Q0.out.ext (QB.out.trans x5)).box x6 TY.out (fun g e=>by have:=D0.out.o.2.2 g e;have:=YY.out;omega) (by have:=D0.out.o.1;have:=YY.out;omega));have WR6:=Za (WR.out W6);change Exit.then _ _ _ _ (put8w w5 Y (.int .i64 0) (.int .u64 0) (.int .u64 0) (.int .i64 0) (.int .i64 0) (.int .i64 0) (.int .i64 0) (.bool false));rw[hW6];clear x5 m0 m1 m2 m3 m4 m5 m6 x6 k0 k1 k2 k3 k4 k5 k6 k7 k8 kz hW6 hW0 bY WR y0 g0 y1 g1 y2 g2 y3 g3 y4 g4 y5 g5 y6 g6 y7 g7;go_wp2_with fail;refine WR6.out.ze fun w7 x7=>?_;have D6:=Za (D5.out.ext x7);have Q6:=Za (Q5.out.ext x7);clear x7;obtain⟨r0,r1,r2,r3,r4,r5,r6,r7,r8⟩:=D6.out.r.k9;obtain⟨f0,f1,f2,f3,f4,f5,f6,f7,f8⟩:=D6.out.r.g9;have r9:=(D6.out.r.put9 (.int .i64 (-1)) (.int .i64 250) (.int .u64 0) (.int .u64 0) (.int .i64 0) (.int .i64 0) (.int .i64 0) (.int .i64 0) (.bool false)).read9;have cx:=Xs w7 (z+1) (.int .i64 (-1)) (.int .i64 250) (.int .u64 0) (.int .u64 0) (.int .i64 0) (.int .i64 0) (.int .i64 0) (.int .i64 0) (.bool false);have FQ:=Za (Q6.out.box cx (by have:=D6.out.o;omega) (fun g e=>by have:=D6.out.o.2.2 g e;omega) (by have:=D6.out.o.1;omega));have R9:=Za r9;clear Q6 D6 cx r9;go_wp2_with fail;have r9:=R9.out;refine bodyPost_ret (v:=.tuple #[.agg #[.int .i64 (-1),(250:Int),.int .u64 0,.int .u64 0,(0:Int),(0:Int),(0:Int),(0:Int),false],true]) (by simp[results,results39,go_sem,r9.c0,r9.c1,r9.c2,r9.c3,r9.c4,r9.c5,r9.c6,r9.c7,r9.c8]) rfl ?_;exact⟨rfl,FQ.out⟩
theorem Gt{x:EnI}(h:Ts w Q c n X ws L v)(hk:Wo c n a d X ws)(h1:x.kind=2)(h2:0≤x.micro∧x.micro<256) :
  Calls prog 39 #[Q.zb,enV x] w fun e w'=>e=.returned (.tuple #[.agg #[(0:Int),(0:Int),.int .u64 0,.int .u64 0,(0:Int),(0:Int),(0:Int),(0:Int),false],false])∧Eu w Q c n a d X L v w':=by
 obtain⟨z,hz⟩:=Zb (w.heap.size);obtain⟨W0,hW0,d0,x0⟩:=DsF.new h (Tc x) 38 44 hz;have D0:=Za d0;have H0:=h.ext x0;obtain⟨xk,xt,⟨oc,oh,oa,ob,ov⟩,xw,xm⟩:=x;unfold Tc at hW0
 (try simp only at hW0 h1 h2)
 subst h1;obtain⟨m,rfl⟩:=Int.eq_ofNat_of_zero_le h2.1;have b0:=d0.b;unfold Tc at b0
 (try simp only at b0)
 obtain⟨k0,k1,k2,k3,k4,k5,k6,k7,k8⟩:=b0.k9;have kz:=H0.box.c 0 _ rfl;have zz:∀W W':World,Chg Q.M.fmP W W'→∀k i u,z≤k→W.cell? ⟨k,i,none⟩=some u→W'.cell? ⟨k,i,none⟩=some u:=fun W W' x k i u hk e=>x.cell (fun p=>by have:=h.o;have:=d0.o.2.1;unfold FB.fmP at p;(try simp only at p);omega) e
 have zb:∀W W':World,Chg Q.M.fmP W W'→∀i u,W.cell? ⟨Q.zb,i,none⟩=some u→W'.cell? ⟨Q.zb,i,none⟩=some u:=fun W W' x i u e=>x.cell (fun p=>by have:=h.o;unfold FB.fmP at p;(try simp only at p);omega) e
 have q0:Ext W0 W0.drew:=(Zy2 _).drew;have ST:=Za (fun (k i j:Int) (hi:0≤i)=>Zns (k:=k) (i:=i) (j:=j) (H0.ext q0).fm hk hi);have TO:Hid (∀W' X' ws',Hs W' Q.M c n X' ws'→Chg Q.M.fmP W0.drew W'→Wo c n a d X' ws'→(∀t,t<c.ts.length→Hr c t n a d (X t) (X' t))→Eu w Q c n a d X L v W'):=Za fun W' X' ws' f1 f2 f3 f4=>by
  obtain⟨m1,m2⟩:=(H0.ext q0).fmTo f1 f2;exact⟨X',ws',m1,(Zy3 (x0.trans q0)).trans m2,f3,f4⟩
 have OT:=Za (show Q.M.hi<Q.top from by have:=h.o;omega);have ZZ:=Za zz;have ZB:=Za zb;have QA:=Za q0;have w1:IntKind.i64.wrap (m:Int)=(m:Int):=by rw[IntWalk.i64_in _ (by omega)]
 have w2:IntKind.i64.wrap ((m:Int) / 8)=(m:Int) / 8:=by rw[IntWalk.i64_in _ (by omega)]
 have w3:IntKind.u8.wrap ((m:Int) % 8)=(m:Int) % 8:=by rw[IntKind.wrap_u8];omega
 have DI:=Za (show(0:Int)≤(m:Int) / 8 by omega);unfold enV
 (try simp only)
 clear h hk h2 d0 H0 b0 x0 zz zb;go_enter func39,ntmps39;go_wp2_with fail
 go_region_held3 (fun W'=>W'.cell? Q.zb=some (Q.M.fb:Value)∧W'.cell? ⟨z,3,none⟩=some (.int .u64 oh)∧W'.cell? ⟨z,7,none⟩=some (.int .i64 xw)∧W'.cell? ⟨z,8,none⟩=some (.int .u8 (m:Int)))
  ((first|go_keep|assumption|(go_split_ands;assumption)))
  (first|(go_at_call 74;refine(ST.out _ _ _ DI.out).mono ?_;rintro e w5 ⟨r,X',ws',rfl,f1,f2,f3,f4⟩;have m0:=ZB.out _ _ f2 0 _ (QA.out.cell kz);have m3:=ZZ.out _ _ f2 z 3 _ (Zy1 _) (QA.out.cell k3);have m7:=ZZ.out _ _ f2 z 7 _ (Zy1 _) (QA.out.cell k7);have m8:=ZZ.out _ _ f2 z 8 _ (Zy1 _) (QA.out.cell k8))|fail)
 all_goals
  have D6:=Za (D0.out.go ((Zy3 QA.out).trans (f2.mono fun k p=>.inl (by have:=OT.out;unfold FB.fmP at p;omega))));have Q6:=Za (TO.out _ _ _ f1 f2 f3 f4);clear f1 f2 f3 f4 m0 m3 m7 m8 k0 k1 k2 k3 k4 k5 k6 k7 k8 kz hW0 TO;obtain⟨r0,r1,r2,r3,r4,r5,r6,r7,r8⟩:=D6.out.r.k9;obtain⟨f0,f1,f2,f3,f4,f5,f6,f7,f8⟩:=D6.out.r.g9;have r9:=(D6.out.r.put9 (.int .i64 0) (.int .i64 0) (.int .u64 0) (.int .u64 0) (.int .i64 0) (.int .i64 0) (.int .i64 0) (.int .i64 0) (.bool false)).read9;have cx:=Xs w5 (z+1) (.int .i64 0) (.int .i64 0) (.int .u64 0) (.int .u64 0) (.int .i64 0) (.int .i64 0) (.int .i64 0) (.int .i64 0) (.bool false);have FQ:=Za (Q6.out.box cx (by have:=D6.out.o;omega) (fun g e=>by have:=D6.out.o.2.2 g e;omega) (by have:=D6.out.o.1;omega));have R9:=Za r9;clear Q6 D6 cx r9;go_wp2_with fail;have r9:=R9.out;refine bodyPost_ret (v:=.tuple #[.agg #[(0:Int),(0:Int),.int .u64 0,.int .u64 0,(0:Int),(0:Int),(0:Int),(0:Int),false],false]) (by simp[results,results39,go_sem,r9.c0,r9.c1,r9.c2,r9.c3,r9.c4,r9.c5,r9.c6,r9.c7,r9.c8]) rfl ?_;exact⟨rfl,FQ.out⟩
end
section
variable{w w' W W' W2 w4:World}{Q:MB}{c:Zh}{t n a d z Y g cap:Nat}{X:Nat→HP}{ws:List Int}{L:List (Int × Sn)}{v:Value}{o:OpI}{p:Int × Sn}
theorem Zx2:(prog.info? 44).map (fun i=>(i.zero,i.size,i.bytes))=some (some (.agg #[(0:Int),(0:Int),.int .u64 0,.int .u64 0,(0:Int),(0:Int),(0:Int),(0:Int),false]),9,72):=by kernel_rfl
theorem Zu8(p:Int × Sn):∀u∈wcs p,u.oneCell'=true:=by
 intro u hu;unfold wcs Qf at hu;simp only[List.mem_cons,List.not_mem_nil,or_false] at hu;rcases hu with rfl|rfl|rfl|rfl|rfl|rfl|rfl|rfl|rfl<;>rfl
theorem Ts.push(h:Ts W Q c n X ws L v)(x:Ext W W2)(hg:W2.grownBy w4 v.ownBlock)(hown:w4.ownsRow Q.top 44 9 (.slice (some ⟨g,0,none⟩) (L.length+1) cap) (L.length+1) (Zjl L++wcs p)) :
  Ts (w4.setCell ⟨Q.zb,1,none⟩ (.slice (some ⟨g,0,none⟩) (L.length+1) cap)) Q c n X ws (L++[p]) (.slice (some ⟨g,0,none⟩) (L.length+1) cap)∧Chg (Q.mcP v) W (w4.setCell ⟨Q.zb,1,none⟩ (.slice (some ⟨g,0,none⟩) (L.length+1) cap)):=by
 have h2:=h.ext x;have o:=h.o;have ow:=h2.own.lt;have x4:Chg (fun k=>some k=v.ownBlock) W2 w4:=Chg.grownC hg;have x5:Chg (fun k=>k=Q.zb) w4 (w4.setCell ⟨Q.zb,1,none⟩ (.slice (some ⟨g,0,none⟩) (L.length+1) cap)):=Chg.setCell (P:=fun j=>j=Q.zb) (p:=⟨Q.zb,1,none⟩) (Chg.refl _ w4) (.inl rfl) _;have x6:Chg (fun k=>some k=v.ownBlock∨k=Q.zb) W2 (w4.setCell ⟨Q.zb,1,none⟩ (.slice (some ⟨g,0,none⟩) (L.length+1) cap)):=(x4.mono fun k e=>.inl e).trans (x5.mono fun k e=>.inr e);refine⟨⟨h2.fm.chg x6 (fun k hk q=>?_),?_,?_,o.1,o.2.1,Zy6 h2.o.2.2 x6.size⟩,(Zy3 x).trans (x6.mono fun k q=>?_)⟩
 ·rcases q with q|q
  ·have:=(ow k q.symm).1;omega
  ·omega
 ·have b1:=h2.box.chg x4 (fun q=>by have:=(ow _ q.symm).1;omega);exact b1.set (i:=1) (by show 1<2;decide) _
 ·have e:(L++[p]).length=L.length+1:=by simp
  rw[e,Zb2];exact Va hown (by show Q.zb<Q.top;exact o.2.1) _
 ·rcases q with q|q
  ·exact .inr q
  ·left
   have:=h.fm.gl;omega
structure Zo0(w W:World)(Q:MB)(v:Value)(z:Nat):Prop where
 r:Zn W z [(0:Int),(0:Int),.int .u64 0,.int .u64 0,(0:Int),(0:Int),(0:Int),(0:Int),false]
 o:w.heap.size=z∧Q.top≤z∧∀g,v.ownBlock=some g→g<z
theorem Zo0.go(h:Zo0 w W Q v z)(hx:Chg (Q.mcP v) W W'):Zo0 w W' Q v z:=by
 obtain⟨o1,o2,o3⟩:=h.o;exact⟨h.r.chg hx (fun p=>by
  rcases p with p|p
  ·omega
  ·have:=o3 z p.symm;omega),h.o⟩
theorem Zo0.ext(h:Zo0 w W Q v z)(hx:Ext W W'):Zo0 w W' Q v z:=⟨h.r.ext hx,h.o⟩
theorem Zo0.fin{X':Nat→HP}{ws':List Int}{L':List (Int × Sn)}{v':Value}(h:Zo0 w W Q v z)(hm:Ts W Q c n X' ws' L' v')(hv:∀g,v'.ownBlock=some g→g≠z)(hc:Chg (Q.mcP v) w W)(v0 v1 v2 v3 v4 v5 v6 v7 v8:Value) :
  Bq (put9 W z v0 v1 v2 v3 v4 v5 v6 v7 v8) z v0 v1 v2 v3 v4 v5 v6 v7 v8∧Ts (put9 W z v0 v1 v2 v3 v4 v5 v6 v7 v8) Q c n X' ws' L' v'∧Chg (Q.mcP v) w (put9 W z v0 v1 v2 v3 v4 v5 v6 v7 v8):=by
 obtain⟨o1,o2,o3⟩:=h.o;have cx:=Xs W z v0 v1 v2 v3 v4 v5 v6 v7 v8;exact⟨(h.r.put9 v0 v1 v2 v3 v4 v5 v6 v7 v8).read9,hm.box9 cx o2 hv,hc.new (cx.mono fun k e=>by have e1:k=z:=e;omega)⟩
structure DoR(w:World)(Q:MB)(c:Zh)(n:Nat)(L:List (Int × Sn))(v:Value)(Ψ:(Nat→HP)→List Int→Int × Sn→Prop)(W:World)(p:Int × Sn):Prop where
 ex:∃X' ws' v',Ts W Q c n X' ws' (L++[p]) v'∧Chg (Q.mcP v) w W∧(∀k,k<w.heap.size→some k≠v.ownBlock→some k≠v'.ownBlock)∧Ψ X' ws' p
theorem Kv{s:ByteArray}{x:EnI}{Ψ:(Nat→HP)→List Int→Int × Sn→Prop}(h:Ts w Q c n X ws L v)(hl:L.length≤900)(hx:(Tg (sbs s)).1=x)
  (hd:∀W,Ts W Q c n X ws L v→Calls prog 39 #[Q.zb,enV x] W fun e w'=>∃p,e=.returned (.tuple #[Ul p,true])∧∃X' ws',Ts w' Q c n X' ws' L v∧Chg (Q.mcP v) W w'∧Ψ X' ws' p) :
  Calls prog 9 #[Q.zb,.string s] w fun e w'=>∃p,e=.returned (.tuple #[Ul p,true])∧DoR w Q c n L v Ψ w' p:=by
 obtain⟨i0,hi0,hz0,hz1,hz2⟩:=info_parts Zx2;obtain⟨z,hz⟩:=Zb (w.heap.size);obtain⟨W0,hW0,b0,x0⟩:=newBox w 44 [(0:Int),(0:Int),.int .u64 0,.int .u64 0,(0:Int),(0:Int),(0:Int),(0:Int),false];rw[hz] at b0;have H0:=h.ext x0;have F0:Hid (Zo0 w W0 Q v z):=Za ⟨b0,hz,by have:=h.o;omega,fun g q=>by have:=(h.own.lt g q).2;omega⟩;have NO:=Za (Mu H0);have RG:=Za (Zn8 (w:=W0) s hx rfl);obtain⟨k0,hk0⟩:∃k0:Int,(if (Tg (sbs s)).2 then (0:Int) else 250)=k0:=⟨_,rfl⟩;rw[hk0] at RG;have DD:Hid (∀W,Ext W0 W→Calls prog 39 #[Q.zb,enV x] W fun e w'=>∃p,e=.returned (.tuple #[Ul p,true])∧∃X' ws',Ts w' Q c n X' ws' L v∧Chg (Q.mcP v) W w'∧Ψ X' ws' p):=Za fun W q=>hd W (H0.ext q)
 have X0:=Za x0;have TL:=Za (And.intro hl h.o);obtain⟨ek,et,⟨oc,oh,oa,ob,ov⟩,ew,em⟩:=x;unfold enV at RG DD
 (try simp only at RG DD)
 clear h hx hd b0 x0 hk0 H0;go_enter func9,ntmps9;go_wp2_with fail;refine(NO.out).zz ?_;go_wp2_with fail;refine RG.out.ze fun w1 x1=>?_;obtain⟨W2,hW2,b2,x2⟩:=newBox w1 38 [.int .u8 ek,et,.int .u8 oc,.int .u64 oh,oa,ob,.int .u64 ov,ew,.int .u8 em];have D2:=Za (DD.out W2 (x1.trans x2));have F2:=Za (F0.out.ext (x1.trans x2));have X2:=Za (X0.out.trans (x1.trans x2));obtain⟨k0,k1,k2,k3,k4,k5,k6,k7,k8⟩:=b2.k9;clear x1 x2 b2 RG DD NO F0;go_wp2_with fail;refine D2.out.mono ?_;rintro e w3 ⟨p,rfl,X',ws',m3,c3,hp⟩;obtain⟨q,s0,s1,s2,s3,s4,s5,s6,s7⟩:=p;unfold Ul
 (try simp only)
 obtain⟨W4,hW4,b4,x4⟩:=newBox w3 44 [.int .i64 q,s0,.int .u64 s1,.int .u64 s2,s3,s4,s5,s6,s7];have B4:=Za b4;have F4:=Za ((F2.out.go c3).ext x4);have M4:=Za (m3.ext x4);have C4:=Za (((Zy3 X2.out).trans c3).trans (Zy3 x4));have HP:=Za hp;have WZ:=Za (show z<w3.heap.size by have:=F2.out.r.lt;have:=c3.size;omega);have PRE:Hid (∀W w5,Ext W4 W→W.grownBy w5 v.ownBlock→w5.cell? ⟨Q.zb,1,none⟩=some v∧w5.frozen? ⟨Q.zb,1,none⟩=false∧w5.cell? w3.heap.size=some (.int .i64 q)∧w5.cell? ⟨w3.heap.size,1,none⟩=some (.int .i64 s0)∧w5.cell? ⟨w3.heap.size,2,none⟩=some (.int .u64 s1)∧w5.cell? ⟨w3.heap.size,3,none⟩=some (.int .u64 s2)∧w5.cell? ⟨w3.heap.size,4,none⟩=some (.int .i64 s3)∧w5.cell? ⟨w3.heap.size,5,none⟩=some (.int .i64 s4)∧w5.cell? ⟨w3.heap.size,6,none⟩=some (.int .i64 s5)∧w5.cell? ⟨w3.heap.size,7,none⟩=some (.int .i64 s6)∧w5.cell? ⟨w3.heap.size,8,none⟩=some (.bool s7)):=Za fun W w5 x hg=>by
  have cg:=Chg.grownC hg;have b5:=(B4.out.ext x).chg cg (fun e=>by have:=F4.out.o.2.2 _ e.symm;have:=WZ.out;omega);have z5:=(M4.out.box.ext x).chg cg (fun e=>by have:=(M4.out.own.lt _ e.symm).1;have:=M4.out.o;omega);exact⟨z5.c 1 _ rfl,z5.f 1,b5.c 0 _ rfl,b5.c 1 _ rfl,b5.c 2 _ rfl,b5.c 3 _ rfl,b5.c 4 _ rfl,b5.c 5 _ rfl,b5.c 6 _ rfl,b5.c 7 _ rfl,b5.c 8 _ rfl⟩
 obtain⟨k0,k1,k2,k3,k4,k5,k6,k7,k8⟩:=b4.k9;have m1:=M4.out.box.c 1 _ rfl;have f1:=M4.out.box.f 1;clear m3 c3 x4 b4 hp D2 F2 X2 hW0 hW2;go_wp2_with fail;obtain⟨Y,hY⟩:=Zb (W4.heap.size);have HY:=Za hY;have BY:=Za (show(L.length+1)*72≤140737488355328 by have:=TL.out.1;omega);have ML:=Za (show L.length+1≤maxLen by have:=TL.out.1;unfold maxLen;omega);have BS:=Za (show Q.top≤W4.heap.size+1 by have:=M4.out.o;omega);have n1:w3.heap.size≠Q.zb:=by have:=F4.out.o;have:=M4.out.o;have:=B4.out.lt;have:=WZ.out;omega
 have n2:Q.zb≠w3.heap.size:=n1.symm;have lq:Q.zb<W4.heap.size:=M4.out.box.lt;have lw:w3.heap.size<W4.heap.size:=B4.out.lt;have lq2:Q.zb<Y:=by omega
 have lw2:w3.heap.size<Y:=by omega
 have lq3:Q.zb≠Y:=by omega
 have lw3:w3.heap.size≠Y:=by omega
 have OW:Hid (∀b,v.ownBlock=some b→b≠w3.heap.size∧b≠Q.zb):=Za fun b e=>by have:=F4.out.o.2.2 b e;have:=(M4.out.own.lt b e).1;have:=M4.out.o;have:=WZ.out;have:=F4.out.o.1;omega
 go_region_law ((refine step_append_lies _ (by rfl) (.tmp 29) (.tmp 31) 91 (by rfl) Q.top 44 i0 (.agg #[(0:Int),(0:Int),.int .u64 0,.int .u64 0,(0:Int),(0:Int),(0:Int),(0:Int),false]) 9 72 underlying91 hi0 hz0 hz1 hz2 rfl (by decide) v L.length (Zjl L) (by simp[Act.eval]) (Xe M4.out.own (by repeat (first|with_reducible exact Zy2 _|with_reducible refine Ext.drew ?_|with_reducible refine Ext.alloc ?_ _))) ⟨Y,0,none⟩ 1 1 [.int .i64 q,s0,.int .u64 s1,.int .u64 s2,s3,s4,s5,s6,s7] (by simp[Act.eval]) rfl (Zu4 _ [.int .i64 q,s0,.int .u64 s1,.int .u64 s2,s3,s4,s5,s6,s7] _ (by simp[HY.out])) (Zu8 ⟨q,s0,s1,s2,s3,s4,s5,s6,s7⟩) (by decide) ML.out BY.out (by first|exact BS.out|(simp only[World.size_alloc];exact BS.out)|(simp;exact BS.out)) (Y+1) (by simp[HY.out]) ?_;intro gg cap w5 hown hgrow hat hlt4;have cg:=PRE.out _ _ (by repeat (first|with_reducible exact Zy2 _|with_reducible refine Ext.drew ?_|with_reducible refine Ext.alloc ?_ _)) hgrow;obtain⟨e0,e1,r0,r1,r2,r3,r4,r5,r6,r7,r8⟩:=cg))
 all_goals
  have PU:=M4.out.push (p:=(q,⟨s0,s1,s2,s3,s4,s5,s6,s7⟩)) (by repeat (first|with_reducible exact Zy2 _|with_reducible refine Ext.drew ?_|with_reducible refine Ext.alloc ?_ _)) hgrow hown;have GZ:∀b,(Value.slice (some ⟨gg,0,none⟩) (L.length+1) cap).ownBlock=some b→b≠z:=fun b e=>by
   have eb:gg=b:=by simpa [Value.ownBlock] using e
   have:=WZ.out;have o:=F4.out.o;rcases hat with r|r
   ·have:=o.2.2 gg r;omega
   ·omega
  have GW:∀k,k<w.heap.size→some k≠v.ownBlock→some k≠(Value.slice (some ⟨gg,0,none⟩) (L.length+1) cap).ownBlock:=fun k hk hn e=>by
   have eb:k=gg:=by simpa [Value.ownBlock] using e
   have:=WZ.out;have o:=F4.out.o;rcases hat with r|r
   ·exact hn (by rw[eb,r])
   ·omega
  obtain⟨W6,hW6⟩:=Zb (w5.setCell ⟨Q.zb,1,none⟩ (.slice (some ⟨gg,0,none⟩) (L.length+1) cap));rw[hW6] at PU ⊢;have l0:W6.cell? w3.heap.size=some (.int .i64 q):=by rw[←hW6,cell_far _ _ _ _ n2];exact r0
  have l1:W6.cell? ⟨w3.heap.size,1,none⟩=some (.int .i64 s0):=by rw[←hW6,cell_far _ _ _ _ n2];exact r1
  have l2:W6.cell? ⟨w3.heap.size,2,none⟩=some (.int .u64 s1):=by rw[←hW6,cell_far _ _ _ _ n2];exact r2
  have l3:W6.cell? ⟨w3.heap.size,3,none⟩=some (.int .u64 s2):=by rw[←hW6,cell_far _ _ _ _ n2];exact r3
  have l4:W6.cell? ⟨w3.heap.size,4,none⟩=some (.int .i64 s3):=by rw[←hW6,cell_far _ _ _ _ n2];exact r4
  have l5:W6.cell? ⟨w3.heap.size,5,none⟩=some (.int .i64 s4):=by rw[←hW6,cell_far _ _ _ _ n2];exact r5
  have l6:W6.cell? ⟨w3.heap.size,6,none⟩=some (.int .i64 s5):=by rw[←hW6,cell_far _ _ _ _ n2];exact r6
  have l7:W6.cell? ⟨w3.heap.size,7,none⟩=some (.int .i64 s6):=by rw[←hW6,cell_far _ _ _ _ n2];exact r7
  have l8:W6.cell? ⟨w3.heap.size,8,none⟩=some (.bool s7):=by rw[←hW6,cell_far _ _ _ _ n2];exact r8
  have F6:=Za (F4.out.go PU.2);have FN:=Za (F6.out.fin PU.1 GZ (C4.out.trans PU.2) (.int .i64 q) (.int .i64 s0) (.int .u64 s1) (.int .u64 s2) (.int .i64 s3) (.int .i64 s4) (.int .i64 s5) (.int .i64 s6) (.bool s7));have G3:=Za GW;obtain⟨j0,j1,j2,j3,j4,j5,j6,j7,j8⟩:=F6.out.r.k9;obtain⟨f0,f1,f2,f3,f4,f5,f6,f7,f8⟩:=F6.out.r.g9;clear PU GZ GW hW6 r0 r1 r2 r3 r4 r5 r6 r7 r8 e0 e1 hown hgrow hat hlt4 k0 k1 k2 k3 k4 k5 k6 k7 k8 m1 hW4 F6 F4 PRE;go_wp2_with fail;obtain⟨r9,mm,cc⟩:=FN.out;refine bodyPost_ret (v:=.tuple #[.agg #[.int .i64 q,s0,.int .u64 s1,.int .u64 s2,s3,s4,s5,s6,s7],true]) (by simp[results,results9,go_sem,r9.c0,r9.c1,r9.c2,r9.c3,r9.c4,r9.c5,r9.c6,r9.c7,r9.c8]) rfl ?_;exact⟨(q,⟨s0,s1,s2,s3,s4,s5,s6,s7⟩),rfl,⟨_,_,_,mm,cc,G3.out,HP.out⟩⟩
theorem Eu.from{W0:World}(h:Eu W0 Q c n a d X L v W)(hx:Ext w W0):Eu w Q c n a d X L v W:=by
 obtain⟨f,r,h1,h2,h3⟩:=h;exact⟨f,r,h1,(Zy3 hx).trans h2,h3⟩
theorem Zb9{s:ByteArray}{x:EnI}(h:Ts w Q c n X ws L v)(hx:(Tg (sbs s)).1=x)
  (hd:∀W,Ts W Q c n X ws L v→Calls prog 39 #[Q.zb,enV x] W fun e w'=>e=.returned (.tuple #[.agg #[(0:Int),(0:Int),.int .u64 0,.int .u64 0,(0:Int),(0:Int),(0:Int),(0:Int),false],false])∧Eu W Q c n a d X L v w') :
  Calls prog 9 #[Q.zb,.string s] w fun e w'=>e=.returned (.tuple #[.agg #[(0:Int),(0:Int),.int .u64 0,.int .u64 0,(0:Int),(0:Int),(0:Int),(0:Int),false],false])∧Eu w Q c n a d X L v w':=by
 obtain⟨z,hz⟩:=Zb (w.heap.size);obtain⟨W0,hW0,b0,x0⟩:=newBox w 44 [(0:Int),(0:Int),.int .u64 0,.int .u64 0,(0:Int),(0:Int),(0:Int),(0:Int),false];rw[hz] at b0;have H0:=h.ext x0;have F0:Hid (Zo0 w W0 Q v z):=Za ⟨b0,hz,by have:=h.o;omega,fun g q=>by have:=(h.own.lt g q).2;omega⟩;have NO:=Za (Mu H0);have RG:=Za (Zn8 (w:=W0) s hx rfl);obtain⟨k0,hk0⟩:∃k0:Int,(if (Tg (sbs s)).2 then (0:Int) else 250)=k0:=⟨_,rfl⟩;rw[hk0] at RG;have DD:=Za (fun W (q:Ext W0 W)=>hd W (H0.ext q));have X0:=Za x0;obtain⟨ek,et,⟨oc,oh,oa,ob,ov⟩,ew,em⟩:=x;unfold enV at RG DD
 (try simp only at RG DD)
 clear h hx hd b0 x0 hk0 H0;go_enter func9,ntmps9;go_wp2_with fail;refine(NO.out).zz ?_;go_wp2_with fail;refine RG.out.ze fun w1 x1=>?_;obtain⟨W2,hW2,b2,x2⟩:=newBox w1 38 [.int .u8 ek,et,.int .u8 oc,.int .u64 oh,oa,ob,.int .u64 ov,ew,.int .u8 em];have D2:=Za (DD.out W2 (x1.trans x2));have F2:=Za (F0.out.ext (x1.trans x2));have X2:=Za (X0.out.trans (x1.trans x2));obtain⟨k0,k1,k2,k3,k4,k5,k6,k7,k8⟩:=b2.k9;clear x1 x2 b2 RG DD NO F0;go_wp2_with fail;refine D2.out.ze fun w3 q3=>?_;obtain⟨W4,hW4,b4,x4⟩:=newBox w3 44 [(0:Int),(0:Int),.int .u64 0,.int .u64 0,(0:Int),(0:Int),(0:Int),(0:Int),false];have c3:Chg (Q.mcP v) W2 w3:=by obtain⟨_,_,_,q,_⟩:=q3;exact q
 have b5:=b4.put9 (.int .i64 0) (.int .i64 0) (.int .u64 0) (.int .u64 0) (.int .i64 0) (.int .i64 0) (.int .i64 0) (.int .i64 0) (.bool false);have x5:=(Xs W4 w3.heap.size (.int .i64 0) (.int .i64 0) (.int .u64 0) (.int .u64 0) (.int .i64 0) (.int .i64 0) (.int .i64 0) (.int .i64 0) (.bool false)).over x4 (fun k e=>by have e1:k=w3.heap.size:=e;omega);obtain⟨W5,hW5⟩:=Zb (put9 W4 w3.heap.size (.int .i64 0) (.int .i64 0) (.int .u64 0) (.int .u64 0) (.int .i64 0) (.int .i64 0) (.int .i64 0) (.int .i64 0) (.bool false));rw[hW5] at b5 x5;unfold put9 at hW5;have F4:=Za ((F2.out.go c3).ext x5);have Q4:=Za ((q3.ext x5).from X2.out);obtain⟨g0,g1,g2,g3,g4,g5,g6,g7,g8⟩:=b4.g9;obtain⟨u0,u1,u2,u3,u4,u5,u6,u7,u8⟩:=b4.k9;obtain⟨k0,k1,k2,k3,k4,k5,k6,k7,k8⟩:=b5.k9;obtain⟨r0,r1,r2,r3,r4,r5,r6,r7,r8⟩:=F4.out.r.k9;obtain⟨f0,f1,f2,f3,f4,f5,f6,f7,f8⟩:=F4.out.r.g9;have r9:=(F4.out.r.put9 (.int .i64 0) (.int .i64 0) (.int .u64 0) (.int .u64 0) (.int .i64 0) (.int .i64 0) (.int .i64 0) (.int .i64 0) (.bool false)).read9;have cx:=Xs W5 z (.int .i64 0) (.int .i64 0) (.int .u64 0) (.int .u64 0) (.int .i64 0) (.int .i64 0) (.int .i64 0) (.int .i64 0) (.bool false);have FQ:=Za (Q4.out.box cx (by have:=F4.out.o;omega) (fun g e=>by have:=F4.out.o.2.2 g e;omega) (by have:=F4.out.o.1;omega));have R9:=Za r9;clear q3 c3 x4 b4 D2 F2 X2 hW0 hW2 F4 Q4 r9 cx b5 x5;go_wp2_with fail;have r9:=R9.out;refine bodyPost_ret (v:=.tuple #[.agg #[(0:Int),(0:Int),.int .u64 0,.int .u64 0,(0:Int),(0:Int),(0:Int),(0:Int),false],false]) (by simp[results,results9,go_sem,r9.c0,r9.c1,r9.c2,r9.c3,r9.c4,r9.c5,r9.c6,r9.c7,r9.c8]) rfl ?_;exact⟨rfl,FQ.out⟩
end
section
variable{w w' W W':World}{Q:MB}{c:Zh}{t n a d:Nat}{X:Nat→HP}{ws:List Int}{L:List (Int × Sn)}{v:Value}
theorem Zez{bs:List Int}(hb:BOk bs)(hl:bs.length=27):Zvu (Zgn bs):=
 ⟨hb 2 (by omega),Jt hb 8 (by omega) (by decide),Jt hb 8 (by omega) (by decide)⟩
def Zj1(c:Zh)(bs:List Int):Prop:=(Tg bs).2=true∧(Tg bs).1.kind=1∧(Tg bs).1.tenant<(c.ts.length:Int)
theorem Zoa{bs:List Int}(h:Zj1 c bs):bs.length=27∧(Tg bs).1=Zjn bs:=by
 obtain⟨h1,h2,h3⟩:=h;unfold Tg at h1 h2 ⊢;split at h2
 ·cases h2
 ·rename_i h0;rw[if_neg h0] at h1;split at h2
  ·rename_i h4;rw[if_neg h0,if_pos h4];exact⟨h4.1,rfl⟩
  ·cases h2
theorem Ev{s:ByteArray}(h:Ts w Q c n X ws L v)(hl:L.length≤900)(ht:t<c.ts.length)(hs:(sbs s).length=27)(hx:(Tg (sbs s)).1=Zjn (sbs s))(hn:nth (sbs s) 1=(t:Int))(hk:Wo c n a d X ws)(ha:a+1≤1048576)(hd:d+4≤1048576) :
  Calls prog 9 #[Q.zb,.string s] w fun e w'=>∃p,e=.returned (.tuple #[Ul p,true])∧DoR w Q c n L v (fun X' ws' p=>∃(f:Int) (r:HP × Sn),hDo c t n c.gens fuel f (X t) (Zgn (sbs s))=r∧p=((t:Int),r.2)∧X'=Ol X t r.1∧ws'=r.1.y.ws) w' p:=
 Kv h hl hx fun W hW=>by
  have e:Zjn (sbs s)=⟨1,(t:Int),Zgn (sbs s),0,0⟩:=by unfold Zjn;rw[hn]
  rw[e];refine(Zb8 hW ht (Zez (Ro s) hs) hk ha hd).mono fun e w' q=>?_
  obtain⟨s',q1,f,r,q2,q3,q4,q5⟩:=q;exact⟨_,q1,_,_,q4,q5,f,r,q2,by rw[q3],rfl,rfl⟩
structure Zyi(w:World)(Q:MB)(c:Zh)(n a d:Nat)(X:Nat→HP)(L:List (Int × Sn))(v:Value)(W:World):Prop where
 ex:∃X' ws' L' v',Ts W Q c n X' ws' L' v'∧Chg (Q.mcP v) w W∧(∀k,k<w.heap.size→some k≠v.ownBlock→some k≠v'.ownBlock)∧Wo c n a d X' ws'∧(∀t,t<c.ts.length→Hr c t n a d (X t) (X' t))∧L'.length≤L.length+1∧∀t:Nat,Bn L' (t:Int)=Bn L (t:Int)
theorem Ze0{s:ByteArray}(h:Ts w Q c n X ws L v)(hl:L.length≤900)(hs:¬Zj1 c (sbs s))(hk:Wo c n a d X ws) :
  Calls prog 9 #[Q.zb,.string s] w fun e w'=>(∃p b,e=.returned (.tuple #[Ul p,.bool b]))∧Zyi w Q c n a d X L v w':=by
 have bo:=Ro s;have seen:(∀W,Ts W Q c n X ws L v→Calls prog 39 #[Q.zb,enV (Tg (sbs s)).1] W fun e w'=>e=.returned (.tuple #[Ul (Mv 250),true])∧Eu W Q c n a d X L v w') →
   Calls prog 9 #[Q.zb,.string s] w fun e w'=>(∃p b,e=.returned (.tuple #[Ul p,.bool b]))∧Zyi w Q c n a d X L v w':=fun hd=>by
  refine(Kv (Ψ:=fun X' ws' p=>p=Mv 250∧Wo c n a d X' ws'∧∀t,t<c.ts.length→Hr c t n a d (X t) (X' t)) h hl rfl fun W hW=>(hd W hW).mono fun e w' q=>?_).mono fun e w' q=>?_
  ·obtain⟨q1,X',ws',q2,q3,q4,q5⟩:=q;exact⟨_,q1,X',ws',q2,q3,rfl,q4,q5⟩
  ·obtain⟨p,q1,X',ws',v',q2,q3,q4,q5,q6,q7⟩:=q;subst q5;exact⟨⟨_,_,q1⟩,X',ws',_,v',q2,q3,q4,q6,q7,by simp,fun t=>by rw[Ep,if_neg (by unfold Mv;simp only;omega)]⟩
 by_cases k1:(Tg (sbs s)).1.kind=1
 ·refine seen fun W hW=>Bx hW hk k1 ?_ ?_
  ·unfold Tg;split
   ·exact Int.le_refl _
   ·split
    ·rename_i q;exact(bo 1 (by omega)).1
    ·exact Int.le_refl _
  ·apply Decidable.byContradiction
   intro q;refine hs ⟨?_,k1,by omega⟩;unfold Tg at k1 ⊢;split
   ·rfl
   ·rename_i q0;rw[if_neg q0] at k1;split
    ·rfl
    ·rename_i q1;rw[if_neg q1] at k1;cases k1
 ·by_cases k2:(Tg (sbs s)).1.kind=2
  ·refine(Zb9 h rfl fun W hW=>Gt hW hk k2 ?_).mono fun e w' q=>?_
   ·unfold Tg;split
    ·rename_i q;exact bo 2 (by omega)
    ·split
     ·exact⟨Int.le_refl _,by show(0:Int)<256;decide⟩
     ·exact⟨Int.le_refl _,by show(0:Int)<256;decide⟩
   ·obtain⟨q1,X',ws',q2,q3,q4,q5⟩:=q;exact⟨⟨(0,sn0),_,q1⟩,X',ws',L,v,q2,q3,fun _ _ q=>q,q4,q5,by omega,fun t=>rfl⟩
  ·exact seen fun W hW=>Hx hW hk k1 k2
end
def Gu(g:List (List Int))(n:Nat):List Int:=g.getD n []
def Zvv(g:List (List Int))(fr:List Int):List Int:=(List.range g.length).map fun (n:Nat)=>if fr.any (fun x=>x==(n:Int)) then 0 else -1
def Zj2(N:Nat)(d:Int)(n:Nat):List Int→List Int→List Int
 | [],o=>o
 | tq :: r,o=>if nth o n=d then Zj2 N d n r (if 0≤tq∧tq<(N:Int)∧nth o tq.toNat<0 then o.set tq.toNat (d+1) else o) else o
def Ze1(g:List (List Int))(d:Int):List Nat→List Int→List Int
 | [],o=>o
 | n :: r,o=>Ze1 g d r (Zj2 g.length d n (Gu g n) o)
def Zu9(g:List (List Int)):List Nat→List Int→List Int
 | [],o=>o
 | d :: r,o=>Zu9 g r (Ze1 g (d:Int) (List.range g.length) o)
def V7(g:List (List Int))(fr:List Int):List Int:=Zu9 g (List.range g.length) (Zvv g fr)
def Sc(g:List (List Int))(fr:List Int):List Bool:=(V7 g fr).map fun d=>decide (0≤d)
structure Ze2(N:Nat)(d:Int)(o o':List Int):Prop where
 l0:o.length=N
 l1:o'.length=N
 or:∀k,k<N→nth o' k=nth o k∨(nth o k<0∧nth o' k=d+1)
theorem Ze2.refl{N:Nat}{d:Int}{o:List Int}(h:o.length=N):Ze2 N d o o:=⟨h,h,fun _ _=>.inl rfl⟩
theorem Ze2.trans{N:Nat}{d:Int}{o p q:List Int}(hd:0≤d)(h:Ze2 N d o p)(k:Ze2 N d p q):Ze2 N d o q:=
 ⟨h.l0,k.l1,fun j hj=>by rcases h.or j hj with a|a<;>rcases k.or j hj with b|b<;>omega⟩
theorem Ze2.keep{N:Nat}{d:Int}{o p:List Int}(h:Ze2 N d o p){k:Nat}(hk:k<N)(h0:0≤nth o k):nth p k=nth o k:=by
 rcases h.or k hk with a|a<;>omega
theorem Zgq{xs:List Int}{i j:Nat}{v:Int}(h:i<xs.length):nth (xs.set i v) j=if j=i then v else nth xs j:=by
 unfold nth;by_cases e:j=i
 ·subst e;simp[h]
 ·rw[if_neg e,List.getD,List.getD,List.getElem?_set_ne (Ne.symm e)]
theorem Zob{N:Nat}{d:Int}{n:Nat}(hd:0≤d)(hn:n<N):∀(es:List Int) {o:List Int},o.length=N →
  Ze2 N d o (Zj2 N d n es o)∧(nth o n=d→∀tq∈es,0≤tq→tq<(N:Int)→0≤nth (Zj2 N d n es o) tq.toNat)∧(nth o n≠d→Zj2 N d n es o=o)
 | [],o,hl=>⟨Ze2.refl hl,fun _ tq h=>(by cases h),fun _=>rfl⟩
 | tq :: r,o,hl=>by
  unfold Zj2;by_cases q:nth o n=d
  ·rw[if_pos q];obtain⟨o1,ho1⟩:=Zb ((if 0≤tq∧tq<(N:Int)∧nth o tq.toNat<0 then o.set tq.toNat (d+1) else o));have g1:Ze2 N d o o1∧(0≤tq→tq<(N:Int)→0≤nth o1 tq.toNat):=by
    rw[←ho1];split
    ·rename_i z;refine⟨⟨hl,by rw[List.length_set];exact hl,fun k hk=>?_⟩,fun _ _=>?_⟩
     ·rw[Zgq (by omega)];split
      ·rename_i e;subst e;exact .inr ⟨z.2.2,rfl⟩
      ·exact .inl rfl
     ·rw[Zgq (by omega),if_pos rfl];omega
    ·rename_i z;exact⟨Ze2.refl hl,fun a b=>by omega⟩
   rw[ho1];obtain⟨i1,i2,i3⟩:=Zob hd hn r (o:=o1) g1.1.l1;have q1:nth o1 n=d:=by rw[g1.1.keep hn (by omega)];exact q
   refine⟨g1.1.trans hd i1,fun _ t ht a b=>?_,fun e=>absurd q e⟩;rcases List.mem_cons.1 ht with rfl|h
   ·have:=g1.2 a b;rw[i1.keep (by omega) this];exact this
   ·exact i2 q1 t h a b
  ·rw[if_neg q];exact⟨Ze2.refl hl,fun e=>absurd e q,fun _=>rfl⟩
theorem Zoc{g:List (List Int)}{d:Int}(hd:0≤d):∀(ns:List Nat) {o:List Int},(∀n∈ns,n<g.length)→o.length=g.length →
  Ze2 g.length d o (Ze1 g d ns o)∧(∀n∈ns,nth o n=d→∀tq∈Gu g n,0≤tq→tq<(g.length:Int)→0≤nth (Ze1 g d ns o) tq.toNat) ∧
  ((∀k,k<g.length→nth o k≠d)→Ze1 g d ns o=o)
 | [],o,_,hl=>⟨Ze2.refl hl,fun n h=>(by cases h),fun _=>rfl⟩
 | n :: r,o,hm,hl=>by
  unfold Ze1;obtain⟨e1,e2,e3⟩:=Zob (N:=g.length) hd (hm n (List.mem_cons_self ..)) (Gu g n) hl;obtain⟨i1,i2,i3⟩:=Zoc hd r (o:=Zj2 g.length d n (Gu g n) o) (fun m h=>hm m (List.mem_cons_of_mem _ h)) e1.l1;refine⟨e1.trans hd i1,fun m hmm hv tq ht a b=>?_,fun hno=>?_⟩
  ·rcases List.mem_cons.1 hmm with rfl|h
   ·have:=e2 hv tq ht a b;rw[i1.keep (by omega) this];exact this
   ·refine i2 m h ?_ tq ht a b;rw[e1.keep (hm m hmm) (by omega)];exact hv
  ·have e:=e3 (hno n (hm n (List.mem_cons_self ..)));rw[e] at i3 ⊢;exact i3 hno
structure Zva(g:List (List Int))(fr:List Int)(d:Nat)(o:List Int):Prop where
 len:o.length=g.length
 hi:∀k,k<g.length→-1≤nth o k∧nth o k≤d
 all:∀k v,k<g.length→0≤v→v≤nth o k→∃j,j<g.length∧nth o j=v
 clo:∀k,k<g.length→0≤nth o k→nth o k<d→∀tq∈Gu g k,0≤tq→tq<(g.length:Int)→0≤nth o tq.toNat
 fr:∀k,k<g.length→(k:Int)∈fr→0≤nth o k
theorem Zva.next{g:List (List Int)}{fr:List Int}{d:Nat}{o:List Int}(h:Zva g fr d o):Zva g fr (d+1) (Ze1 g (d:Int) (List.range g.length) o):=by
 obtain⟨e1,e2,e3⟩:=Zoc (g:=g) (d:=(d:Int)) (by omega) (List.range g.length) (o:=o) (fun n hn=>List.mem_range.1 hn) h.len;refine⟨e1.l1,fun k hk=>?_,fun k v hk hv hle=>?_,fun k hk h0 h1 tq ht a b=>?_,fun k hk hf=>?_⟩
 ·have:=h.hi k hk;rcases e1.or k hk with q|q<;>omega
 ·by_cases z:∀j,j<g.length→nth o j≠d
  ·rw[e3 z] at hle ⊢;exact h.all k v hk hv hle
  ·have old:∀v,0≤v→(∃j,j<g.length∧nth o j=v)→∃j,j<g.length∧nth (Ze1 g (d:Int) (List.range g.length) o) j=v:=fun v hv ⟨j,hj,e⟩=>⟨j,hj,by rw[e1.keep hj (by omega)];exact e⟩
   obtain⟨m,hm⟩:=Classical.not_forall.1 z;have hm1:m<g.length∧nth o m=d:=⟨Decidable.byContradiction fun q=>hm fun a=>absurd a q,Decidable.byContradiction fun q=>hm fun _=>q⟩;rcases e1.or k hk with q|q
   ·exact old v hv (h.all k v hk hv (by omega))
   ·by_cases e:v=d+1
    ·exact⟨k,hk,by omega⟩
    ·exact old v hv (h.all m v hm1.1 hv (by omega))
 ·have up:0≤nth o tq.toNat→0≤nth (Ze1 g (d:Int) (List.range g.length) o) tq.toNat:=fun q=>by rw[e1.keep (by omega) q];exact q
  rcases e1.or k hk with q|q
  ·by_cases z:nth o k=d
   ·exact e2 k (List.mem_range.2 hk) z tq ht a b
   ·exact up (h.clo k hk (by omega) (by omega) tq ht a b)
  ·omega
 ·have:=h.fr k hk hf;rw[e1.keep hk this];exact this
theorem Zod{g:List (List Int)}{fr:List Int}:∀(m d:Nat) {o:List Int},Zva g fr d o→Zva g fr (d+m) (Zu9 g (List.range' d m) o)
 | 0,d,o,h=>h
 | m+1,d,o,h=>by
  rw[List.range'_succ];have:=Zod m (d+1) h.next;rw[show d+(m+1)=d+1+m by omega];exact this
theorem By{g:List (List Int)}{fr:List Int}{k:Nat}(hk:k<g.length):nth (Zvv g fr) k=if (k:Int)∈fr then 0 else -1:=by
 have e:nth (Zvv g fr) k=if fr.any (fun x=>x==(k:Int)) then 0 else -1:=by
  unfold nth Zvv;simp[List.getD,hk]
 rw[e];by_cases q:(k:Int)∈fr
 ·rw[if_pos q,if_pos (List.any_eq_true.2 ⟨_,q,by simp⟩)]
 ·rw[if_neg q,if_neg (fun z=>by obtain⟨x,h1,h2⟩:=List.any_eq_true.1 z;simp at h2;subst h2;exact q h1)]
theorem Zvb(g:List (List Int))(fr:List Int):Zva g fr 0 (Zvv g fr):=by
 refine⟨by simp[Zvv],fun k hk=>?_,fun k v hk hv hle=>?_,fun k hk h0 h1=>by omega,fun k hk hf=>?_⟩
 ·rw[By hk];split<;>omega
 ·refine⟨k,hk,?_⟩;rw[By hk] at hle ⊢;by_cases q:(k:Int)∈fr
  ·rw[if_pos q] at hle ⊢;omega
  ·rw[if_neg q] at hle;omega
 ·rw[By hk,if_pos hf];exact Int.le_refl _
theorem Zoe{f g:Nat→Nat}{i:Nat}:∀n,i<n→(∀j,j<n→f j≤g j)→f i<g i→Se f n<Se g n:=by
 intro n
 induction n with
 | zero=>intro h;omega
 | succ n ih=>
  intro h hle hlt;show Se f n+f n<Se g n+g n
  by_cases e:i=n
  ·subst e;have:=Cl (f:=f) (g:=g) i (fun j hj=>hle j (by omega));omega
  ·have:=ih (by omega) (fun j hj=>hle j (by omega)) hlt;have:=hle n (by omega);omega
theorem Zjp{N:Nat}{f:Nat→Int}(h:∀v:Nat,v≤N→∃k,k<N∧f k=v):False:=by
 have key:∀j:Nat,j≤N+1→j≤Se (fun k=>if 0≤f k∧f k<(j:Int) then 1 else 0) N:=by
  intro j
  induction j with
  | zero=>intro _;exact Nat.zero_le _
  | succ j ih=>
   intro hj;obtain⟨k,hk,e⟩:=h j (by omega);have h1:=ih (by omega);have h2:=Zoe (f:=fun k=>if 0≤f k∧f k<(j:Int) then 1 else 0) (g:=fun k=>if 0≤f k∧f k<((j+1:Nat):Int) then 1 else 0) N hk (fun i _=>by
    (try simp only)
    by_cases a:0≤f i∧f i<(j:Int)
    ·rw[if_pos a,if_pos (by omega)];exact Zy1 _
    ·rw[if_neg a];exact Nat.zero_le _) (by
    (try simp only)
    rw[if_neg (by omega),if_pos (by omega)];exact Nat.one_pos)
   omega
 have h1:=key (N+1) (Zy1 _);have h2:=Cl (f:=fun k=>if 0≤f k∧f k<((N+1:Nat):Int) then 1 else 0) (g:=fun _=>1) N (fun i _=>by (try simp only);split<;>omega);rw[Uj] at h2;omega
theorem Hy(g:List (List Int))(fr:List Int):(V7 g fr).length=g.length∧(∀k,k<g.length→(k:Int)∈fr→0≤nth (V7 g fr) k) ∧
  ∀k,k<g.length→0≤nth (V7 g fr) k→∀tq∈Gu g k,0≤tq→tq<(g.length:Int)→0≤nth (V7 g fr) tq.toNat:=by
 have h:=Zod (g:=g) (fr:=fr) g.length 0 (Zvb g fr);rw[Nat.zero_add,←List.range_eq_range'] at h;change Zva g fr g.length (V7 g fr) at h;refine⟨h.len,h.fr,fun k hk h0 tq ht a b=>?_⟩;by_cases z:nth (V7 g fr) k<(g.length:Int)
 ·exact h.clo k hk h0 z tq ht a b
 ·exfalso
  refine Zjp (N:=g.length) (f:=nth (V7 g fr)) fun v hv=>?_
  exact h.all k v hk (by omega) (by omega)
theorem Ze3(g:List (List Int))(fr:List Int):(Sc g fr).length=g.length:=by unfold Sc;rw[List.length_map];exact(Hy g fr).1
theorem Ze4{g:List (List Int)}{fr:List Int}{k:Nat}(hk:k<g.length):Zu (Sc g fr) k=decide (0≤nth (V7 g fr) k):=by
 have:=(Hy g fr).1;unfold Zu Sc nth;simp[List.getD,show k<(V7 g fr).length by omega]
end Go.Proofs.YtfcldaembdedjaaGreatDoor
