/-
  Parts of the proof of TopCycles: Hp4, Hp5, Hp6, Hp7, Hp8.
-/
import Derived.Test.YtfcldaembdedjaaGreatDoorQ11
set_option linter.unusedVariables false
set_option linter.unusedSimpArgs false
set_option maxRecDepth 100000
set_option maxHeartbeats 16000000
namespace Go.Proofs.YtfcldaembdedjaaGreatDoor
open Go.RowKit Tryz
section
variable{w w':World}{H:HB}{c:Zh}{t n a d F:Nat}{x x':HP}
def L6(o:OpI):List Value:=[.int .u8 o.code,.int .u64 o.h,.int .i64 o.a,.int .i64 o.b,.int .u64 o.v]
def opV(o:OpI):Value:=.agg #[.int .u8 o.code,.int .u64 o.h,o.a,o.b,.int .u64 o.v]
def snV(s:Sn):Value:=.agg #[s.e,.int .u64 s.h,.int .u64 s.w,s.addr,s.used,s.since,s.cyc,.bool s.act]
def Nl:List Value:=[.int .i64 0,.int .u64 0,.int .u64 0,.int .i64 0,.int .i64 0,.int .i64 0,.int .i64 0,.bool false]
abbrev put8(W:World)(z:Nat)(v0 v1 v2 v3 v4 v5 v6 v7:Value):World:=
 (((((((W.setCell z v0).setCell ⟨z,1,none⟩ v1).setCell ⟨z,2,none⟩ v2).setCell ⟨z,3,none⟩ v3).setCell ⟨z,4,none⟩ v4).setCell ⟨z,5,none⟩ v5).setCell ⟨z,6,none⟩ v6).setCell ⟨z,7,none⟩ v7
theorem Zn.put8{W:World}{z:Nat}{u0 u1 u2 u3 u4 u5 u6 u7:Value}(h:Zn W z [u0,u1,u2,u3,u4,u5,u6,u7])(v0 v1 v2 v3 v4 v5 v6 v7:Value):Zn (put8 W z v0 v1 v2 v3 v4 v5 v6 v7) z [v0,v1,v2,v3,v4,v5,v6,v7]:=
 (((((((h.set (i:=0) (by show 0<8;decide) v0).set (i:=1) (by show 1<8;decide) v1).set (i:=2) (by show 2<8;decide) v2).set (i:=3) (by show 3<8;decide) v3).set (i:=4) (by show 4<8;decide) v4).set (i:=5) (by show 5<8;decide) v5).set (i:=6) (by show 6<8;decide) v6).set (i:=7) (by show 7<8;decide) v7
theorem Tn(W:World)(z:Nat)(v0 v1 v2 v3 v4 v5 v6 v7:Value):Chg (fun k=>k=z) W (put8 W z v0 v1 v2 v3 v4 v5 v6 v7):=
 (((((((Wn W z 0 v0).trans (Wn _ z 1 v1)).trans (Wn _ z 2 v2)).trans (Wn _ z 3 v3)).trans (Wn _ z 4 v4)).trans (Wn _ z 5 v5)).trans (Wn _ z 6 v6)).trans (Wn _ z 7 v7)
structure OpW(w W:World)(H:HB)(c:Zh)(t n:Nat)(x':HP)(z:Nat)(o:OpI):Prop where
 at_:Zv W H c t n x'
 b0:Zn W z (L6 o)
 b1:Zn W (z+1) Nl
 ch:Chg H.hpP w W
theorem Zv.off(h:Zv w H c t n x){k:Nat}(hk:H.hi≤k):¬H.hpP k:=fun q=>by
 have:=h.yb;have:=h.ord.q;unfold HB.hpP at q;omega
variable{W W':World}{z:Nat}{o:OpI}
theorem OpW.go{x2:HP}(h:OpW w W H c t n x' z o)(hz:H.hi≤z)(hx:Chg H.hpP W W')(ha:Zv W' H c t n x2):OpW w W' H c t n x2 z o:=
 ⟨ha,h.b0.chg hx (h.at_.off hz),h.b1.chg hx (h.at_.off (by omega)),h.ch.trans hx⟩
theorem OpW.ext(h:OpW w W H c t n x' z o)(hx:Ext W W')(hz:H.hi≤z):OpW w W' H c t n x' z o:=h.go hz (Zy3 hx) (h.at_.ext hx)
theorem OpW.fin(h:OpW w W H c t n x' z o)(hz:H.hi≤z∧w.heap.size≤z)(v0 v1 v2 v3 v4 v5 v6 v7:Value) :
  (put8 W (z+1) v0 v1 v2 v3 v4 v5 v6 v7).cell? ⟨z+1,0,none⟩=some v0∧(put8 W (z+1) v0 v1 v2 v3 v4 v5 v6 v7).cell? ⟨z+1,1,none⟩=some v1∧(put8 W (z+1) v0 v1 v2 v3 v4 v5 v6 v7).cell? ⟨z+1,2,none⟩=some v2 ∧
  (put8 W (z+1) v0 v1 v2 v3 v4 v5 v6 v7).cell? ⟨z+1,3,none⟩=some v3∧(put8 W (z+1) v0 v1 v2 v3 v4 v5 v6 v7).cell? ⟨z+1,4,none⟩=some v4∧(put8 W (z+1) v0 v1 v2 v3 v4 v5 v6 v7).cell? ⟨z+1,5,none⟩=some v5 ∧
  (put8 W (z+1) v0 v1 v2 v3 v4 v5 v6 v7).cell? ⟨z+1,6,none⟩=some v6∧(put8 W (z+1) v0 v1 v2 v3 v4 v5 v6 v7).cell? ⟨z+1,7,none⟩=some v7 ∧
  Zv (put8 W (z+1) v0 v1 v2 v3 v4 v5 v6 v7) H c t n x'∧Chg H.hpP w (put8 W (z+1) v0 v1 v2 v3 v4 v5 v6 v7):=by
 have q:=h.b1.put8 v0 v1 v2 v3 v4 v5 v6 v7;have cx:=Tn W (z+1) v0 v1 v2 v3 v4 v5 v6 v7;refine⟨q.c 0 _ rfl,q.c 1 _ rfl,q.c 2 _ rfl,q.c 3 _ rfl,q.c 4 _ rfl,q.c 5 _ rfl,q.c 6 _ rfl,q.c 7 _ rfl,h.at_.chg cx (fun k hk e=>by have e1:k=z+1:=e;omega),h.ch.new (cx.mono fun k e=>by have e1:k=z+1:=e;omega)⟩
theorem OpW.new(h:Zv w H c t n x)(o:OpI)(T U:TypeId)(hz:w.heap.size=z):∃W0,(w.alloc (.cells #[.int .u8 o.code,.int .u64 o.h,o.a,o.b,.int .u64 o.v] T)).alloc (.cells #[(0:Int),.int .u64 0,.int .u64 0,(0:Int),(0:Int),(0:Int),(0:Int),false] U)=W0∧OpW w W0 H c t n x z o∧Ext w W0:=by
 have e:∀(W:World) (o:Obj),Ext W (W.alloc o):=fun W o=>(Zy2 W).alloc _
 refine⟨_,rfl,⟨h.ext ((e _ _).trans (e _ _)),(Zn.new w (L6 o) T hz).ext (e _ _),Zn.new _ Nl U (by simp[hz]),Zy3 ((e _ _).trans (e _ _))⟩,(e _ _).trans (e _ _)⟩
theorem Zup(h:Zv w H c t n x){s:Int}{o:OpI} :
  Calls prog 235 #[H.hb,opV o,.int .i64 s] w fun e w'=>e=.returned (snV (K5 x s).2)∧Zv w' H c t n (K5 x s).1∧Chg H.hpP w w':=by
 obtain⟨z,hz⟩:=Zb (w.heap.size);obtain⟨W0,hW0,o0,x0⟩:=OpW.new h o 36 42 hz;have HZ:Hid (H.hi≤z∧w.heap.size≤z):=Za ⟨by have:=h.top;omega,by omega⟩;obtain⟨oc,oh,oa,ob,ov⟩:=o;have O0:=Za o0;obtain⟨k0,k1,k2,k3,k4⟩:=o0.b0.k5;obtain⟨q0,q1,q2,q3,q4,q5,q6,q7⟩:=o0.b1.k8;obtain⟨r0,r1,r2,r3,r4,r5,r6,r7⟩:=o0.b1.g8;have c7:=o0.at_.box.c 7 _ rfl;unfold opV;obtain⟨ms',k,hp⟩:∃ms' k,Ty false x.y.ms s=(ms',k):=⟨_,_,rfl⟩;have ER:K5 x s=({ x with y:={ x.y with ms:=ms' } },Z9 k):=by unfold K5;rw[hp]
 rw[ER];have PN:=Za (Jq o0.at_.cy);have PI:Hid (Calls prog 287 #[H.B.nb,.int .i64 s] W0 fun e W'=>e=.returned (.int .i64 k)∧OpW w W' H c t n { x with y:={ x.y with ms:=ms' } } z ⟨oc,oh,oa,ob,ov⟩):=
  Za ((Zqx x.y.ms ms' k o0.at_.cy.i.k.pin hp).mono fun e W' q=>by
   have hl:ms'.length=x.y.ms.length:=by have:=Hp false x.y.ms s;rw[hp] at this;exact this
   obtain⟨a1,b1⟩:=o0.at_.cy.i.pinTo q.2.1 q.2.2 (fun j e=>e.2) hl;obtain⟨a2,b2⟩:=o0.at_.cy.inTo a1 b1 rfl rfl o0.at_.cy.le;obtain⟨a3,b3⟩:=o0.at_.cyTo a2 b2;exact⟨q.1,o0.go HZ.out.1 b3 a3⟩)
 clear ER hp;clear o0 x0 h q0 q1 q2 q3 q4 q5 q6 q7 r0 r1 r2 r3 r4 r5 r6 r7;go_enter func235,ntmps235;go_wp2_with fail;refine(PN.out).zz ?_;go_wp2_with fail;refine PI.out.ze fun w1 o1=>?_;have O1:=Za o1;clear o1;go_wp2_with fail;refine(Xm (k:=k)).ze fun wT xT=>?_;have QT:=Za (O1.out.ext xT HZ.out.1);obtain⟨q0,q1,q2,q3,q4,q5,q6,q7⟩:=QT.out.b1.k8;obtain⟨r0,r1,r2,r3,r4,r5,r6,r7⟩:=QT.out.b1.g8;clear xT;go_wp2_with fail;obtain⟨p0,p1,p2,p3,p4,p5,p6,p7,hfa,hfc⟩:=QT.out.fin HZ.out (.int .i64 k) (.int .u64 0) (.int .u64 0) (.int .i64 0) (.int .i64 0) (.int .i64 0) (.int .i64 0) (.bool false);refine bodyPost_ret (v:=.agg #[.int .i64 k,.int .u64 0,.int .u64 0,(0:Int),(0:Int),(0:Int),(0:Int),false]) (by simp[results,results235,go_sem,p0,p1,p2,p3,p4,p5,p6,p7]) rfl ?_;exact⟨rfl,hfa,hfc⟩
theorem Zni(h:Zv w H c t n x){s:Int}{o:OpI} :
  Calls prog 236 #[H.hb,opV o,.int .i64 s] w fun e w'=>e=.returned (snV (Wm c t n x s).2)∧Zv w' H c t n (Wm c t n x s).1∧Chg H.hpP w w':=by
 obtain⟨z,hz⟩:=Zb (w.heap.size);obtain⟨W0,hW0,o0,x0⟩:=OpW.new h o 36 42 hz;have HZ:Hid (H.hi≤z∧w.heap.size≤z):=Za ⟨by have:=h.top;omega,by omega⟩;obtain⟨oc,oh,oa,ob,ov⟩:=o;have O0:=Za o0;obtain⟨k0,k1,k2,k3,k4⟩:=o0.b0.k5;obtain⟨q0,q1,q2,q3,q4,q5,q6,q7⟩:=o0.b1.k8;obtain⟨r0,r1,r2,r3,r4,r5,r6,r7⟩:=o0.b1.g8;have c7:=o0.at_.box.c 7 _ rfl;unfold opV;obtain⟨m,hm⟩:=Zb (Lp x.y.ms s);have PN:=Za (fun W x' (q:OpW w W H c t n x' z ⟨oc,oh,oa,ob,ov⟩)=>Jq q.at_.cy);have CO:=Za (Pw x.y.ms m o0.at_.cy.i.k.pin hm);by_cases h0:m=0
 ·have ER:Wm c t n x s=(x,Z9 140):=by unfold Wm;rw[if_pos (by rw[hm];exact h0)]
  rw[ER];subst h0;clear ER hm;clear o0 x0 h q0 q1 q2 q3 q4 q5 q6 q7 r0 r1 r2 r3 r4 r5 r6 r7;go_enter func236,ntmps236;go_wp2_with fail;refine(PN.out _ _ O0.out).zz ?_;go_wp2_with fail;refine(CO.out).zz ?_;go_wp2_with fail;refine(Xm (k:=140)).ze fun wT xT=>?_;have QT:=Za (O0.out.ext xT HZ.out.1);obtain⟨q0,q1,q2,q3,q4,q5,q6,q7⟩:=QT.out.b1.k8;obtain⟨r0,r1,r2,r3,r4,r5,r6,r7⟩:=QT.out.b1.g8;clear xT;go_wp2_with fail;obtain⟨p0,p1,p2,p3,p4,p5,p6,p7,hfa,hfc⟩:=QT.out.fin HZ.out (.int .i64 140) (.int .u64 0) (.int .u64 0) (.int .i64 0) (.int .i64 0) (.int .i64 0) (.int .i64 0) (.bool false);refine bodyPost_ret (v:=.agg #[(140:Int),.int .u64 0,.int .u64 0,(0:Int),(0:Int),(0:Int),(0:Int),false]) (by simp[results,results236,go_sem,p0,p1,p2,p3,p4,p5,p6,p7]) rfl ?_;exact⟨rfl,hfa,hfc⟩
 ·have tm:(m==0)=false:=by simpa using h0
  obtain⟨ms',k,hp⟩:∃ms' k,Ty true x.y.ms s=(ms',k):=⟨_,_,rfl⟩;obtain⟨y1,hy1⟩:=Zb (Y5 c t n x.y s);have e1:y1.ms=x.y.ms:=by rw[←hy1];unfold Y5;split<;>rfl
  have ER:Wm c t n x s=({ x with y:={ y1 with ms:=ms' } },Z9 k):=by unfold Wm;rw[if_neg (by rw[hm];exact h0),hp,hy1]
  rw[ER];have SH:Hid (Calls prog 284 #[H.B.yb,.int .i64 s] W0 fun e W'=>(∃k:Int,e=.returned (.int .i64 k))∧OpW w W' H c t n { x with y:=y1 } z ⟨oc,oh,oa,ob,ov⟩):=
   Za ((Mo o0.at_.cy).mono fun e W' q=>by
    rw[hy1] at q;obtain⟨a3,b3⟩:=o0.at_.cyTo q.2.1 q.2.2;exact⟨q.1,o0.go HZ.out.1 b3 a3⟩)
  have UP:Hid (∀W,OpW w W H c t n { x with y:=y1 } z ⟨oc,oh,oa,ob,ov⟩→Calls prog 288 #[H.B.nb,.int .i64 s] W fun e W'=>e=.returned (.int .i64 k)∧OpW w W' H c t n { x with y:={ y1 with ms:=ms' } } z ⟨oc,oh,oa,ob,ov⟩):=
   Za fun W o1=>(Zik x.y.ms ms' k (by have:=o1.at_.cy.i.k.pin;rw[e1] at this;exact this) hp).mono fun e W' q=>by
    have hl:ms'.length=y1.ms.length:=by have:=Hp true x.y.ms s;rw[hp] at this;rw[e1];exact this
    obtain⟨a1,b1⟩:=o1.at_.cy.i.pinTo q.2.1 q.2.2 (fun j e=>e.2) hl;obtain⟨a2,b2⟩:=o1.at_.cy.inTo a1 b1 rfl rfl o1.at_.cy.le;obtain⟨a3,b3⟩:=o1.at_.cyTo a2 b2;exact⟨q.1,o1.go HZ.out.1 b3 a3⟩
  clear ER hm h0 hp hy1 e1;clear o0 x0 h q0 q1 q2 q3 q4 q5 q6 q7 r0 r1 r2 r3 r4 r5 r6 r7;go_enter func236,ntmps236;go_wp2_with fail;refine(PN.out _ _ O0.out).zz ?_;go_wp2_with fail;refine(CO.out).zz ?_;go_wp2_with fail;refine SH.out.mono ?_;rintro e w1 ⟨⟨k1,rfl⟩,o1⟩;have c7:=o1.at_.box.c 7 _ rfl;go_wp2_with fail;refine(PN.out _ _ o1).zz ?_;go_wp2_with fail;refine(UP.out _ o1).ze fun w2 o2=>?_;have O2:=Za o2;clear o2 o1;go_wp2_with fail;refine(Xm (k:=k)).ze fun wT xT=>?_;have QT:=Za (O2.out.ext xT HZ.out.1);obtain⟨q0,q1,q2,q3,q4,q5,q6,q7⟩:=QT.out.b1.k8;obtain⟨r0,r1,r2,r3,r4,r5,r6,r7⟩:=QT.out.b1.g8;clear xT;go_wp2_with fail;obtain⟨p0,p1,p2,p3,p4,p5,p6,p7,hfa,hfc⟩:=QT.out.fin HZ.out (.int .i64 k) (.int .u64 0) (.int .u64 0) (.int .i64 0) (.int .i64 0) (.int .i64 0) (.int .i64 0) (.bool false);refine bodyPost_ret (v:=.agg #[.int .i64 k,.int .u64 0,.int .u64 0,(0:Int),(0:Int),(0:Int),(0:Int),false]) (by simp[results,results236,go_sem,p0,p1,p2,p3,p4,p5,p6,p7]) rfl ?_;exact⟨rfl,hfa,hfc⟩
theorem Zuq(h:Zv w H c t n x){s:Int}{o:OpI} :
  Calls prog 238 #[H.hb,opV o,.int .i64 s] w fun e w'=>∃v:Int,e=.returned (snV ⟨0,0,v,0,0,0,0,false⟩)∧Zv w' H c t n x∧Chg H.hpP w w':=by
 obtain⟨z,hz⟩:=Zb (w.heap.size);obtain⟨W0,hW0,o0,x0⟩:=OpW.new h o 36 42 hz;have HZ:Hid (H.hi≤z∧w.heap.size≤z):=Za ⟨by have:=h.top;omega,by omega⟩;obtain⟨oc,oh,oa,ob,ov⟩:=o;have O0:=Za o0;obtain⟨k0,k1,k2,k3,k4⟩:=o0.b0.k5;obtain⟨q0,q1,q2,q3,q4,q5,q6,q7⟩:=o0.b1.k8;obtain⟨r0,r1,r2,r3,r4,r5,r6,r7⟩:=o0.b1.g8;have c7:=o0.at_.box.c 7 _ rfl;unfold opV;obtain⟨xs,k,hb⟩:∃xs k,Zkq c t x.y.ws s=(xs,k):=⟨_,_,rfl⟩;have BD:=Za (Oh o0.at_.cy);have WO:=Za (Zej o0.at_.cy.i.k.body hb);clear hb;clear o0 x0 h q0 q1 q2 q3 q4 q5 q6 q7 r0 r1 r2 r3 r4 r5 r6 r7;go_enter func238,ntmps238;go_wp2_with fail;refine(BD.out).zz ?_;go_wp2_with fail;refine WO.out.mono ?_;rintro e w1 ⟨aa,cap,rfl,hA,hcp,x1⟩;have O1:=Za (O0.out.ext x1 HZ.out.1);have HA:=Za hA;clear hA x1;go_wp2_with fail;refine(Zrr HA.out (by omega) hcp.1).mono ?_;rintro e w2 ⟨v,rfl,x2⟩;have QT:=Za (O1.out.ext x2 HZ.out.1);obtain⟨q0,q1,q2,q3,q4,q5,q6,q7⟩:=QT.out.b1.k8;obtain⟨r0,r1,r2,r3,r4,r5,r6,r7⟩:=QT.out.b1.g8;clear x2;go_wp2_with fail;obtain⟨p0,p1,p2,p3,p4,p5,p6,p7,hfa,hfc⟩:=QT.out.fin HZ.out (.int .i64 0) (.int .u64 0) (.int .u64 v) (.int .i64 0) (.int .i64 0) (.int .i64 0) (.int .i64 0) (.bool false);refine bodyPost_ret (v:=.agg #[(0:Int),.int .u64 0,.int .u64 v,(0:Int),(0:Int),(0:Int),(0:Int),false]) (by simp[results,results238,go_sem,p0,p1,p2,p3,p4,p5,p6,p7]) rfl ?_;exact⟨v,rfl,hfa,hfc⟩
theorem Zur(h:Zv w H c t n x){s:Int}{o:OpI}(hu:0≤o.h∧o.h<18446744073709551616) :
  Calls prog 237 #[H.hb,opV o,.int .i64 s] w fun e w'=>e=.returned (snV (Md c t n x o.h s).2)∧Zv w' H c t n (Md c t n x o.h s).1∧Chg H.hpP w w':=by
 obtain⟨z,hz⟩:=Zb (w.heap.size);obtain⟨W0,hW0,o0,x0⟩:=OpW.new h o 36 42 hz;have HZ:Hid (H.hi≤z∧w.heap.size≤z):=Za ⟨by have:=h.top;omega,by omega⟩;obtain⟨oc,oh,oa,ob,ov⟩:=o;have O0:=Za o0;obtain⟨k0,k1,k2,k3,k4⟩:=o0.b0.k5;obtain⟨q0,q1,q2,q3,q4,q5,q6,q7⟩:=o0.b1.k8;obtain⟨r0,r1,r2,r3,r4,r5,r6,r7⟩:=o0.b1.g8;have c7:=o0.at_.box.c 7 _ rfl;unfold opV;obtain⟨hd,q,hq⟩:∃hd q,Ln oh=(hd,q):=⟨_,_,rfl⟩;have GE:=Za (Zf9 oh hd q (w:=W0) hq hu.1 hu.2);obtain⟨ht,hi,hg⟩:=hd;simp only at GE;obtain⟨y1,hy1⟩:=Zb (Y5 c t n x.y s);have e1:y1.l=x.y.l:=by rw[←hy1];unfold Y5;split<;>rfl
 obtain⟨l',p,k,hr⟩:∃l' p k,Gi x.y.l hi hg=(l',p,k):=⟨_,_,_,rfl⟩;have ER:Md c t n x oh s=({ x with y:={ y1 with l:=l' } },Z9 k):=by unfold Md;simp only[hq,hr,hy1]
 have ll:l'.length=x.y.l.length:=by
  unfold Gi at hr;split at hr
  ·cases hr;exact List.length_set
  ·cases hr;rfl
 simp only;rw[ER];have SH:Hid (∀W,OpW w W H c t n x z ⟨oc,oh,oa,ob,ov⟩→Calls prog 284 #[H.B.yb,.int .i64 s] W fun e W'=>(∃k:Int,e=.returned (.int .i64 k))∧OpW w W' H c t n { x with y:=y1 } z ⟨oc,oh,oa,ob,ov⟩∧Chg H.hpP W W'):=
  Za fun W o1=>(Mo o1.at_.cy).mono fun e W' q=>by
   rw[hy1] at q;obtain⟨a3,b3⟩:=o1.at_.cyTo q.2.1 q.2.2;exact⟨q.1,o1.go HZ.out.1 b3 a3,b3⟩
 have TB:=Za (fun W x' (q:OpW w W H c t n x' z ⟨oc,oh,oa,ob,ov⟩)=>Sb q.at_.cy);have DR:Hid (∀W,OpW w W H c t n { x with y:=y1 } z ⟨oc,oh,oa,ob,ov⟩→Calls prog 289 #[H.B.tb,.int .i64 hi,.int .u32 hg] W fun e W'=>e=.returned (.tuple #[.int .i64 p,.int .i64 k])∧OpW w W' H c t n { x with y:={ y1 with l:=l' } } z ⟨oc,oh,oa,ob,ov⟩∧Chg H.hpP W W'):=
  Za fun W o1=>(Zqw (by have:=o1.at_.cy.i.k.tab;rw[e1] at this;exact this) hr).mono fun e W' q=>by
   obtain⟨a1,b1⟩:=o1.at_.cy.i.tabTo q.2.1 q.2.2 (by (try simp only);rw[ll,e1]);obtain⟨a2,b2⟩:=o1.at_.cy.inTo a1 b1 rfl rfl o1.at_.cy.le;obtain⟨a3,b3⟩:=o1.at_.cyTo a2 b2;exact⟨q.1,o1.go HZ.out.1 b3 a3,b3⟩
 clear ER hq hr hy1 e1 ll hu;clear o0 x0 h q0 q1 q2 q3 q4 q5 q6 q7 r0 r1 r2 r3 r4 r5 r6 r7;go_enter func237,ntmps237;go_wp2_with fail;refine GE.out.ze fun w1 x1=>?_;have c7:=x1.cell c7;have n7:H.hb<w1.heap.size:=Zj c7;go_wp2_with fail;obtain⟨y,hy⟩:=Zb (w1.heap.size);obtain⟨W2,hW2⟩:=Zb (w1.alloc (.cells #[.int .i64 ht,.int .i64 hi,.int .u32 hg] 332));have b2:Zn W2 y [.int .i64 ht,.int .i64 hi,.int .u32 hg]:=by rw[←hW2];exact Zn.new w1 [.int .i64 ht,.int .i64 hi,.int .u32 hg] _ hy
 have x2:Ext W0 W2:=by rw[←hW2];exact x1.alloc _
 have ly:H.hi≤y:=by have:=x1.size;have:=O0.out.at_.top;omega
 have o2:=O0.out.ext x2 HZ.out.1;have B2:=Za (And.intro b2 ly);rw[hW2,hy];clear hW2 hy b2 x2 ly n7 x1 c7 hW0 k0 k1 k2 k3 k4;refine(SH.out _ o2).mono ?_;rintro e w3 ⟨⟨k3,rfl⟩,o3,x3⟩;have b3:=B2.out.1.chg x3 (o2.at_.off B2.out.2);have O3:=Za o3;have c1:=b3.c 1 _ rfl;have c2:=b3.c 2 _ rfl;have c7:=o3.at_.box.c 7 _ rfl;have B3:=Za b3;have DR2:Hid (Calls prog 289 #[H.B.tb,.int .i64 hi,.int .u32 hg] w3.drew fun e W'=>e=.returned (.tuple #[.int .i64 p,.int .i64 k])∧OpW w W' H c t n { x with y:={ y1 with l:=l' } } z ⟨oc,oh,oa,ob,ov⟩ ∧
   (W'.cell? ⟨H.hb,7,none⟩=some (H.B.yb:Value)∧W'.cell? ⟨y,1,none⟩=some (.int .i64 hi)∧W'.cell? ⟨y,2,none⟩=some (.int .u32 hg))):=
  Za ((DR.out _ (o3.ext (Zy2 w3).drew HZ.out.1)).mono fun e W' q=>by
   have b4:=(b3.ext (Zy2 w3).drew).chg q.2.2 (o3.at_.off B2.out.2);exact⟨q.1,q.2.1,q.2.1.at_.box.c 7 _ rfl,b4.c 1 _ rfl,b4.c 2 _ rfl⟩)
 have TB2:=Za (TB.out _ _ (o3.ext (Zy2 w3).drew HZ.out.1));clear o2 o3 x3 b3;go_wp2_with fail
 go_region_held3 (fun w'=>w'.cell? ⟨H.hb,7,none⟩=some (H.B.yb:Value)∧w'.cell? ⟨y,1,none⟩=some (.int .i64 hi)∧w'.cell? ⟨y,2,none⟩=some (.int .u32 hg))
  ((first|go_keep|assumption))
  (first|(go_at_call 17;with_reducible refine TB2.out.zz ?_)|(go_at_call 289;with_reducible refine DR2.out.mono ?_;rintro e w4 ⟨rfl,o4,ca,cb,cc⟩)|fail)
 all_goals
  have O4:=Za o4;clear o4;go_wp2_with fail;refine(Xm (k:=k)).ze fun wT xT=>?_;have QT:=Za (O4.out.ext xT HZ.out.1);obtain⟨q0,q1,q2,q3,q4,q5,q6,q7⟩:=QT.out.b1.k8;obtain⟨r0,r1,r2,r3,r4,r5,r6,r7⟩:=QT.out.b1.g8;clear xT;go_wp2_with fail;obtain⟨p0,p1,p2,p3,p4,p5,p6,p7,hfa,hfc⟩:=QT.out.fin HZ.out (.int .i64 k) (.int .u64 0) (.int .u64 0) (.int .i64 0) (.int .i64 0) (.int .i64 0) (.int .i64 0) (.bool false);refine bodyPost_ret (v:=.agg #[.int .i64 k,.int .u64 0,.int .u64 0,(0:Int),(0:Int),(0:Int),(0:Int),false]) (by simp[results,results237,go_sem,p0,p1,p2,p3,p4,p5,p6,p7]) rfl ?_;exact⟨rfl,hfa,hfc⟩
end
section
variable{w w':World}{H:HB}{c:Zh}{t n a d F:Nat}{x x':HP}
theorem Zek:Zi prog 276:=Zi.mk func276 (by kernel_rfl) rfl
variable{W W':World}{z:Nat}{o:OpI}
theorem Zus(h:Zv w H c t n x){s:Int}{o:OpI}(hw:HW c t n a d F x)(hd:d+3≤1048576)(hk:x.work≤400000000) :
  Calls prog 233 #[H.hb,opV o,.int .i64 s] w fun e w'=>e=.returned (snV (Su c t n c.gens F x o.a s).2)∧Zv w' H c t n (Su c t n c.gens F x o.a s).1∧Chg H.hpP w w':=by
 obtain⟨z,hz⟩:=Zb (w.heap.size);obtain⟨W0,hW0,o0,x0⟩:=OpW.new h o 36 42 hz;have HZ:Hid (H.hi≤z∧w.heap.size≤z):=Za ⟨by have:=h.top;omega,by omega⟩;obtain⟨oc,oh,oa,ob,ov⟩:=o;have O0:=Za o0;obtain⟨k0,k1,k2,k3,k4⟩:=o0.b0.k5;obtain⟨q0,q1,q2,q3,q4,q5,q6,q7⟩:=o0.b1.k8;obtain⟨r0,r1,r2,r3,r4,r5,r6,r7⟩:=o0.b1.g8;have c7:=o0.at_.box.c 7 _ rfl;unfold opV;obtain⟨b,k,hf⟩:∃b k,Xa c t x.y s oa=(b,k):=⟨_,_,rfl⟩;have FD:=Za (Zgb o0.at_ hf);have BD:=Za (fun W (q:Ext W0 W)=>Oh (o0.ext q HZ.out.1).at_.cy);simp only;by_cases h0:k=0
 ·have h1:(Xa c t x.y s oa).2=0:=by rw[hf];exact h0
  subst h0;cases b with
  | false=>
   have h2:(Xa c t x.y s oa).1=false:=by rw[hf]
   obtain⟨u,ku,hb⟩:∃u ku,Zhh c t x.y.ws s oa=(u,ku):=⟨_,_,rfl⟩;have ER:Su c t n c.gens F x oa s=(x,⟨0,0,u,0,0,0,0,false⟩):=by
    unfold Su;rw[if_neg (by rw[h1];simp),if_pos h2,hb]
   rw[ER];have WD:=Za (fun W (q:Ext W0 W)=>Za7 (o0.ext q HZ.out.1).at_.cy.i.k.body hb);clear ER hb h1 h2 hf hw hd hk;clear o0 x0 h q0 q1 q2 q3 q4 q5 q6 q7 r0 r1 r2 r3 r4 r5 r6 r7;go_enter func233,ntmps233;go_wp2_with fail;refine FD.out.ze fun w1 x1=>?_;have X1:=Za x1;have O1:=Za (O0.out.ext x1 HZ.out.1);have k2:=fun d os=>cell_regrown (O1.out.b0.c 2 _ rfl) d os
   have c7:=fun d os=>cell_regrown (O1.out.at_.box.c 7 _ rfl) d os
   clear x1;go_wp2_with fail;refine wp_region_quiet_below (by kernel_rfl) (by kernel_rfl) ?_
   repeat (any_goals (first|go_big_quiet_step (first|(go_at_call 82;with_reducible exact Vp (BD.out _ (X1.out.trans (Zk _ _ _))))|(go_at_call 283;with_reducible exact reg (WD.out _ (X1.out.trans (Zk _ _ _)))))|quiet_step (first|(go_at_call 82;with_reducible exact Vp (BD.out _ (X1.out.trans (Zk _ _ _))))|(go_at_call 283;with_reducible exact reg (WD.out _ (X1.out.trans (Zk _ _ _)))))))
   refine Zc fun WQ xq=>?_;have QT:=Za (O1.out.ext xq HZ.out.1);obtain⟨q0,q1,q2,q3,q4,q5,q6,q7⟩:=QT.out.b1.k8;obtain⟨r0,r1,r2,r3,r4,r5,r6,r7⟩:=QT.out.b1.g8;clear xq k2 c7;go_wp2_with fail;obtain⟨p0,p1,p2,p3,p4,p5,p6,p7,hfa,hfc⟩:=QT.out.fin HZ.out (.int .i64 0) (.int .u64 0) (.int .u64 u) (.int .i64 0) (.int .i64 0) (.int .i64 0) (.int .i64 0) (.bool false);refine bodyPost_ret (v:=.agg #[(0:Int),.int .u64 0,.int .u64 u,(0:Int),(0:Int),(0:Int),(0:Int),false]) (by simp[results,results233,go_sem,p0,p1,p2,p3,p4,p5,p6,p7]) rfl ?_;exact⟨rfl,hfa,hfc⟩
  | true=>
   have h2:(Xa c t x.y s oa).1=true:=by rw[hf]
   obtain⟨tt,kr,hb⟩:∃tt kr,U2 c t x.y.ws s oa=(tt,kr):=⟨_,_,rfl⟩;have RD:=Za (fun W (q:Ext W0 W)=>Jp (o0.ext q HZ.out.1).at_.cy.i.k.body hb);by_cases ht:tt<0
   ·have ER:Su c t n c.gens F x oa s=(x,Z9 0):=by
     unfold Su;rw[if_neg (by rw[h1];simp),if_neg (by rw[h2];simp),hb];simp only;rw[if_pos ht]
    rw[ER];have tl:decide (tt<0)=true:=Zyy ht;clear ER hb h1 h2 hf hw hd hk ht;clear o0 x0 h q0 q1 q2 q3 q4 q5 q6 q7 r0 r1 r2 r3 r4 r5 r6 r7;go_enter func233,ntmps233;go_wp2_with fail;refine FD.out.ze fun w1 x1=>?_;have X1:=Za x1;have O1:=Za (O0.out.ext x1 HZ.out.1);have k2:=fun d os=>cell_regrown (O1.out.b0.c 2 _ rfl) d os
    have c7:=fun d os=>cell_regrown (O1.out.at_.box.c 7 _ rfl) d os
    clear x1;go_wp2_with fail;refine wp_region_quiet_below (by kernel_rfl) (by kernel_rfl) ?_
    repeat (any_goals (first|go_big_quiet_step (first|(go_at_call 82;with_reducible exact Vp (BD.out _ (X1.out.trans (Zk _ _ _))))|(go_at_call 117;with_reducible exact reg (RD.out _ (X1.out.trans (Zk _ _ _)))))|quiet_step (first|(go_at_call 82;with_reducible exact Vp (BD.out _ (X1.out.trans (Zk _ _ _))))|(go_at_call 117;with_reducible exact reg (RD.out _ (X1.out.trans (Zk _ _ _)))))))
    refine Zc fun WQ xq=>?_;have QT:=Za (O1.out.ext xq HZ.out.1);obtain⟨q0,q1,q2,q3,q4,q5,q6,q7⟩:=QT.out.b1.k8;obtain⟨r0,r1,r2,r3,r4,r5,r6,r7⟩:=QT.out.b1.g8;clear xq k2 c7;go_wp2_with fail;obtain⟨p0,p1,p2,p3,p4,p5,p6,p7,hfa,hfc⟩:=QT.out.fin HZ.out (.int .i64 0) (.int .u64 0) (.int .u64 0) (.int .i64 0) (.int .i64 0) (.int .i64 0) (.int .i64 0) (.bool false);refine bodyPost_ret (v:=.agg #[(0:Int),.int .u64 0,.int .u64 0,(0:Int),(0:Int),(0:Int),(0:Int),false]) (by simp[results,results233,go_sem,p0,p1,p2,p3,p4,p5,p6,p7]) rfl ?_;exact⟨rfl,hfa,hfc⟩
   ·have tl:decide (tt<0)=false:=Zyx ht;obtain⟨x1,hx1⟩:=Zb (T6 c t n c.gens F Xz x);have RM:Hid (∀W,OpW w W H c t n x z ⟨oc,oh,oa,ob,ov⟩→Calls prog 274 #[H.hb,.func (.func 276) #[H.hb] #[]] W fun e W'=>e=.returned (.tuple #[])∧OpW w W' H c t n x1 z ⟨oc,oh,oa,ob,ov⟩):=
     Za fun W oW=>(Zne (g:=276) (fa:=#[(H.hb:Value)]) (fb:=#[]) (is:=Xz) (K:=fun V=>Zn V z (L6 ⟨oc,oh,oa,ob,ov⟩)∧Zn V (z+1) Nl) oW.at_ ⟨oW.b0,oW.b1⟩
      (fun V V' kv hc=>⟨kv.1.chg hc (oW.at_.off HZ.out.1),kv.2.chg hc (oW.at_.off (by have:=HZ.out.1;omega))⟩) hw hd hk Zek
      (fun V y' hV _=>by
       rw[show(#[(H.hb:Value)]++#[]:Array Value)=#[(H.hb:Value)] from rfl];exact(Bm hV rfl).mono fun e V' q=>⟨q.1,by rw[←q.2];exact Zy2 _⟩)).mono fun e V' q=>by
        rw[hx1] at q;exact⟨q.1,q.2.1,q.2.2.1.1,q.2.2.1.2,oW.ch.trans q.2.2.2⟩
    obtain⟨fr,hfr⟩:=Zb (Xz x1.y);have FR:=Za (fun W (oW:OpW w W H c t n x1 z ⟨oc,oh,oa,ob,ov⟩)=>Bm oW.at_ hfr);have E0:Su c t n c.gens F x oa s=(if Xz x1.y=false then (x1,Z9 131) else ((Qq t { x1 with y:=Y5 c t n x1.y tt } tt).1,⟨0,(Qq t { x1 with y:=Y5 c t n x1.y tt } tt).2,0,0,0,0,0,false⟩)):=by
     unfold Su;rw[if_neg (by rw[h1];simp),if_neg (by rw[h2];simp),hb];simp only;rw[if_neg ht,hx1]
    rw[E0];clear E0 hb h1 h2 hf hw hd hk ht hx1;cases fr with
    | false=>
     rw[if_pos hfr];clear hfr;clear o0 x0 h q0 q1 q2 q3 q4 q5 q6 q7 r0 r1 r2 r3 r4 r5 r6 r7;go_enter func233,ntmps233;go_wp2_with fail;refine FD.out.ze fun w1 x1=>?_;have X1:=Za x1;have O1:=Za (O0.out.ext x1 HZ.out.1);have k2:=fun d os=>cell_regrown (O1.out.b0.c 2 _ rfl) d os
     have c7:=fun d os=>cell_regrown (O1.out.at_.box.c 7 _ rfl) d os
     clear x1;go_wp2_with fail;refine wp_region_quiet_below (by kernel_rfl) (by kernel_rfl) ?_
     repeat (any_goals (first|go_big_quiet_step (first|(go_at_call 82;with_reducible exact Vp (BD.out _ (X1.out.trans (Zk _ _ _))))|(go_at_call 117;with_reducible exact reg (RD.out _ (X1.out.trans (Zk _ _ _)))))|quiet_step (first|(go_at_call 82;with_reducible exact Vp (BD.out _ (X1.out.trans (Zk _ _ _))))|(go_at_call 117;with_reducible exact reg (RD.out _ (X1.out.trans (Zk _ _ _)))))))
     refine Zc fun WQ xq=>?_;have O2:=Za (O1.out.ext xq HZ.out.1);clear xq k2 c7;go_wp2_with fail;refine(RM.out _ O2.out).ze fun w3 o3=>?_;have O3:=Za o3;clear o3;go_wp2_with fail;refine(FR.out _ O3.out).zz ?_;go_wp2_with fail;refine(Xm (k:=131)).ze fun wT xT=>?_;have QT:=Za (O3.out.ext xT HZ.out.1);obtain⟨q0,q1,q2,q3,q4,q5,q6,q7⟩:=QT.out.b1.k8;obtain⟨r0,r1,r2,r3,r4,r5,r6,r7⟩:=QT.out.b1.g8;clear xT;go_wp2_with fail;obtain⟨p0,p1,p2,p3,p4,p5,p6,p7,hfa,hfc⟩:=QT.out.fin HZ.out (.int .i64 131) (.int .u64 0) (.int .u64 0) (.int .i64 0) (.int .i64 0) (.int .i64 0) (.int .i64 0) (.bool false);refine bodyPost_ret (v:=.agg #[(131:Int),.int .u64 0,.int .u64 0,(0:Int),(0:Int),(0:Int),(0:Int),false]) (by simp[results,results233,go_sem,p0,p1,p2,p3,p4,p5,p6,p7]) rfl ?_;exact⟨rfl,hfa,hfc⟩
    | true=>
     rw[if_neg (by rw[hfr];simp)];obtain⟨y2,hy2⟩:=Zb (Y5 c t n x1.y tt);obtain⟨x3,v,hm⟩:∃x3 v,Qq t { x1 with y:=y2 } tt=(x3,v):=⟨_,_,rfl⟩;have SH:Hid (∀W,OpW w W H c t n x1 z ⟨oc,oh,oa,ob,ov⟩→Calls prog 284 #[H.B.yb,.int .i64 tt] W fun e W'=>(∃k:Int,e=.returned (.int .i64 k))∧OpW w W' H c t n { x1 with y:=y2 } z ⟨oc,oh,oa,ob,ov⟩):=
      Za fun W o1=>(Mo o1.at_.cy).mono fun e W' q=>by
       rw[hy2] at q;obtain⟨a3,b3⟩:=o1.at_.cyTo q.2.1 q.2.2;exact⟨q.1,o1.go HZ.out.1 b3 a3⟩
     have MI:Hid (∀W,OpW w W H c t n { x1 with y:=y2 } z ⟨oc,oh,oa,ob,ov⟩→Calls prog 280 #[H.hb,.int .i64 tt] W fun e W'=>e=.returned (.int .u64 v)∧OpW w W' H c t n x3 z ⟨oc,oh,oa,ob,ov⟩):=
      Za fun W o1=>(Znd o1.at_ hm).mono fun e W' q=>⟨q.1,o1.go HZ.out.1 q.2.2 q.2.1⟩
     rw[hy2,hm];clear hfr hy2 hm;clear o0 x0 h q0 q1 q2 q3 q4 q5 q6 q7 r0 r1 r2 r3 r4 r5 r6 r7;go_enter func233,ntmps233;go_wp2_with fail;refine FD.out.ze fun w1 x1=>?_;have X1:=Za x1;have O1:=Za (O0.out.ext x1 HZ.out.1);have k2:=fun d os=>cell_regrown (O1.out.b0.c 2 _ rfl) d os
     have c7:=fun d os=>cell_regrown (O1.out.at_.box.c 7 _ rfl) d os
     clear x1;go_wp2_with fail;refine wp_region_quiet_below (by kernel_rfl) (by kernel_rfl) ?_
     repeat (any_goals (first|go_big_quiet_step (first|(go_at_call 82;with_reducible exact Vp (BD.out _ (X1.out.trans (Zk _ _ _))))|(go_at_call 117;with_reducible exact reg (RD.out _ (X1.out.trans (Zk _ _ _)))))|quiet_step (first|(go_at_call 82;with_reducible exact Vp (BD.out _ (X1.out.trans (Zk _ _ _))))|(go_at_call 117;with_reducible exact reg (RD.out _ (X1.out.trans (Zk _ _ _)))))))
     refine Zc fun WQ xq=>?_;have O2:=Za (O1.out.ext xq HZ.out.1);clear xq k2 c7;go_wp2_with fail;refine(RM.out _ O2.out).ze fun w3 o3=>?_;have O3:=Za o3;have c7:=o3.at_.box.c 7 _ rfl;clear o3;go_wp2_with fail;refine(FR.out _ O3.out).zz ?_;go_wp2_with fail;refine(SH.out _ O3.out).mono ?_;rintro e w4 ⟨⟨k4,rfl⟩,o4⟩;have O4:=Za o4;clear o4;go_wp2_with fail;refine(MI.out _ O4.out).ze fun w5 o5=>?_;have QT:=Za o5;obtain⟨q0,q1,q2,q3,q4,q5,q6,q7⟩:=QT.out.b1.k8;obtain⟨r0,r1,r2,r3,r4,r5,r6,r7⟩:=QT.out.b1.g8;clear o5;go_wp2_with fail;obtain⟨p0,p1,p2,p3,p4,p5,p6,p7,hfa,hfc⟩:=QT.out.fin HZ.out (.int .i64 0) (.int .u64 v) (.int .u64 0) (.int .i64 0) (.int .i64 0) (.int .i64 0) (.int .i64 0) (.bool false);refine bodyPost_ret (v:=.agg #[(0:Int),.int .u64 v,.int .u64 0,(0:Int),(0:Int),(0:Int),(0:Int),false]) (by simp[results,results233,go_sem,p0,p1,p2,p3,p4,p5,p6,p7]) rfl ?_;exact⟨rfl,hfa,hfc⟩
 ·have h1:(Xa c t x.y s oa).2≠0:=by rw[hf];exact h0
  have ER:Su c t n c.gens F x oa s=(x,Z9 k):=by unfold Su;rw[if_pos h1,hf]
  rw[ER];have tk:(k != 0)=true:=by simpa using h0
  clear ER h1 hf hw hd hk h0;clear o0 x0 h q0 q1 q2 q3 q4 q5 q6 q7 r0 r1 r2 r3 r4 r5 r6 r7;go_enter func233,ntmps233;go_wp2_with fail;refine FD.out.ze fun w1 x1=>?_;have O1:=Za (O0.out.ext x1 HZ.out.1);clear x1;go_wp2_with fail;refine(Xm (k:=k)).ze fun wT xT=>?_;have QT:=Za (O1.out.ext xT HZ.out.1);obtain⟨q0,q1,q2,q3,q4,q5,q6,q7⟩:=QT.out.b1.k8;obtain⟨r0,r1,r2,r3,r4,r5,r6,r7⟩:=QT.out.b1.g8;clear xT;go_wp2_with fail;obtain⟨p0,p1,p2,p3,p4,p5,p6,p7,hfa,hfc⟩:=QT.out.fin HZ.out (.int .i64 k) (.int .u64 0) (.int .u64 0) (.int .i64 0) (.int .i64 0) (.int .i64 0) (.int .i64 0) (.bool false);refine bodyPost_ret (v:=.agg #[.int .i64 k,.int .u64 0,.int .u64 0,(0:Int),(0:Int),(0:Int),(0:Int),false]) (by simp[results,results233,go_sem,p0,p1,p2,p3,p4,p5,p6,p7]) rfl ?_;exact⟨rfl,hfa,hfc⟩
end
section
variable{w w':World}{H:HB}{c:Zh}{t n a d F:Nat}{x x':HP}
theorem Zrs(a b:Int)(w:World):(Instr.index 370 (.agg #[.int .i64 a,.int .i64 b]) (.int .i64 0)).run prog w=.ok (.int .i64 a) w:=by kernel_rfl
theorem Zrt(a b:Int)(w:World):(Instr.index 370 (.agg #[.int .i64 a,.int .i64 b]) (.int .i64 1)).run prog w=.ok (.int .i64 b) w:=by kernel_rfl
variable{W W':World}{z:Nat}{o:OpI}
theorem Zru(h:Zv w H c t n x){s:Int}{o:OpI}(hv:0≤o.v∧o.v<18446744073709551616) :
  Calls prog 234 #[H.hb,opV o,.int .i64 s] w fun e w'=>e=.returned (snV (Wu c t n x o.a o.v s).2)∧Zv w' H c t n (Wu c t n x o.a o.v s).1∧Chg H.hpP w w':=by
 obtain⟨z,hz⟩:=Zb (w.heap.size);obtain⟨W0,hW0,o0,x0⟩:=OpW.new h o 36 42 hz;have HZ:Hid (H.hi≤z∧w.heap.size≤z):=Za ⟨by have:=h.top;omega,by omega⟩;obtain⟨oc,oh,oa,ob,ov⟩:=o;have O0:=Za o0;obtain⟨k0,k1,k2,k3,k4⟩:=o0.b0.k5;obtain⟨q0,q1,q2,q3,q4,q5,q6,q7⟩:=o0.b1.k8;obtain⟨r0,r1,r2,r3,r4,r5,r6,r7⟩:=o0.b1.g8;have c7:=o0.at_.box.c 7 _ rfl;unfold opV;obtain⟨b,k,hf⟩:∃b k,Xa c t x.y s oa=(b,k):=⟨_,_,rfl⟩;have FD:=Za (Zgb o0.at_ hf);have BD:=Za (fun W x' (q:OpW w W H c t n x' z ⟨oc,oh,oa,ob,ov⟩)=>Oh q.at_.cy);have nz:H.hb≠z+1:=by have:=o0.at_.ord.h;have:=HZ.out.1;omega
 have nz2:z+1≠H.hb:=fun e=>nz e.symm
 simp only at hv ⊢;by_cases h0:k=0
 ·have h1:(Xa c t x.y s oa).2=0:=by rw[hf];exact h0
  subst h0;cases b with
  | false=>
   have h2:(Xa c t x.y s oa).1=false:=by rw[hf]
   obtain⟨ws',k,hb⟩:∃ws' k,Jf c t x.y.ws s oa ov=(ws',k):=⟨_,_,rfl⟩;have ER:Wu c t n x oa ov s=({ x with y:={ x.y with ws:=ws' } },Z9 k):=by
    unfold Wu;rw[if_neg (by rw[h1];simp),if_pos h2,hb]
   rw[ER];have SW:Hid (∀W,OpW w W H c t n x z ⟨oc,oh,oa,ob,ov⟩→Calls prog 285 #[H.B.bb,.int .i64 s,oa,.int .u64 ov] W fun e W'=>e=.returned (.int .i64 k)∧OpW w W' H c t n { x with y:={ x.y with ws:=ws' } } z ⟨oc,oh,oa,ob,ov⟩):=
    Za fun W o1=>(Za8 o1.at_.cy.i.k.body hv hb).mono fun e W' q=>by
     obtain⟨a1,b1⟩:=o1.at_.cy.i.wsTo q.2.1 q.2.2;obtain⟨a2,b2⟩:=o1.at_.cy.inTo a1 b1 rfl rfl o1.at_.cy.le;obtain⟨a3,b3⟩:=o1.at_.cyTo a2 b2;exact⟨q.1,o1.go HZ.out.1 b3 a3⟩
   clear ER hb h1 h2 hf hv;clear o0 x0 h q0 q1 q2 q3 q4 q5 q6 q7 r0 r1 r2 r3 r4 r5 r6 r7;go_enter func234,ntmps234;go_wp2_with fail;refine FD.out.ze fun w1 x1=>?_;have O1:=Za (O0.out.ext x1 HZ.out.1);have O1d:=Za (O1.out.ext (Zy2 w1).drew HZ.out.1);have k2:=O1.out.b0.c 2 _ rfl;have k4:=O1.out.b0.c 4 _ rfl;have c7:=O1.out.at_.box.c 7 _ rfl;have B1:=Za (BD.out _ _ O1d.out);have S1:=Za (SW.out _ O1d.out);clear x1;go_wp2_with fail
   go_region_held3 (fun w'=>w'.cell? ⟨H.hb,7,none⟩=some (H.B.yb:Value)∧w'.cell? ⟨z,2,none⟩=some (.int .i64 oa)∧w'.cell? ⟨z,4,none⟩=some (.int .u64 ov))
    ((first|go_keep|(go_split_ands;exact⟨QT.out.at_.box.c 7 _ rfl,QT.out.b0.c 2 _ rfl,QT.out.b0.c 4 _ rfl⟩)|(go_split_ands;exact⟨O2.out.at_.box.c 7 _ rfl,O2.out.b0.c 2 _ rfl,O2.out.b0.c 4 _ rfl⟩)))
    (first|(go_at_call 82;with_reducible refine B1.out.zz ?_)|(go_at_call 285;with_reducible refine S1.out.ze fun w2 o2=>?_;have O2:=Za o2;clear o2)|(go_at_call 149;refine(Xm (k:=k)).ze fun wT xT=>?_;have QT:=Za (O2.out.ext xT HZ.out.1);obtain⟨q0,q1,q2,q3,q4,q5,q6,q7⟩:=QT.out.b1.k8;obtain⟨r0,r1,r2,r3,r4,r5,r6,r7⟩:=QT.out.b1.g8;clear xT)|fail)
   all_goals
    go_wp2_with fail;obtain⟨p0,p1,p2,p3,p4,p5,p6,p7,hfa,hfc⟩:=QT.out.fin HZ.out (.int .i64 k) (.int .u64 0) (.int .u64 0) (.int .i64 0) (.int .i64 0) (.int .i64 0) (.int .i64 0) (.bool false);refine bodyPost_ret (v:=.agg #[.int .i64 k,.int .u64 0,.int .u64 0,(0:Int),(0:Int),(0:Int),(0:Int),false]) (by simp[results,results234,go_sem,p0,p1,p2,p3,p4,p5,p6,p7]) rfl ?_;exact⟨rfl,hfa,hfc⟩
  | true=>
   have h2:(Xa c t x.y s oa).1=true:=by rw[hf]
   obtain⟨t0,is,hs⟩:∃t0 is,Vc t x.y ov=(t0,is):=⟨_,_,rfl⟩;have SL:=Za (fun W (q:OpW w W H c t n x z ⟨oc,oh,oa,ob,ov⟩)=>Zeg q.at_ hv hs);by_cases hb1:ov≠0∧is=false
   ·have ER:Wu c t n x oa ov s=(x,Z9 130):=by
     unfold Wu;rw[if_neg (by rw[h1];simp),if_neg (by rw[h2];simp),hs,if_pos hb1]
    rw[ER];obtain⟨v0,rfl⟩:=hb1;have tv:(ov==0)=false:=by simpa using v0
    clear ER h1 h2 hf hv hs v0;clear o0 x0 h q0 q1 q2 q3 q4 q5 q6 q7 r0 r1 r2 r3 r4 r5 r6 r7;go_enter func234,ntmps234;go_wp2_with fail;refine FD.out.ze fun w1 x1=>?_;have O1:=Za (O0.out.ext x1 HZ.out.1);clear x1;have k4:=O1.out.b0.c 4 _ rfl;go_wp2_with fail;refine(SL.out _ O1.out).ze fun w2 x2=>?_;have k4:=x2.cell k4;have O2:=Za (O1.out.ext x2 HZ.out.1);clear x2;go_wp2_with fail;refine(Xm (k:=130)).ze fun wT xT=>?_;have QT:=Za (O2.out.ext xT HZ.out.1);obtain⟨q0,q1,q2,q3,q4,q5,q6,q7⟩:=QT.out.b1.k8;obtain⟨r0,r1,r2,r3,r4,r5,r6,r7⟩:=QT.out.b1.g8;clear xT;go_wp2_with fail;obtain⟨p0,p1,p2,p3,p4,p5,p6,p7,hfa,hfc⟩:=QT.out.fin HZ.out (.int .i64 130) (.int .u64 0) (.int .u64 0) (.int .i64 0) (.int .i64 0) (.int .i64 0) (.int .i64 0) (.bool false);refine bodyPost_ret (v:=.agg #[(130:Int),.int .u64 0,.int .u64 0,(0:Int),(0:Int),(0:Int),(0:Int),false]) (by simp[results,results234,go_sem,p0,p1,p2,p3,p4,p5,p6,p7]) rfl ?_;exact⟨rfl,hfa,hfc⟩
   ·obtain⟨old,ko,hb⟩:∃old ko,U2 c t x.y.ws s oa=(old,ko):=⟨_,_,rfl⟩;obtain⟨tt,htt⟩:=Zb ((if ov=0 then (-1:Int) else t0));obtain⟨YK,hYK⟩:∃YK:Nat→CY,YK=fun k=>if k=0 then x.y else if k=1 then Ym c t n x.y old else Ym c t n (Ym c t n x.y old) tt:=⟨_,rfl⟩
    have YK0:Hid (YK 0=x.y):=Za (by rw[hYK];rfl);have YK1:Hid (YK 1=Ym c t n x.y old):=Za (by rw[hYK];rfl);have YK2:Hid (YK 2=Ym c t n (YK 1) tt):=Za (by rw[hYK];rfl);obtain⟨ws',k,hw2⟩:∃ws' k,Ry c t (YK 2).ws s oa tt=(ws',k):=⟨_,_,rfl⟩;have ER:Wu c t n x oa ov s=({ x with y:={ YK 2 with ws:=ws' } },Z9 k):=by
     unfold Wu;rw[if_neg (by rw[h1];simp),if_neg (by rw[h2];simp),hs,if_neg hb1];simp only;rw[htt,hb];simp only;rw[←YK1.out,←YK2.out,hw2]
    rw[ER];have RD:=Za (fun W (q:OpW w W H c t n x z ⟨oc,oh,oa,ob,ov⟩)=>Jp q.at_.cy.i.k.body hb);have SHD:Hid (∀W x' (q:Int),OpW w W H c t n x' z ⟨oc,oh,oa,ob,ov⟩→Calls prog 284 #[H.B.yb,.int .i64 q] W fun e W'=>(∃k:Int,e=.returned (.int .i64 k))∧OpW w W' H c t n { x' with y:=Y5 c t n x'.y q } z ⟨oc,oh,oa,ob,ov⟩):=
     Za fun W x' q o1=>(Mo o1.at_.cy).mono fun e W' r=>by
      obtain⟨a3,b3⟩:=o1.at_.cyTo r.2.1 r.2.2;exact⟨r.1,o1.go HZ.out.1 b3 a3⟩
    have SR:Hid (∀W,OpW w W H c t n { x with y:=YK 2 } z ⟨oc,oh,oa,ob,ov⟩→Calls prog 286 #[H.B.bb,.int .i64 s,oa,.int .i64 tt] W fun e W'=>e=.returned (.int .i64 k)∧OpW w W' H c t n { x with y:={ YK 2 with ws:=ws' } } z ⟨oc,oh,oa,ob,ov⟩):=
     Za fun W o1=>(Zdv o1.at_.cy.i.k.body hw2).mono fun e W' q=>by
      obtain⟨a1,b1⟩:=o1.at_.cy.i.wsTo q.2.1 q.2.2;obtain⟨a2,b2⟩:=o1.at_.cy.inTo a1 b1 rfl rfl o1.at_.cy.le;obtain⟨a3,b3⟩:=o1.at_.cyTo a2 b2;exact⟨q.1,o1.go HZ.out.1 b3 a3⟩
    have ix0:=fun w=>Zrs old tt w
    have ix1:=fun w=>Zrt old tt w
    clear ER h1 h2 hf hv hs hw2 hYK hb;by_cases v0:ov=0
    ·subst v0;rw[if_pos rfl] at htt;subst htt;clear hb1;clear o0 x0 h q0 q1 q2 q3 q4 q5 q6 q7 r0 r1 r2 r3 r4 r5 r6 r7;go_enter func234,ntmps234;go_wp2_with fail;refine FD.out.ze fun w1 x1=>?_;have O1:=Za (O0.out.ext x1 HZ.out.1);clear x1;have k4:=O1.out.b0.c 4 _ rfl;go_wp2_with fail;refine(SL.out _ O1.out).ze fun w2 x2=>?_;have k4:=x2.cell k4;have O2:=Za (O1.out.ext x2 HZ.out.1);clear x2;have k2:=fun d os=>cell_regrown (O2.out.b0.c 2 _ rfl) d os
     have c7:=fun d os=>cell_regrown (O2.out.at_.box.c 7 _ rfl) d os
     have k4:=O2.out.b0.c 4 _ rfl;go_wp2_with fail;refine wp_region_quiet_below (by kernel_rfl) (by kernel_rfl) ?_
     repeat (any_goals (first|go_big_quiet_step (first|(go_at_call 82;with_reducible exact Vp (BD.out _ _ (O2.out.ext (Zk _ _ _) HZ.out.1)))|(go_at_call 117;with_reducible exact reg (RD.out _ (O2.out.ext (Zk _ _ _) HZ.out.1))))|quiet_step (first|(go_at_call 82;with_reducible exact Vp (BD.out _ _ (O2.out.ext (Zk _ _ _) HZ.out.1)))|(go_at_call 117;with_reducible exact reg (RD.out _ (O2.out.ext (Zk _ _ _) HZ.out.1))))))
     refine Zc fun WQ xq=>?_;have O3:=Za (O2.out.ext xq HZ.out.1);clear xq k2 c7 k4;go_wp2_with fail
     go_loopw [73] (fun iv wr=>∃k:Nat,k≤2∧iv=.int .i64 k∧Hid (OpW w wr H c t n { x with y:=YK k } z ⟨oc,oh,oa,ob,0⟩)) (fun iv _=>2-(intOf iv).toNat)
     case atStart=>exact⟨0,by decide,rfl,Za (by rw[YK0.out];exact O3.out)⟩
     case round=>
      obtain⟨j,hj,rfl,P⟩:=hrel;have c7:=P.out.at_.box.c 7 _ rfl;rcases (by omega:j=0∨j=1∨j=2) with rfl|rfl|rfl
      ·have P0:=P.out;rw[YK0.out] at P0;have P0:=Za P0;by_cases q:0≤old
       ·have tq:decide (0≤old)=true:=Zyy q;have SH:=Za (SHD.out _ _ old P0.out);have E1:YK 1=Y5 c t n x.y old:=by rw[YK1.out];unfold Ym;rw[if_pos q]
        have HE:=Za E1;clear q E1;go_wp2_with fail;refine SH.out.mono ?_;rintro e w5 ⟨⟨k5,rfl⟩,o5⟩;have O5:=Za o5;clear o5;go_wp2;go_roundw
        case rel=>exact⟨1,by decide,rfl,Za (by rw[HE.out];exact O5.out)⟩
        case measure=>simp[intOf]
       ·have tq:decide (0≤old)=false:=Zyx q;have E1:YK 1=x.y:=by rw[YK1.out];unfold Ym;rw[if_neg q]
        have HE:=Za E1;clear q E1;go_wp2;go_roundw
        case rel=>exact⟨1,by decide,rfl,Za (by rw[HE.out];exact P0.out)⟩
        case measure=>simp[intOf]
      ·by_cases q:0≤(-1:Int)
       ·exact absurd q (by decide)
       ·have tq:decide (0≤(-1:Int))=false:=Zyx q;have E1:YK 2=YK 1:=by rw[YK2.out];unfold Ym;rw[if_neg q]
        have HE:=Za E1;clear q E1;go_wp2;go_roundw
        case rel=>exact⟨2,by decide,rfl,Za (by rw[HE.out];exact P.out)⟩
        case measure=>simp[intOf]
      ·have O6:=Za P.out;have O6d:=Za (P.out.ext (Zy2 wr).drew HZ.out.1);have k2:=O6.out.b0.c 2 _ rfl;have B1:=Za (BD.out _ _ O6d.out);have S1:=Za (SR.out _ O6d.out);clear P;go_wp2_with fail
       go_region_held3 (fun w'=>w'.cell? ⟨H.hb,7,none⟩=some (H.B.yb:Value)∧w'.cell? ⟨z,2,none⟩=some (.int .i64 oa))
        ((first|go_keep|(go_split_ands;exact⟨QT.out.at_.box.c 7 _ rfl,QT.out.b0.c 2 _ rfl⟩)|(go_split_ands;exact⟨O7.out.at_.box.c 7 _ rfl,O7.out.b0.c 2 _ rfl⟩)))
        (first|(go_at_call 82;with_reducible refine B1.out.zz ?_)|(go_at_call 286;with_reducible refine S1.out.ze fun w7 o7=>?_;have O7:=Za o7;clear o7)|(go_at_call 149;refine(Xm (k:=k)).ze fun wT xT=>?_;have QT:=Za (O7.out.ext xT HZ.out.1);obtain⟨q0,q1,q2,q3,q4,q5,q6,q7⟩:=QT.out.b1.k8;obtain⟨r0,r1,r2,r3,r4,r5,r6,r7⟩:=QT.out.b1.g8;clear xT)|fail)
       all_goals
        go_wp2_with fail;obtain⟨p0,p1,p2,p3,p4,p5,p6,p7,hfa,hfc⟩:=QT.out.fin HZ.out (.int .i64 k) (.int .u64 0) (.int .u64 0) (.int .i64 0) (.int .i64 0) (.int .i64 0) (.int .i64 0) (.bool false);refine bodyPost_ret (v:=.agg #[.int .i64 k,.int .u64 0,.int .u64 0,(0:Int),(0:Int),(0:Int),(0:Int),false]) (by simp[results,results234,go_sem,p0,p1,p2,p3,p4,p5,p6,p7]) rfl ?_;exact⟨rfl,hfa,hfc⟩
    ·have tv:(ov==0)=false:=by simpa using v0
     have eis:is=true:=by
      cases is
      ·exact absurd ⟨v0,rfl⟩ hb1
      ·rfl
     subst eis;rw[if_neg v0] at htt;subst htt;clear hb1 v0;clear o0 x0 h q0 q1 q2 q3 q4 q5 q6 q7 r0 r1 r2 r3 r4 r5 r6 r7;go_enter func234,ntmps234;go_wp2_with fail;refine FD.out.ze fun w1 x1=>?_;have O1:=Za (O0.out.ext x1 HZ.out.1);clear x1;have k4:=O1.out.b0.c 4 _ rfl;go_wp2_with fail;refine(SL.out _ O1.out).ze fun w2 x2=>?_;have k4:=x2.cell k4;have O2:=Za (O1.out.ext x2 HZ.out.1);clear x2;have k2:=fun d os=>cell_regrown (O2.out.b0.c 2 _ rfl) d os
     have c7:=fun d os=>cell_regrown (O2.out.at_.box.c 7 _ rfl) d os
     have k4:=O2.out.b0.c 4 _ rfl;go_wp2_with fail;refine wp_region_quiet_below (by kernel_rfl) (by kernel_rfl) ?_
     repeat (any_goals (first|go_big_quiet_step (first|(go_at_call 82;with_reducible exact Vp (BD.out _ _ (O2.out.ext (Zk _ _ _) HZ.out.1)))|(go_at_call 117;with_reducible exact reg (RD.out _ (O2.out.ext (Zk _ _ _) HZ.out.1))))|quiet_step (first|(go_at_call 82;with_reducible exact Vp (BD.out _ _ (O2.out.ext (Zk _ _ _) HZ.out.1)))|(go_at_call 117;with_reducible exact reg (RD.out _ (O2.out.ext (Zk _ _ _) HZ.out.1))))))
     refine Zc fun WQ xq=>?_;have O3:=Za (O2.out.ext xq HZ.out.1);clear xq k2 c7 k4;go_wp2_with fail
     go_loopw [73] (fun iv wr=>∃k:Nat,k≤2∧iv=.int .i64 k∧Hid (OpW w wr H c t n { x with y:=YK k } z ⟨oc,oh,oa,ob,ov⟩)) (fun iv _=>2-(intOf iv).toNat)
     case atStart=>exact⟨0,by decide,rfl,Za (by rw[YK0.out];exact O3.out)⟩
     case round=>
      obtain⟨j,hj,rfl,P⟩:=hrel;have c7:=P.out.at_.box.c 7 _ rfl;rcases (by omega:j=0∨j=1∨j=2) with rfl|rfl|rfl
      ·have P0:=P.out;rw[YK0.out] at P0;have P0:=Za P0;by_cases q:0≤old
       ·have tq:decide (0≤old)=true:=Zyy q;have SH:=Za (SHD.out _ _ old P0.out);have E1:YK 1=Y5 c t n x.y old:=by rw[YK1.out];unfold Ym;rw[if_pos q]
        have HE:=Za E1;clear q E1;go_wp2_with fail;refine SH.out.mono ?_;rintro e w5 ⟨⟨k5,rfl⟩,o5⟩;have O5:=Za o5;clear o5;go_wp2;go_roundw
        case rel=>exact⟨1,by decide,rfl,Za (by rw[HE.out];exact O5.out)⟩
        case measure=>simp[intOf]
       ·have tq:decide (0≤old)=false:=Zyx q;have E1:YK 1=x.y:=by rw[YK1.out];unfold Ym;rw[if_neg q]
        have HE:=Za E1;clear q E1;go_wp2;go_roundw
        case rel=>exact⟨1,by decide,rfl,Za (by rw[HE.out];exact P0.out)⟩
        case measure=>simp[intOf]
      ·by_cases q:0≤(t0:Int)
       ·have tq:decide (0≤(t0:Int))=true:=Zyy q;have SH:=Za (SHD.out _ _ (t0) P.out);have E1:YK 2=Y5 c t n (YK 1) (t0):=by rw[YK2.out];unfold Ym;rw[if_pos q]
        have HE:=Za E1;clear q E1;go_wp2_with fail;refine SH.out.mono ?_;rintro e w5 ⟨⟨k5,rfl⟩,o5⟩;have O5:=Za o5;clear o5;go_wp2;go_roundw
        case rel=>exact⟨2,by decide,rfl,Za (by rw[HE.out];exact O5.out)⟩
        case measure=>simp[intOf]
       ·have tq:decide (0≤(t0:Int))=false:=Zyx q;have E1:YK 2=YK 1:=by rw[YK2.out];unfold Ym;rw[if_neg q]
        have HE:=Za E1;clear q E1;go_wp2;go_roundw
        case rel=>exact⟨2,by decide,rfl,Za (by rw[HE.out];exact P.out)⟩
        case measure=>simp[intOf]
      ·have O6:=Za P.out;have O6d:=Za (P.out.ext (Zy2 wr).drew HZ.out.1);have k2:=O6.out.b0.c 2 _ rfl;have B1:=Za (BD.out _ _ O6d.out);have S1:=Za (SR.out _ O6d.out);clear P;go_wp2_with fail
       go_region_held3 (fun w'=>w'.cell? ⟨H.hb,7,none⟩=some (H.B.yb:Value)∧w'.cell? ⟨z,2,none⟩=some (.int .i64 oa))
        ((first|go_keep|(go_split_ands;exact⟨QT.out.at_.box.c 7 _ rfl,QT.out.b0.c 2 _ rfl⟩)|(go_split_ands;exact⟨O7.out.at_.box.c 7 _ rfl,O7.out.b0.c 2 _ rfl⟩)))
        (first|(go_at_call 82;with_reducible refine B1.out.zz ?_)|(go_at_call 286;with_reducible refine S1.out.ze fun w7 o7=>?_;have O7:=Za o7;clear o7)|(go_at_call 149;refine(Xm (k:=k)).ze fun wT xT=>?_;have QT:=Za (O7.out.ext xT HZ.out.1);obtain⟨q0,q1,q2,q3,q4,q5,q6,q7⟩:=QT.out.b1.k8;obtain⟨r0,r1,r2,r3,r4,r5,r6,r7⟩:=QT.out.b1.g8;clear xT)|fail)
       all_goals
        go_wp2_with fail;obtain⟨p0,p1,p2,p3,p4,p5,p6,p7,hfa,hfc⟩:=QT.out.fin HZ.out (.int .i64 k) (.int .u64 0) (.int .u64 0) (.int .i64 0) (.int .i64 0) (.int .i64 0) (.int .i64 0) (.bool false);refine bodyPost_ret (v:=.agg #[.int .i64 k,.int .u64 0,.int .u64 0,(0:Int),(0:Int),(0:Int),(0:Int),false]) (by simp[results,results234,go_sem,p0,p1,p2,p3,p4,p5,p6,p7]) rfl ?_;exact⟨rfl,hfa,hfc⟩
 ·have h1:(Xa c t x.y s oa).2≠0:=by rw[hf];exact h0
  have ER:Wu c t n x oa ov s=(x,Z9 k):=by unfold Wu;rw[if_pos h1,hf]
  rw[ER];have tk:(k != 0)=true:=by simpa using h0
  clear ER h1 hf hv h0;clear o0 x0 h q0 q1 q2 q3 q4 q5 q6 q7 r0 r1 r2 r3 r4 r5 r6 r7;go_enter func234,ntmps234;go_wp2_with fail;refine FD.out.ze fun w1 x1=>?_;have O1:=Za (O0.out.ext x1 HZ.out.1);clear x1;go_wp2_with fail;refine(Xm (k:=k)).ze fun wT xT=>?_;have QT:=Za (O1.out.ext xT HZ.out.1);obtain⟨q0,q1,q2,q3,q4,q5,q6,q7⟩:=QT.out.b1.k8;obtain⟨r0,r1,r2,r3,r4,r5,r6,r7⟩:=QT.out.b1.g8;clear xT;go_wp2_with fail;obtain⟨p0,p1,p2,p3,p4,p5,p6,p7,hfa,hfc⟩:=QT.out.fin HZ.out (.int .i64 k) (.int .u64 0) (.int .u64 0) (.int .i64 0) (.int .i64 0) (.int .i64 0) (.int .i64 0) (.bool false);refine bodyPost_ret (v:=.agg #[.int .i64 k,.int .u64 0,.int .u64 0,(0:Int),(0:Int),(0:Int),(0:Int),false]) (by simp[results,results234,go_sem,p0,p1,p2,p3,p4,p5,p6,p7]) rfl ?_;exact⟨rfl,hfa,hfc⟩
end
section
variable{w w' W W':World}{H:HB}{c:Zh}{t n a d F z:Nat}{x x':HP}{o:OpI}{k:Int}
theorem Zel{s:Int}(h:Zv w H c t n x):Calls prog 21 #[H.B.pb,.int .i64 s] w fun e w'=>(∃k:Int,e=.returned (.tuple #[.int .i64 (Ve c t s),.int .i64 k]))∧Ext w w':=by
 have pl:=h.cy.i.k.body.plan;unfold Ve;by_cases q:bIn c t s
 ·rw[if_pos q];have sb:=Xt h.ko h.ti q;have:=J6 pl sb.at_;exact this.mono fun e w' r=>⟨⟨0,r.1⟩,r.2⟩
 ·rw[if_neg q];exact(Ki pl (Zko h.ko h.ti q)).mono fun e w' r=>⟨⟨2,r.1⟩,r.2⟩
structure AlW(w W:World)(H:HB)(c:Zh)(t n:Nat)(x':HP)(z:Nat)(o:OpI)(k:Int):Prop where
 at_:Zv W H c t n x'
 bh:Zn W z [H.hb]
 b0:Zn W (z+1) (L6 o)
 b1:Zn W (z+2) Nl
 bx:Zn W (z+3) [.int .i64 k,o.a,o.b]
 ch:Chg H.hpP w W
theorem AlW.go{x2:HP}(h:AlW w W H c t n x' z o k)(hz:H.hi≤z)(hx:Chg H.hpP W W')(ha:Zv W' H c t n x2):AlW w W' H c t n x2 z o k:=
 ⟨ha,h.bh.chg hx (h.at_.off hz),h.b0.chg hx (h.at_.off (by omega)),h.b1.chg hx (h.at_.off (by omega)),h.bx.chg hx (h.at_.off (by omega)),h.ch.trans hx⟩
theorem AlW.ext(h:AlW w W H c t n x' z o k)(hx:Ext W W')(hz:H.hi≤z):AlW w W' H c t n x' z o k:=h.go hz (Zy3 hx) (h.at_.ext hx)
theorem AlW.fin(h:AlW w W H c t n x' z o k)(hz:H.hi≤z∧w.heap.size≤z)(v0 v1 v2 v3 v4 v5 v6 v7:Value) :
  (put8 W (z+2) v0 v1 v2 v3 v4 v5 v6 v7).cell? ⟨z+2,0,none⟩=some v0∧(put8 W (z+2) v0 v1 v2 v3 v4 v5 v6 v7).cell? ⟨z+2,1,none⟩=some v1∧(put8 W (z+2) v0 v1 v2 v3 v4 v5 v6 v7).cell? ⟨z+2,2,none⟩=some v2 ∧
  (put8 W (z+2) v0 v1 v2 v3 v4 v5 v6 v7).cell? ⟨z+2,3,none⟩=some v3∧(put8 W (z+2) v0 v1 v2 v3 v4 v5 v6 v7).cell? ⟨z+2,4,none⟩=some v4∧(put8 W (z+2) v0 v1 v2 v3 v4 v5 v6 v7).cell? ⟨z+2,5,none⟩=some v5 ∧
  (put8 W (z+2) v0 v1 v2 v3 v4 v5 v6 v7).cell? ⟨z+2,6,none⟩=some v6∧(put8 W (z+2) v0 v1 v2 v3 v4 v5 v6 v7).cell? ⟨z+2,7,none⟩=some v7 ∧
  Zv (put8 W (z+2) v0 v1 v2 v3 v4 v5 v6 v7) H c t n x'∧Chg H.hpP w (put8 W (z+2) v0 v1 v2 v3 v4 v5 v6 v7):=by
 have q:=h.b1.put8 v0 v1 v2 v3 v4 v5 v6 v7;have cx:=Tn W (z+2) v0 v1 v2 v3 v4 v5 v6 v7;refine⟨q.c 0 _ rfl,q.c 1 _ rfl,q.c 2 _ rfl,q.c 3 _ rfl,q.c 4 _ rfl,q.c 5 _ rfl,q.c 6 _ rfl,q.c 7 _ rfl,h.at_.chg cx (fun k hk e=>by have e1:k=z+2:=e;omega),h.ch.new (cx.mono fun k e=>by have e1:k=z+2:=e;omega)⟩
theorem AlW.new(h:Zv w H c t n x)(o:OpI)(T0 T1 T2 T3:TypeId)(hz:w.heap.size=z):∃W0,(((w.alloc (.cells #[H.hb] T0)).alloc (.cells #[.int .u8 o.code,.int .u64 o.h,o.a,o.b,.int .u64 o.v] T1)).alloc (.cells #[(0:Int),.int .u64 0,.int .u64 0,(0:Int),(0:Int),(0:Int),(0:Int),false] T2)).alloc (.cells #[(0:Int),o.a,o.b] T3)=W0∧AlW w W0 H c t n x z o 0∧Ext w W0:=by
 have e:∀(W:World) (o:Obj),Ext W (W.alloc o):=fun W o=>(Zy2 W).alloc _
 refine⟨_,rfl,⟨h.ext ((((e _ _).trans (e _ _)).trans (e _ _)).trans (e _ _)),(((Zn.new w [H.hb] T0 hz).ext (e _ _)).ext (e _ _)).ext (e _ _),((Zn.new _ (L6 o) T1 (by simp[hz])).ext (e _ _)).ext (e _ _),(Zn.new _ Nl T2 (by simp[hz])).ext (e _ _),Zn.new _ [(0:Int),o.a,o.b] T3 (by simp[hz]),Zy3 ((((e _ _).trans (e _ _)).trans (e _ _)).trans (e _ _))⟩,(((e _ _).trans (e _ _)).trans (e _ _)).trans (e _ _)⟩
theorem AlW.cls(h:AlW w W H c t n x' z o k)(hz:H.hi≤z∧w.heap.size≤z)(j:Int):AlW w (W.setCell ⟨z+3,0,none⟩ (.int .i64 j)) H c t n x' z o j:=by
 have cx:=Wn W (z+3) 0 (.int .i64 j);have q:∀k,k≠z+3→¬(fun j=>j=z+3) k:=fun k hk e=>hk e
 exact⟨h.at_.chg cx (fun k hk=>q k (by omega)),h.bh.chg cx (q _ (by omega)),h.b0.chg cx (q _ (by omega)),h.b1.chg cx (q _ (by omega)),h.bx.set (i:=0) (by show 0<3;decide) _,h.ch.new (cx.mono fun k e=>by have e1:k=z+3:=e;omega)⟩
structure Gp(W:World)(H:HB)(z y:Nat)(size:Int):Prop where
 c3:W.cell? z=some (H.hb:Value)
 c10:W.cell? y=some (.int .i64 size)
 c11:W.cell? ⟨y+1,0,none⟩=some (.func (.func 273) #[] #[z,y])
theorem Gp.chg{P:Nat→Prop}{y:Nat}{size:Int}(h:Gp W H z y size)(hx:Chg P W W')(h1:¬P z∧¬P y∧¬P (y+1)):Gp W' H z y size:=⟨hx.cell h1.1 h.c3,hx.cell h1.2.1 h.c10,hx.cell h1.2.2 h.c11⟩
theorem El:Zi prog 273:=Zi.mk func273 (by kernel_rfl) rfl
theorem Zja:Zi prog 275:=Zi.mk func275 (by kernel_rfl) rfl
theorem Znj{y:Nat}{size:Int}{r:Bool}(h:Zv W H c t n x)(k0:Gp W H z y size)(hs:1≤size∧size≤64)(hr:Qc c t size x.y=r):Calls prog 273 #[z,y] W fun e W'=>e=.returned (.bool r)∧Ext W W':=by
 have b:=Ik h.ko h.ti x.y.bs;obtain⟨u,hu⟩:=Zb (Xh c t x.y.bs);have AR:=Za (fun V (q:Ext W V)=>Rm (h.ext q).cy);have US:=Za (fun V (q:Ext W V)=>Fq (h.ext q).cy.i.ar hu);unfold Qc quo at hr;rw[hu] at hr b;obtain⟨bb,oo,e,e0,e1,e2,e3⟩:=h.cfg.ts t h.ti;cases e;have ti:=h.ti;have tl:(t:Int)<(c.ts.length:Int):=by omega
 have tcp:=h.cfg.tcap;obtain⟨N,hN⟩:=Zb (c.ts.length);have tq:decide (u+size≤(Vg c.ts t).q)=r:=hr;obtain⟨Q,hQ⟩:=Zb ((Vg c.ts t).q);rw[hQ] at tq e0;rw[Nat.zero_add] at e0;have wu:IntKind.i64.wrap (u+size)=u+size:=IntWalk.i64_in _ (by omega);have c2:=h.box.c 2 _ rfl;have c6:=h.box.c 6 _ rfl;have c7:=h.box.c 7 _ rfl;rw[hN] at c2 ti tl tcp;have k3:=fun d os=>cell_regrown k0.c3 d os;have k10:=fun d os=>cell_regrown k0.c10 d os
 have g2:=fun d os=>cell_regrown c2 d os;have g6:=fun d os=>cell_regrown c6 d os;have g7:=fun d os=>cell_regrown c7 d os;have g0:=fun d os=>cell_regrown e0 d os
 have t0:(0:Int)≤(t:Int):=Int.natCast_nonneg _;clear h k0 hr hu hQ hN e1 e2 e3 c2 c6 c7 e0;go_enter func273,ntmps273;go_wp2_with fail;refine wp_region_quiet_below (by kernel_rfl) (by kernel_rfl) ?_
 repeat (any_goals (first|go_big_quiet_step (first|(go_at_call 22;with_reducible exact Vp (AR.out _ (Zk _ _ _)))|(go_at_call 151;with_reducible exact Vp (US.out _ (Zk _ _ _))))|quiet_step (first|(go_at_call 22;with_reducible exact Vp (AR.out _ (Zk _ _ _)))|(go_at_call 151;with_reducible exact Vp (US.out _ (Zk _ _ _))))))
 refine Zc fun WQ xq=>?_;go_wp2;go_ret;exact⟨rfl,xq⟩
theorem Zrv{y:Nat}{size:Int}(h:Zv W H c t n x)(k0:Gp W H z y size)(hs:1≤size∧size≤64):Calls prog 275 #[.pointer (some ⟨y+1,0,none⟩),z] W fun e W'=>e=.returned (.bool (Qc c t size x.y&&Xz x.y))∧Ext W W':=by
 obtain⟨r1,h1⟩:∃r,Qc c t size x.y=r:=⟨_,rfl⟩;obtain⟨r2,h2⟩:∃r,Xz x.y=r:=⟨_,rfl⟩;have F1:=Za (Znj h k0 hs h1);have F2:=Za (fun V (q:Ext W V)=>Bm (h.ext q) h2);have c11:=k0.c11;have K:=Za k0;have ek:=El;unfold Zi at ek;rw[h1,h2];clear h k0 h1 h2 hs;cases r1
 ·go_enter func275,ntmps275;go_wp2_with fail;refine F1.out.ze fun w1 x1=>?_;go_wp2;go_ret;exact⟨rfl,x1⟩
 ·go_enter func275,ntmps275;go_wp2_with fail;refine F1.out.ze fun w1 x1=>?_;have c3:=x1.cell K.out.c3;go_wp2_with fail;refine(F2.out _ x1).zz ?_;go_wp2;go_ret;exact⟨rfl,x1⟩
structure AlC(w W:World)(H:HB)(c:Zh)(t n:Nat)(x':HP)(z:Nat)(o:OpI)(k:Int)(y:Nat)(size:Int):Prop where
 a:AlW w W H c t n x' z o k
 k:Gp W H z y size
 hy:H.hi≤y
theorem AlC.go{x2:HP}{y:Nat}{size:Int}(h:AlC w W H c t n x' z o k y size)(hz:H.hi≤z)(hx:Chg H.hpP W W')(ha:Zv W' H c t n x2):AlC w W' H c t n x2 z o k y size:=
 ⟨h.a.go hz hx ha,h.k.chg hx ⟨h.a.at_.off hz,h.a.at_.off h.hy,h.a.at_.off (Zy6 h.hy (Nat.le_succ y))⟩,h.hy⟩
theorem AlC.ext{y:Nat}{size:Int}(h:AlC w W H c t n x' z o k y size)(hx:Ext W W')(hz:H.hi≤z):AlC w W' H c t n x' z o k y size:=h.go hz (Zy3 hx) (h.a.at_.ext hx)
end
section
variable{w w':World}{H:HB}{c:Zh}{t n a d F:Nat}{x x':HP}
variable{W W':World}{z:Nat}{o:OpI}
theorem Zrw(h:Zv w H c t n x){s:Int}{o:OpI}(hw:HW c t n a d F x)(ha:a+1≤1048576)(hd:d+3≤1048576)(hk:x.work≤1000) :
  Calls prog 232 #[H.hb,opV o,.int .i64 s] w fun e w'=>e=.returned (snV (Ys c t n c.gens F x o.a o.b).2)∧Zv w' H c t n (Ys c t n c.gens F x o.a o.b).1∧Chg H.hpP w w':=by
 obtain⟨z,hz⟩:=Zb (w.heap.size);obtain⟨W0,hW0,o0,x0⟩:=AlW.new h o 47 36 42 78 hz;have HZ:Hid (H.hi≤z∧w.heap.size≤z):=Za ⟨by have:=h.top;omega,by omega⟩;obtain⟨oc,oh,oa,ob,ov⟩:=o;have O0:=Za o0;obtain⟨k0,k1,k2,k3,k4⟩:=o0.b0.k5;obtain⟨q0,q1,q2,q3,q4,q5,q6,q7⟩:=o0.b1.k8;obtain⟨r0,r1,r2,r3,r4,r5,r6,r7⟩:=o0.b1.g8;obtain⟨y0,y1,y2⟩:=o0.bx.k3;have f0:=o0.bx.f 0;have b0:=o0.bh.c 0 _ rfl;have cc0:=o0.at_.box.c 0 _ rfl;unfold opV;simp only;obtain⟨need,e,hn⟩:∃need e,Xg ⟨0,oa,ob⟩=(need,e):=⟨_,_,rfl⟩;have ND:=Za (I4 ⟨0,oa,ob⟩ need e (w:=W0) hn);simp only at ND;by_cases e0:e=0
 ·obtain⟨kc,q,hq⟩:∃kc q,cof c.cl need=(kc,q):=⟨_,_,rfl⟩;have h1:(Xg ⟨0,oa,ob⟩).2=0:=by rw[hn];exact e0
  subst e0;obtain⟨CN,hCN⟩:=Zb (c.cl.length);have CO:=Za (fun W (g:Ext W0 W)=>Zmm (cap:=H.cc) c.cl CN need kc q hCN hq ((o0.at_.ext g).cfg.cl) o0.at_.cfg.cm);rw[hCN] at cc0;by_cases hq0:q=0
  ·subst hq0;have h2:(cof c.cl (Xg ⟨0,oa,ob⟩).1).2=0:=by rw[hn,hq]
   obtain⟨g1,g2,g3,g4⟩:=Zth (xs:=c.cl) (w:=need) (by rw[hq]);obtain⟨j,hj⟩:=Zb (below c.cl need);rw[hj] at g1 g2;rw[hq] at g1;obtain⟨rfl,_⟩:kc=(j:Int)∧(0:Int)=0:=by injection g1 with a b;exact⟨a,b⟩
   obtain⟨size,hsz⟩:=Zb (nth c.cl j);have bd:=h.ko.bounds h.ti g2;have sb:1≤size∧size≤64:=by have:=bd.c2;have:=bd.c64;omega
   have E0:Ys c t n c.gens F x oa ob=(
     let x1:=T6 c t n c.gens F (fun y=>Qc c t size y&&Xz y) x
     if Qc c t size x1.y=false then (x1,Z9 100)
     else if Xz x1.y=false then (x1,Z9 131)
     else
      let x2:=T7 c t x1 j ⟨(j:Int),oa,ob⟩
      let x3:=Qq t x2.1 x2.2
      (Pf c t n c.gens F x3.1 size,⟨0,x3.2,0,Ve c t x2.2,0,0,0,false⟩)):=by
    unfold Ys;rw[if_neg (by rw[h1];simp),if_neg (by rw[h2];simp),hn,hq];simp only[Zy4,hsz]
   obtain⟨RES,hRES⟩:=Zb (Ys c t n c.gens F x oa ob);rw[hRES];rw[hRES] at E0;have cj:∃o',(some (⟨H.ca,0,none⟩:Addr))=some ⟨H.ca,o',none⟩:=⟨0,rfl⟩;obtain⟨cx,co,ce,cc⟩:=o0.at_.cfg.cl j g2;cases ce;have ee:nth c.cl j=size:=hsz;obtain⟨x1,hx1⟩:=Zb (T6 c t n c.gens F (fun y=>Qc c t size y&&Xz y) x);have RM:Hid (∀W y,AlW w W H c t n x z ⟨oc,oh,oa,ob,ov⟩ (j:Int)→Gp W H z y size→H.hi≤y→Calls prog 274 #[H.hb,.func (.func 275) #[] #[.pointer (some ⟨y+1,0,none⟩),z]] W fun e W'=>
     e=.returned (.tuple #[])∧AlW w W' H c t n x1 z ⟨oc,oh,oa,ob,ov⟩ (j:Int)∧Gp W' H z y size):=
    Za fun W y aW cW hy=>(Zne (g:=275) (fa:=#[]) (fb:=#[.pointer (some ⟨y+1,0,none⟩),(z:Value)]) (is:=fun y=>Qc c t size y&&Xz y)
      (K:=fun V=>(Zn V z [H.hb]∧Zn V (z+1) (L6 ⟨oc,oh,oa,ob,ov⟩)∧Zn V (z+2) Nl∧Zn V (z+3) [(j:Int),oa,ob])∧Gp V H z y size) aW.at_ ⟨⟨aW.bh,aW.b0,aW.b1,aW.bx⟩,cW⟩
     (fun V V' kv hc=>by
      have q:∀k,H.hi≤k→¬H.hpP k:=fun k hk=>aW.at_.off hk
      have hz1:=HZ.out.1;exact⟨⟨kv.1.1.chg hc (q _ hz1),kv.1.2.1.chg hc (q _ (by omega)),kv.1.2.2.1.chg hc (q _ (by omega)),kv.1.2.2.2.chg hc (q _ (by omega))⟩,kv.2.chg hc ⟨q _ hz1,q _ hy,q _ (by omega)⟩⟩) hw hd (by omega) Zja
     (fun V y' hV kv=>by
      rw[show(#[]++#[.pointer (some ⟨y+1,0,none⟩),(z:Value)]:Array Value)=#[.pointer (some ⟨y+1,0,none⟩),(z:Value)] from rfl];exact Zrv hV kv.2 sb)).mono fun e V' q=>by
       rw[hx1] at q;exact⟨q.1,⟨q.2.1,q.2.2.1.1.1,q.2.2.1.1.2.1,q.2.2.1.1.2.2.1,q.2.2.1.1.2.2.2,aW.ch.trans q.2.2.2⟩,q.2.2.1.2⟩
   obtain⟨rf1,hr1⟩:=Zb (Qc c t size x1.y);obtain⟨rf2,hr2⟩:=Zb (Xz x1.y);rw[hx1] at E0;simp only at E0;have RA:Hid (rf1=false→RES=(x1,Z9 100)):=Za fun q=>by rw[E0,if_pos (by rw[hr1];exact q)]
   have RB:Hid (rf1=true→rf2=false→RES=(x1,Z9 131)):=Za fun q q2=>by rw[E0,if_neg (by rw[hr1,q];simp),if_pos (by rw[hr2];exact q2)]
   have SUC:Hid (rf1=true→rf2=true→∃(bs':List Bool) (ws':List Int) (p e2 kk v:Int) (xc x3:HP),Qo c t x1.y.bs j=(bs',p,e2)∧Ug c t x1.y.ws p ⟨(j:Int),oa,ob⟩=(ws',kk)∧xc={ x1 with y:=Mc c t { x1.y with bs:=bs',ws:=ws' } p } ∧
     Qq t xc p=(x3,v)∧HW c t n a (d+3) F x3∧x3.work≤700000000∧RES=(Pf c t n c.gens F x3 size,⟨0,v,0,Ve c t p,0,0,0,false⟩)):=Za fun q1 q2=>by
    rw[if_neg (by rw[hr1,q1];simp),if_neg (by rw[hr2,q2];simp)] at E0;have rm:=Cr (fun y=>Qc c t size y&&Xz y) hw.ok hw.F;rw[hx1] at rm;have hdn:Rt ⟨0,oa,ob⟩∧need=oa+ob+1:=by
     unfold Xg at hn;by_cases z:Rt ⟨0,oa,ob⟩
     ·rw[if_pos z] at hn;cases hn;exact⟨z,rfl⟩
     ·rw[if_neg z] at hn;cases hn
    have hb:=Df c.cl need (by rw[hj];exact g2);rw[hj,hdn.2] at hb;obtain⟨⟨z1,z2⟩,z3,z4,z5,z6⟩:=hdn.1;have m8:=h.ko.cl.most;have hdk:Rt ⟨(j:Int),oa,ob⟩:=⟨⟨by simp,by show(j:Int)<8;omega⟩,z3,z4,z5,z6⟩;obtain⟨s,ma⟩:=Zfy (hd:=⟨(j:Int),oa,ob⟩) rm.ok g2 hdk rfl (by show oa+ob+1≤_;omega) (by rw[hsz,hr1];exact q1);have fr2:Xz (T7 c t x1 j ⟨(j:Int),oa,ob⟩).1.y=true:=by unfold Xz;rw[ma.l];have:=hr2;rw[q2] at this;exact this
    have mi:=Cv (s:=(s:Int)) ma.ok fr2 ⟨by omega,by have:=ma.lt;omega⟩;have mo:=h.most;refine⟨(Qo c t x1.y.bs j).1,(Ug c t x1.y.ws (Qo c t x1.y.bs j).2.1 ⟨(j:Int),oa,ob⟩).1,(Qo c t x1.y.bs j).2.1,(Qo c t x1.y.bs j).2.2,(Ug c t x1.y.ws (Qo c t x1.y.bs j).2.1 ⟨(j:Int),oa,ob⟩).2,(Qq t (T7 c t x1 j ⟨(j:Int),oa,ob⟩).1 (Qo c t x1.y.bs j).2.1).2,_,(Qq t (T7 c t x1 j ⟨(j:Int),oa,ob⟩).1 (Qo c t x1.y.bs j).2.1).1,rfl,rfl,rfl,rfl,?_,?_,?_⟩
    ·rw[ma.tk];simp only;exact⟨mi.ok,hw.a,by omega,by have:=hw.F;unfold Z7 at this ⊢;rw[mi.len,ma.l,rm.len];exact this⟩
    ·rw[ma.tk];simp only;rw[mi.work,ma.work];rcases rm.or with r|r
     ·rw[r];omega
     ·have:=r.2.2.1;omega
    ·rw[E0];rfl
   have FT:Hid (∀W y,AlC w W H c t n x1 z ⟨oc,oh,oa,ob,ov⟩ (j:Int) y size→Calls prog 273 #[z,.pointer (some ⟨y,0,none⟩)] W fun e W'=>e=.returned (.bool rf1)∧Ext W W'):=Za fun W y q=>Znj q.a.at_ q.k sb hr1
   have FR:Hid (∀W y,AlC w W H c t n x1 z ⟨oc,oh,oa,ob,ov⟩ (j:Int) y size→Calls prog 276 #[H.hb] W fun e W'=>e=.returned (.bool rf2)∧W=W'):=Za fun W y q=>Bm q.a.at_ hr2
   have J2:=Za g2;have SB:=Za sb;have AA:=Za (And.intro ha hd);have tj:(j:Int)<(CN:Int):=by omega
   have tc:=o0.at_.cfg.ccap;rw[hCN] at tc;have j0:(0:Int)≤(j:Int):=Int.natCast_nonneg _;have CJ:Hid (W0.cell? ⟨H.ca,j,none⟩=some (.int .i64 size)):=Za (by rw[←hsz];rw[Nat.zero_add] at cc;exact cc);have s0:=fun p w=>run_store prog w p (.func (.func 273) #[] #[z,p.block]) .plain rfl
   clear o0 x0 h q0 q1 q2 q3 q4 q5 q6 q7 r0 r1 r2 r3 r4 r5 r6 r7;clear hn hq h1 h2 g1 g3 g4 hj hsz bd cc cj ee E0 hCN s0 hx1 hr1 hr2 hw ha hd hk hRES sb;have ek:=El;unfold Zi at ek;go_enter func232,ntmps232;go_wp2_with fail;refine ND.out.mono ?_;rintro e w1 ⟨rfl,x1'⟩;have b0:=x1'.cell b0;have cc0:=x1'.cell cc0;have XX1:=Za x1';go_wp2_with fail;refine(CO.out _ XX1.out).mono ?_;rintro e w2 ⟨rfl,x2'⟩;have xx:=XX1.out.trans x2';have O2:=O0.out.ext xx HZ.out.1;have y0:=O2.bx.c 0 _ rfl;have f0:=O2.bx.f 0;have o3:=O2.cls HZ.out (j:Int);have O3:=Za o3;have lca:H.ca≠z+3:=by have:=O2.at_.ord.c;have:=HZ.out.1;omega
   have cj3:(w2.setCell ⟨z+3,0,none⟩ (.int .i64 (j:Int))).cell? ⟨H.ca,j,none⟩=some (.int .i64 size):=by
    rw[cell_far _ _ _ _ (fun e=>lca e.symm)];exact xx.cell CJ.out
   obtain⟨W3,hW3⟩:=Zb (w2.setCell ⟨z+3,0,none⟩ (.int .i64 (j:Int)));rw[hW3] at o3 cj3;have b0:=o3.bh.c 0 _ rfl;have cc0:W3.cell? H.hb=some (.slice (some ⟨H.ca,0,none⟩) CN H.cc):=by
    rw[←hW3,cell_far _ _ _ _ (by have:=o3.at_.ord.h;have:=HZ.out.1;show z+3≠H.hb;omega)];exact x2'.cell cc0
   have y0:=o3.bx.c 0 _ rfl;go_wp2_with fail;have n0:=World.new_ne W3 _ b0;have n1:=World.new_ne W3 _ cc0;have n2:=World.new_ne W3 _ y0;have n3:=World.new_ne W3 _ cj3;obtain⟨Y,hY⟩:=Zb (W3.heap.size)
   go_region_held3 (fun w'=>w'.cell? z=some (H.hb:Value)∧w'.cell? H.hb=some (.slice (some ⟨H.ca,0,none⟩) CN H.cc)∧w'.cell? ⟨z+3,0,none⟩=some (.int .i64 (j:Int))∧w'.cell? ⟨H.ca,j,none⟩=some (.int .i64 size))
    (go_keep) (fail)
   all_goals
    obtain⟨W4,hW4⟩:=Zb ((W3.alloc (.cells #[.int .i64 size] 3)).drew);have x34:Ext W3 W4:=by rw[←hW4];exact((Zy2 W3).alloc _).drew
    have hs4:W4.heap.size=Y+1:=by rw[←hW4,←hY];simp
    have b10:Zn W4 Y [.int .i64 size]:=by rw[←hW4];exact(Zn.new W3 [.int .i64 size] 3 hY).ext (Zy2 _).drew
    obtain⟨W5,hW5⟩:=Zb (W4.alloc (.cells #[.func (.func 273) #[] #[z,Y]] 32));have x45:Ext W4 W5:=by rw[←hW5];exact(Zy2 W4).alloc _
    have b11:Zn W5 (Y+1) [.func (.func 273) #[] #[z,Y]]:=by rw[←hW5];exact Zn.new W4 [.func (.func 273) #[] #[z,Y]] _ hs4
    have a5:=o3.ext (x34.trans x45) HZ.out.1;have hY1:H.hi≤Y:=by have:=o3.at_.top;omega
    have k5:Gp W5 H z Y size:=⟨a5.bh.c 0 _ rfl,(b10.ext x45).c 0 _ rfl,b11.c 0 _ rfl⟩;have A5:=Za (And.intro a5 (And.intro k5 hY1));have b0:=x34.cell b0;have lz:z<W4.heap.size:=Zj b0;have b05:=a5.bh.c 0 _ rfl;rw[hW4];have sF:=fun p w=>run_store prog w p (.func (.func 273) #[] #[z,Y]) .plain rfl
    clear hW4 x34 x45 b10 b11 a5 hY1 k5 n0 n1 n2 n3 y0 cc0 cj3;go_wp2_with fail;refine(RM.out _ _ A5.out.1 A5.out.2.1 A5.out.2.2).mono ?_;rintro e w6 ⟨rfl,a6,k6⟩;have c6:=AlC.mk a6 k6 A5.out.2.2;have C6:=Za c6;have c11:=k6.c11;clear a6 k6 c6 b05 lz b0 RM;go_wp2_with fail;refine(FT.out _ _ C6.out).ze fun w7 x7=>?_;have C7:=Za (C6.out.ext x7 HZ.out.1);have c3:=C7.out.k.c3;clear x7 c11;cases rf1
    ·have O3:=Za C7.out.a;go_wp2_with fail;refine(Xm (k:=100)).ze fun wT xT=>?_;have QT:=Za (O3.out.ext xT HZ.out.1);obtain⟨q0,q1,q2,q3,q4,q5,q6,q7⟩:=QT.out.b1.k8;obtain⟨r0,r1,r2,r3,r4,r5,r6,r7⟩:=QT.out.b1.g8;clear xT;go_wp2_with fail;obtain⟨p0,p1,p2,p3,p4,p5,p6,p7,hfa,hfc⟩:=QT.out.fin HZ.out (.int .i64 100) (.int .u64 0) (.int .u64 0) (.int .i64 0) (.int .i64 0) (.int .i64 0) (.int .i64 0) (.bool false);refine bodyPost_ret (v:=.agg #[(100:Int),.int .u64 0,.int .u64 0,(0:Int),(0:Int),(0:Int),(0:Int),false]) (by simp[results,results232,go_sem,p0,p1,p2,p3,p4,p5,p6,p7]) rfl ?_;exact⟨by rw[RA.out trivial];rfl,by rw[RA.out trivial];exact hfa,hfc⟩
    ·go_wp2_with fail;refine(FR.out _ _ C7.out).zz ?_;cases rf2
     ·have O3:=Za C7.out.a;go_wp2_with fail;refine(Xm (k:=131)).ze fun wT xT=>?_;have QT:=Za (O3.out.ext xT HZ.out.1);obtain⟨q0,q1,q2,q3,q4,q5,q6,q7⟩:=QT.out.b1.k8;obtain⟨r0,r1,r2,r3,r4,r5,r6,r7⟩:=QT.out.b1.g8;clear xT;go_wp2_with fail;obtain⟨p0,p1,p2,p3,p4,p5,p6,p7,hfa,hfc⟩:=QT.out.fin HZ.out (.int .i64 131) (.int .u64 0) (.int .u64 0) (.int .i64 0) (.int .i64 0) (.int .i64 0) (.int .i64 0) (.bool false);refine bodyPost_ret (v:=.agg #[(131:Int),.int .u64 0,.int .u64 0,(0:Int),(0:Int),(0:Int),(0:Int),false]) (by simp[results,results232,go_sem,p0,p1,p2,p3,p4,p5,p6,p7]) rfl ?_;exact⟨by rw[RB.out trivial trivial];rfl,by rw[RB.out trivial trivial];exact hfa,hfc⟩
     ·obtain⟨bs',ws',p,e2,kk,v,xc,x3,s1,s2,s3,s4,s5,s6,s7⟩:=SUC.out trivial rfl;obtain⟨x4,hx4⟩:=Zb (Pf c t n c.gens F x3 size);rw[hx4] at s7;obtain⟨PA,hPA⟩:=Zb (Ve c t p);rw[hPA] at s7;have TK:Hid (∀W,AlC w W H c t n x1 z ⟨oc,oh,oa,ob,ov⟩ (j:Int) Y size→Calls prog 277 #[H.B.ab,(j:Int)] W fun e W'=>e=.returned (.tuple #[.int .i64 p,.int .i64 e2])∧AlC w W' H c t n { x1 with y:={ x1.y with bs:=bs' } } z ⟨oc,oh,oa,ob,ov⟩ (j:Int) Y size):=
       Za fun W q=>(Zh4 q.a.at_.cy.i.ar q.a.at_.cy.i.k.dbr (by have:=Zmn q.a.at_.ko q.a.at_.ti (bs:=x1.y.bs) J2.out;rw[s1] at this;exact this)).mono fun e W' g=>by
        obtain⟨a1,b1⟩:=q.a.at_.cy.i.arTo g.2.1 g.2.2;obtain⟨a2,b2⟩:=q.a.at_.cy.inTo a1 b1 rfl rfl q.a.at_.cy.le;obtain⟨a3,b3⟩:=q.a.at_.cyTo a2 b2;exact⟨g.1,q.go HZ.out.1 b3 a3⟩
      have MK:Hid (∀W,AlC w W H c t n { x1 with y:={ x1.y with bs:=bs' } } z ⟨oc,oh,oa,ob,ov⟩ (j:Int) Y size→Calls prog 278 #[H.B.bb,.int .i64 p,.agg #[(j:Int),oa,ob]] W fun e W'=>e=.returned (.int .i64 kk)∧AlC w W' H c t n { x1 with y:={ x1.y with bs:=bs',ws:=ws' } } z ⟨oc,oh,oa,ob,ov⟩ (j:Int) Y size):=
       Za fun W q=>(Zmk ⟨(j:Int),oa,ob⟩ q.a.at_.cy.i.k.body s2).mono fun e W' g=>by
        obtain⟨a1,b1⟩:=q.a.at_.cy.i.wsTo g.2.1 g.2.2;obtain⟨a2,b2⟩:=q.a.at_.cy.inTo a1 b1 rfl rfl q.a.at_.cy.le;obtain⟨a3,b3⟩:=q.a.at_.cyTo a2 b2;exact⟨g.1,q.go HZ.out.1 b3 a3⟩
      have BK:Hid (∀W,AlC w W H c t n { x1 with y:={ x1.y with bs:=bs',ws:=ws' } } z ⟨oc,oh,oa,ob,ov⟩ (j:Int) Y size→Calls prog 279 #[H.B.yb,.int .i64 p] W fun e W'=>(∃k:Int,e=.returned (.int .i64 k))∧AlC w W' H c t n xc z ⟨oc,oh,oa,ob,ov⟩ (j:Int) Y size):=
       Za fun W q=>(Zm3 q.a.at_.cy).mono fun e W' g=>by
        obtain⟨a3,b3⟩:=q.a.at_.cyTo g.2.1 g.2.2;rw[s3];exact⟨g.1,q.go HZ.out.1 b3 a3⟩
      have MT:Hid (∀W,AlC w W H c t n xc z ⟨oc,oh,oa,ob,ov⟩ (j:Int) Y size→Calls prog 280 #[H.hb,.int .i64 p] W fun e W'=>e=.returned (.int .u64 v)∧AlC w W' H c t n x3 z ⟨oc,oh,oa,ob,ov⟩ (j:Int) Y size):=
       Za fun W q=>(Znd q.a.at_ s4).mono fun e W' g=>⟨g.1,q.go HZ.out.1 g.2.2 g.2.1⟩
      have PC:Hid (∀W,AlC w W H c t n x3 z ⟨oc,oh,oa,ob,ov⟩ (j:Int) Y size→Calls prog 281 #[H.hb,.int .i64 size] W fun e W'=>e=.returned (.tuple #[])∧AlC w W' H c t n x4 z ⟨oc,oh,oa,ob,ov⟩ (j:Int) Y size):=
       Za fun W q=>(Zrk q.a.at_ s5 SB.out AA.out.1 s6).mono fun e W' g=>by
        rw[hx4] at g;exact⟨g.1,q.go HZ.out.1 g.2.2 g.2.1⟩
      have AD:Hid (∀W,AlC w W H c t n x4 z ⟨oc,oh,oa,ob,ov⟩ (j:Int) Y size→Calls prog 21 #[H.B.pb,.int .i64 p] W fun e W'=>(∃k:Int,e=.returned (.tuple #[.int .i64 PA,.int .i64 k]))∧Ext W W'):=
       Za fun W q=>by rw[←hPA];exact Zel q.a.at_
      have S7:=Za s7;clear s1 s2 s3 s4 s5 s6 s7 hx4 hPA FT FR RA RB SUC;have c7:=C7.out.a.at_.box.c 7 _ rfl;have y0:=C7.out.a.bx.c 0 _ rfl;have C7d:=Za (C7.out.ext (Zy2 w7).drew HZ.out.1);have AR1:=Za (Rm C7d.out.a.at_.cy);have TK1:=Za (TK.out _ C7d.out);clear TK;go_wp2_with fail
      go_region_held3 (fun w'=>w'.cell? z=some (H.hb:Value)∧w'.cell? ⟨H.hb,7,none⟩=some (H.B.yb:Value)∧w'.cell? ⟨z+3,0,none⟩=some (.int .i64 (j:Int)))
       ((first|go_keep|(go_split_ands;exact⟨C8.out.k.c3,C8.out.a.at_.box.c 7 _ rfl,C8.out.a.bx.c 0 _ rfl⟩)))
       (first|(go_at_call 22;with_reducible refine AR1.out.zz ?_)|(go_at_call 277;with_reducible refine TK1.out.ze fun w8 c8=>?_;have C8:=Za c8;clear c8)|fail)
      all_goals
       have c3:=C8.out.k.c3;have c7:=C8.out.a.at_.box.c 7 _ rfl;obtain⟨y0,y1,y2⟩:=C8.out.a.bx.k3;have C8d:=Za (C8.out.ext (Zy2 w8).drew HZ.out.1);have BD1:=Za (Oh C8d.out.a.at_.cy);have MK1:=Za (MK.out _ C8d.out);clear MK;go_wp2_with fail
       go_region_held3 (fun w'=>w'.cell? z=some (H.hb:Value)∧w'.cell? ⟨H.hb,7,none⟩=some (H.B.yb:Value)∧w'.cell? ⟨z+3,0,none⟩=some (.int .i64 (j:Int))∧w'.cell? ⟨z+3,1,none⟩=some (.int .i64 oa)∧w'.cell? ⟨z+3,2,none⟩=some (.int .i64 ob))
        ((first|go_keep|(go_split_ands;exact⟨C9.out.k.c3,C9.out.a.at_.box.c 7 _ rfl,C9.out.a.bx.c 0 _ rfl,C9.out.a.bx.c 1 _ rfl,C9.out.a.bx.c 2 _ rfl⟩)))
        (first|(go_at_call 82;with_reducible refine BD1.out.zz ?_)|(go_at_call 278;with_reducible refine MK1.out.ze fun w9 c9=>?_;have C9:=Za c9;clear c9)|fail)
       all_goals
        have c3:=C9.out.k.c3;have c7:=C9.out.a.at_.box.c 7 _ rfl;go_wp2_with fail;refine(BK.out _ C9.out).mono ?_;rintro e wA ⟨⟨kA,rfl⟩,cA⟩;have CA:=Za cA;have c3:=cA.k.c3;clear cA BK;go_wp2_with fail;refine(MT.out _ CA.out).ze fun wB cB=>?_;have CB:=Za cB;have c3:=cB.k.c3;have c10:=cB.k.c10;clear cB MT;go_wp2_with fail;refine(PC.out _ CB.out).ze fun wC cC=>?_;have CC:=Za cC;have c3:=cC.k.c3;have c7:=cC.a.at_.box.c 7 _ rfl;have PL:=Za (Og cC.a.at_.cy);clear cC PC;go_wp2_with fail;refine(PL.out).zz ?_;go_wp2_with fail;refine(AD.out _ CC.out).mono ?_;rintro e wD ⟨⟨kD,rfl⟩,xD⟩;have QT:=Za (CC.out.a.ext xD HZ.out.1);obtain⟨q0,q1,q2,q3,q4,q5,q6,q7⟩:=QT.out.b1.k8;obtain⟨r0,r1,r2,r3,r4,r5,r6,r7⟩:=QT.out.b1.g8;clear xD AD;go_wp2_with fail;obtain⟨p0,p1,p2,p3,p4,p5,p6,p7,hfa,hfc⟩:=QT.out.fin HZ.out (.int .i64 0) (.int .u64 v) (.int .u64 0) (.int .i64 PA) (.int .i64 0) (.int .i64 0) (.int .i64 0) (.bool false);refine bodyPost_ret (v:=.agg #[(0:Int),.int .u64 v,.int .u64 0,.int .i64 PA,(0:Int),(0:Int),(0:Int),false]) (by simp[results,results232,go_sem,p0,p1,p2,p3,p4,p5,p6,p7]) rfl ?_;exact⟨by rw[S7.out];rfl,by rw[S7.out];exact hfa,hfc⟩
  ·have h2:(cof c.cl (Xg ⟨0,oa,ob⟩).1).2≠0:=by rw[hn,hq];exact hq0
   have ER:Ys c t n c.gens F x oa ob=(x,Z9 50):=by unfold Ys;rw[if_neg (by rw[h1];simp),if_pos h2]
   rw[ER];have tq:(q != 0)=true:=by simpa using hq0
   clear ER h1 h2 hn hq hw ha hd hk hq0 hCN o0 x0 h q0 q1 q2 q3 q4 q5 q6 q7 r0 r1 r2 r3 r4 r5 r6 r7;go_enter func232,ntmps232;go_wp2_with fail;refine ND.out.ze fun w1 x1=>?_;have b0:=x1.cell b0;have cc0:=x1.cell cc0;have X1:=Za x1;go_wp2_with fail;refine(CO.out _ x1).ze fun w2 x2=>?_;have O2:=O0.out.ext (x1.trans x2) HZ.out.1;have y0:=O2.bx.c 0 _ rfl;have f0:=O2.bx.f 0;have O3:=Za (O2.cls HZ.out kc);clear O2 x2 x1;go_wp2_with fail;refine(Xm (k:=50)).ze fun wT xT=>?_;have QT:=Za (O3.out.ext xT HZ.out.1);obtain⟨q0,q1,q2,q3,q4,q5,q6,q7⟩:=QT.out.b1.k8;obtain⟨r0,r1,r2,r3,r4,r5,r6,r7⟩:=QT.out.b1.g8;clear xT;go_wp2_with fail;obtain⟨p0,p1,p2,p3,p4,p5,p6,p7,hfa,hfc⟩:=QT.out.fin HZ.out (.int .i64 50) (.int .u64 0) (.int .u64 0) (.int .i64 0) (.int .i64 0) (.int .i64 0) (.int .i64 0) (.bool false);refine bodyPost_ret (v:=.agg #[(50:Int),.int .u64 0,.int .u64 0,(0:Int),(0:Int),(0:Int),(0:Int),false]) (by simp[results,results232,go_sem,p0,p1,p2,p3,p4,p5,p6,p7]) rfl ?_;exact⟨rfl,hfa,hfc⟩
 ·have h1:(Xg ⟨0,oa,ob⟩).2≠0:=by rw[hn];exact e0
  have ER:Ys c t n c.gens F x oa ob=(x,Z9 50):=by unfold Ys;rw[if_pos h1]
  rw[ER];have te:(e != 0)=true:=by simpa using e0
  clear ER h1 hn hw ha hd hk e0;clear o0 x0 h q0 q1 q2 q3 q4 q5 q6 q7 r0 r1 r2 r3 r4 r5 r6 r7;go_enter func232,ntmps232;go_wp2_with fail;refine ND.out.ze fun w1 x1=>?_;have O1:=Za (O0.out.ext x1 HZ.out.1);clear x1;go_wp2_with fail;refine(Xm (k:=50)).ze fun wT xT=>?_;have QT:=Za (O1.out.ext xT HZ.out.1);obtain⟨q0,q1,q2,q3,q4,q5,q6,q7⟩:=QT.out.b1.k8;obtain⟨r0,r1,r2,r3,r4,r5,r6,r7⟩:=QT.out.b1.g8;clear xT;go_wp2_with fail;obtain⟨p0,p1,p2,p3,p4,p5,p6,p7,hfa,hfc⟩:=QT.out.fin HZ.out (.int .i64 50) (.int .u64 0) (.int .u64 0) (.int .i64 0) (.int .i64 0) (.int .i64 0) (.int .i64 0) (.bool false);refine bodyPost_ret (v:=.agg #[(50:Int),.int .u64 0,.int .u64 0,(0:Int),(0:Int),(0:Int),(0:Int),false]) (by simp[results,results232,go_sem,p0,p1,p2,p3,p4,p5,p6,p7]) rfl ?_;exact⟨rfl,hfa,hfc⟩
end
end Go.Proofs.YtfcldaembdedjaaGreatDoor
