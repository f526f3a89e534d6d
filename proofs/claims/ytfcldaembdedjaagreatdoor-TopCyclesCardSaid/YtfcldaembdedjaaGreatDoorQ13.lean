/-
  Parts of the proof of TopCycles: Hp9, HpA, HpB, TopQ, TopR.
-/
import Derived.Test.YtfcldaembdedjaaGreatDoorQ12
set_option linter.unusedVariables false
set_option linter.unusedSimpArgs false
set_option maxRecDepth 100000
set_option maxHeartbeats 16000000
namespace Go.Proofs.YtfcldaembdedjaaGreatDoor
open Go.RowKit Tryz
section
variable{w w' W W':World}{H:HB}{c:Zh}{t n a d F z:Nat}{x x':HP}{o:OpI}{k:Int}
theorem Wh:Calls prog 190 #[] w fun e w'=>e=.returned (.agg #[.nilFunc,.func (.func 232) #[] #[],.func (.func 233) #[] #[],.func (.func 234) #[] #[],.func (.func 235) #[] #[],.func (.func 236) #[] #[],.func (.func 237) #[] #[],.func (.func 238) #[] #[]])∧Ext w w':=by
 obtain⟨z,hz⟩:=Zb (w.heap.size);obtain⟨W1,hW1⟩:=Zb (w.alloc (.cells #[.nilFunc,.nilFunc,.nilFunc,.nilFunc,.nilFunc,.nilFunc,.nilFunc,.nilFunc] 298));have b1:Zn W1 z [.nilFunc,.nilFunc,.nilFunc,.nilFunc,.nilFunc,.nilFunc,.nilFunc,.nilFunc]:=by rw[←hW1];exact Zn.new w [.nilFunc,.nilFunc,.nilFunc,.nilFunc,.nilFunc,.nilFunc,.nilFunc,.nilFunc] _ hz
 have x1:Ext w W1:=by rw[←hW1];exact(Zy2 w).alloc _
 have sf:=fun k p w=>run_store prog w p (.func (.func k) #[] #[]) .plain rfl
 have sn:=fun p w=>run_store prog w p .nilFunc .plain rfl
 obtain⟨q0,q1,q2,q3,q4,q5,q6,q7⟩:=b1.k8;obtain⟨r0,r1,r2,r3,r4,r5,r6,r7⟩:=b1.g8;have FIN:Hid (∀v0 v1 v2 v3 v4 v5 v6 v7,Zn (put8 W1 z v0 v1 v2 v3 v4 v5 v6 v7) z [v0,v1,v2,v3,v4,v5,v6,v7]∧Ext w (put8 W1 z v0 v1 v2 v3 v4 v5 v6 v7)):=Za fun v0 v1 v2 v3 v4 v5 v6 v7=>⟨b1.put8 _ _ _ _ _ _ _ _,(Tn W1 z _ _ _ _ _ _ _ _).over x1 fun k e=>by have e1:k=z:=e;omega⟩
 clear b1 x1;go_enter func190,ntmps190;go_wp2_with fail;obtain⟨g,gx⟩:=FIN.out .nilFunc (.func (.func 232) #[] #[]) (.func (.func 233) #[] #[]) (.func (.func 234) #[] #[]) (.func (.func 235) #[] #[]) (.func (.func 236) #[] #[]) (.func (.func 237) #[] #[]) (.func (.func 238) #[] #[]);obtain⟨p0,p1,p2,p3,p4,p5,p6,p7⟩:=g.k8;refine bodyPost_ret (v:=.agg #[.nilFunc,.func (.func 232) #[] #[],.func (.func 233) #[] #[],.func (.func 234) #[] #[],.func (.func 235) #[] #[],.func (.func 236) #[] #[],.func (.func 237) #[] #[],.func (.func 238) #[] #[]]) (by simp[results,results190,go_sem,p0,p1,p2,p3,p4,p5,p6,p7]) rfl ⟨rfl,gx⟩
theorem L7{w1:World}{y:Nat}(x1:Ext w w1)(hy:w1.heap.size=y):∃W2 W3,w1.alloc (.cells #[.nilFunc,.nilFunc,.nilFunc,.nilFunc,.nilFunc,.nilFunc,.nilFunc,.nilFunc] 298)=W2∧((((((((w1.alloc (.cells #[.nilFunc,.nilFunc,.nilFunc,.nilFunc,.nilFunc,.nilFunc,.nilFunc,.nilFunc] 298)).setCell y (.nilFunc)).setCell ⟨y,1,none⟩ (.func (.func 232) #[] #[])).setCell ⟨y,2,none⟩ (.func (.func 233) #[] #[])).setCell ⟨y,3,none⟩ (.func (.func 234) #[] #[])).setCell ⟨y,4,none⟩ (.func (.func 235) #[] #[])).setCell ⟨y,5,none⟩ (.func (.func 236) #[] #[])).setCell ⟨y,6,none⟩ (.func (.func 237) #[] #[])).setCell ⟨y,7,none⟩ (.func (.func 238) #[] #[])=W3∧Zn W2 y [.nilFunc,.nilFunc,.nilFunc,.nilFunc,.nilFunc,.nilFunc,.nilFunc,.nilFunc]∧Zn W3 y [.nilFunc,.func (.func 232) #[] #[],.func (.func 233) #[] #[],.func (.func 234) #[] #[],.func (.func 235) #[] #[],.func (.func 236) #[] #[],.func (.func 237) #[] #[],.func (.func 238) #[] #[]]∧Ext w W3:=
 ⟨_,_,rfl,rfl,Zn.new w1 [.nilFunc,.nilFunc,.nilFunc,.nilFunc,.nilFunc,.nilFunc,.nilFunc,.nilFunc] _ hy,(Zn.new w1 [.nilFunc,.nilFunc,.nilFunc,.nilFunc,.nilFunc,.nilFunc,.nilFunc,.nilFunc] _ hy).put8 .nilFunc (.func (.func 232) #[] #[]) (.func (.func 233) #[] #[]) (.func (.func 234) #[] #[]) (.func (.func 235) #[] #[]) (.func (.func 236) #[] #[]) (.func (.func 237) #[] #[]) (.func (.func 238) #[] #[]),(Tn _ y _ _ _ _ _ _ _ _).over (x1.alloc _) fun k e=>by have e1:k=y:=e;have:=x1.size;omega⟩
theorem Znk(h:Zv w H c t n x){o:OpI}(hc:o.code<1∨7<o.code)(hu:0≤o.code∧o.code<256) :
  Calls prog 150 #[H.hb,opV o] w fun e w'=>e=.returned (snV (Z9 250))∧Zv w' H c t n x∧Chg H.hpP w w':=by
 obtain⟨z,hz⟩:=Zb (w.heap.size);obtain⟨W0,hW0,o0,x0⟩:=OpW.new h o 36 42 hz;have HZ:Hid (H.hi≤z∧w.heap.size≤z):=Za ⟨by have:=h.top;omega,by omega⟩;have sf:=fun k p w=>run_store prog w p (.func (.func k) #[] #[]) .plain rfl
 have sn:=fun p w=>run_store prog w p .nilFunc .plain rfl
 have en:∀w:World,Sem.run prog (binOp BinOp.eql 297 .nilFunc .nilFunc) w=.ok (.bool true) w:=fun w=>rfl
 have ef:∀(k:Nat) (w:World),Sem.run prog (binOp BinOp.eql 297 (.func (.func k) #[] #[]) .nilFunc) w=.ok (.bool false) w:=fun k w=>rfl
 obtain⟨oc,oh,oa,ob,ov⟩:=o;have O0:=Za o0;unfold opV;simp only at hc hu ⊢;clear h o0 x0;by_cases e0:oc=0
 ·subst e0;clear hc hu;go_enter func150,ntmps150;go_wp2_with fail;refine Wh.ze fun w1 x1=>?_;obtain⟨y,hy⟩:=Zb (w1.heap.size);obtain⟨W2,W3,hW2,hW3,b2,bl,x3⟩:=L7 x1 hy;rw[hW2] at hW3;have LY:Hid (H.hi≤y∧z+1<y):=Za ⟨by have:=x1.size;have:=O0.out.at_.top;omega,by have:=x1.size;have:=O0.out.b1.c 0 _ rfl;have:=Zj this;(try simp only at this);omega⟩;obtain⟨q0,q1,q2,q3,q4,q5,q6,q7⟩:=b2.k8;obtain⟨r0,r1,r2,r3,r4,r5,r6,r7⟩:=b2.g8;have BL:=Za bl;have O3:=Za (O0.out.ext x3 HZ.out.1);obtain⟨k0,k1,k2,k3,k4⟩:=O3.out.b0.k5;obtain⟨l0,l1,l2,l3,l4,l5,l6,l7⟩:=bl.k8;clear b2 x1 x3 bl;go_wp2_with fail;refine(Xm (k:=250)).ze fun wT xT=>?_;have QT:=Za (O3.out.ext xT HZ.out.1);obtain⟨q0,q1,q2,q3,q4,q5,q6,q7⟩:=QT.out.b1.k8;obtain⟨r0,r1,r2,r3,r4,r5,r6,r7⟩:=QT.out.b1.g8;clear xT;go_wp2_with fail;obtain⟨p0,p1,p2,p3,p4,p5,p6,p7,hfa,hfc⟩:=QT.out.fin HZ.out (.int .i64 250) (.int .u64 0) (.int .u64 0) (.int .i64 0) (.int .i64 0) (.int .i64 0) (.int .i64 0) (.bool false);refine bodyPost_ret (v:=.agg #[(250:Int),.int .u64 0,.int .u64 0,(0:Int),(0:Int),(0:Int),(0:Int),false]) (by simp[results,results150,go_sem,p0,p1,p2,p3,p4,p5,p6,p7]) rfl ?_;exact⟨rfl,hfa,hfc⟩
 ·have t8:decide ((8:Int)≤oc)=true:=Zyy (by omega);have tw:IntKind.i64.wrap oc=oc:=IntWalk.i64_in _ (by omega);clear hc hu e0;go_enter func150,ntmps150;go_wp2_with fail;refine Wh.ze fun w1 x1=>?_;obtain⟨y,hy⟩:=Zb (w1.heap.size);obtain⟨W2,W3,hW2,hW3,b2,bl,x3⟩:=L7 x1 hy;rw[hW2] at hW3;have LY:Hid (H.hi≤y∧z+1<y):=Za ⟨by have:=x1.size;have:=O0.out.at_.top;omega,by have:=x1.size;have:=O0.out.b1.c 0 _ rfl;have:=Zj this;(try simp only at this);omega⟩;obtain⟨q0,q1,q2,q3,q4,q5,q6,q7⟩:=b2.k8;obtain⟨r0,r1,r2,r3,r4,r5,r6,r7⟩:=b2.g8;have BL:=Za bl;have O3:=Za (O0.out.ext x3 HZ.out.1);obtain⟨k0,k1,k2,k3,k4⟩:=O3.out.b0.k5;obtain⟨l0,l1,l2,l3,l4,l5,l6,l7⟩:=bl.k8;clear b2 x1 x3 bl;go_wp2_with fail;refine(Xm (k:=250)).ze fun wT xT=>?_;have QT:=Za (O3.out.ext xT HZ.out.1);obtain⟨q0,q1,q2,q3,q4,q5,q6,q7⟩:=QT.out.b1.k8;obtain⟨r0,r1,r2,r3,r4,r5,r6,r7⟩:=QT.out.b1.g8;clear xT;go_wp2_with fail;obtain⟨p0,p1,p2,p3,p4,p5,p6,p7,hfa,hfc⟩:=QT.out.fin HZ.out (.int .i64 250) (.int .u64 0) (.int .u64 0) (.int .i64 0) (.int .i64 0) (.int .i64 0) (.int .i64 0) (.bool false);refine bodyPost_ret (v:=.agg #[(250:Int),.int .u64 0,.int .u64 0,(0:Int),(0:Int),(0:Int),(0:Int),false]) (by simp[results,results150,go_sem,p0,p1,p2,p3,p4,p5,p6,p7]) rfl ?_;exact⟨rfl,hfa,hfc⟩
theorem Zrx{s:Int}(q0:Zv w H c t n x){o:OpI}(hw:HW c t n a d F x)(ha:a+1≤1048576)(hd:d+3≤1048576)(hk:x.work≤1000) :
  Calls prog 232 #[H.hb,opV o,.int .i64 s] w fun e w'=>∃s0 s1 s2 s3 s4 s5 s6 s7,e=.returned (.agg #[.int .i64 s0,.int .u64 s1,.int .u64 s2,.int .i64 s3,.int .i64 s4,.int .i64 s5,.int .i64 s6,.bool s7])∧((⟨s0,s1,s2,s3,s4,s5,s6,s7⟩:Sn)=(Ys c t n c.gens F x o.a o.b).2)∧Zv w' H c t n (Ys c t n c.gens F x o.a o.b).1∧Chg H.hpP w w':=
 (Zrw q0 hw ha hd hk).mono fun e w' q=>by obtain⟨q1,q2,q3⟩:=q;exact⟨_,_,_,_,_,_,_,_,q1,rfl,q2,q3⟩
theorem Zwo(h:Zv w H c t n x){o:OpI}(hc:o.code=1)(hu:0≤o.h∧o.h<18446744073709551616)(hw:HW c t n a d F x)(ha:a+1≤1048576)(hd:d+3≤1048576)(hk:x.work≤1000) :
  Calls prog 150 #[H.hb,opV o] w fun e w'=>∃f:Int,e=.returned (snV (Yi c t n c.gens F f x o).2)∧Zv w' H c t n (Yi c t n c.gens F f x o).1∧Chg H.hpP w w':=by
 obtain⟨z,hz⟩:=Zb (w.heap.size);obtain⟨W0,hW0,o0,x0⟩:=OpW.new h o 36 42 hz;have HZ:Hid (H.hi≤z∧w.heap.size≤z):=Za ⟨by have:=h.top;omega,by omega⟩;have sf:=fun k p w=>run_store prog w p (.func (.func k) #[] #[]) .plain rfl
 have sn:=fun p w=>run_store prog w p .nilFunc .plain rfl
 have en:∀w:World,Sem.run prog (binOp BinOp.eql 297 .nilFunc .nilFunc) w=.ok (.bool true) w:=fun w=>rfl
 have ef:∀(k:Nat) (w:World),Sem.run prog (binOp BinOp.eql 297 (.func (.func k) #[] #[]) .nilFunc) w=.ok (.bool false) w:=fun k w=>rfl
 obtain⟨oc,oh,oa,ob,ov⟩:=o;have O0:=Za o0;unfold opV;simp only at hc hu ⊢;subst hc;obtain⟨s,r,hs⟩:∃s r,Vc t x.y oh=(s,r):=⟨_,_,rfl⟩;have SL:=Za (fun W (q:Zv W H c t n x)=>Zeg q hu hs);have OP:=Za (fun W (q:Zv W H c t n x)=>Zrx (s:=s) q (o:=⟨1,oh,oa,ob,ov⟩) hw ha hd hk);unfold opV at OP;have hs1:(Vc t x.y oh).1=s:=by rw[hs]
 cases r with
 | false=>
  have ER:Hid (∀f,Yi c t n c.gens F f x ⟨1,oh,oa,ob,ov⟩=((Ys c t n c.gens F x oa ob).1,(Ys c t n c.gens F x oa ob).2)):=Za fun f=>by
   unfold Yi;rw[if_neg (by simp),if_pos rfl]
   try rfl
  clear hs hs1 hu h o0 x0 hw ha hd hk;go_enter func150,ntmps150;go_wp2_with fail;refine Wh.ze fun w1 x1=>?_;obtain⟨y,hy⟩:=Zb (w1.heap.size);obtain⟨W2,W3,hW2,hW3,b2,bl,x3⟩:=L7 x1 hy;rw[hW2] at hW3;have LY:Hid (H.hi≤y∧z+1<y):=Za ⟨by have:=x1.size;have:=O0.out.at_.top;omega,by have:=x1.size;have:=O0.out.b1.c 0 _ rfl;have:=Zj this;(try simp only at this);omega⟩;obtain⟨q0,q1,q2,q3,q4,q5,q6,q7⟩:=b2.k8;obtain⟨r0,r1,r2,r3,r4,r5,r6,r7⟩:=b2.g8;have BL:=Za bl;have O3:=Za (O0.out.ext x3 HZ.out.1);obtain⟨k0,k1,k2,k3,k4⟩:=O3.out.b0.k5;obtain⟨l0,l1,l2,l3,l4,l5,l6,l7⟩:=bl.k8;clear b2 x1 x3 bl;go_wp2_with fail;refine(SL.out _ O3.out.at_).ze fun w4 x4=>?_;have O4:=Za (O3.out.ext x4 HZ.out.1);have BL4:=Za (BL.out.ext x4);obtain⟨k0,k1,k2,k3,k4⟩:=O4.out.b0.k5;obtain⟨l0,l1,l2,l3,l4,l5,l6,l7⟩:=BL4.out.k8;obtain⟨Y,hY⟩:=Zb (w4.heap.size);have YZ:Hid (H.hi≤Y∧y<Y∧z+1<Y):=Za ⟨by have:=O4.out.at_.top;omega,by have:=Zj l0;(try simp only at this);omega,by have:=Zj (O4.out.b1.c 0 _ rfl);(try simp only at this);omega⟩;have n0:=World.new_ne w4 _ k0;have n1:=World.new_ne w4 _ l1;have KEEP:Hid (∀A,Ext w4 A→∀W',Chg H.hpP A W'→W'.cell? z=some (.int .u8 1)∧W'.cell? ⟨z,1,none⟩=some (.int .u64 oh)∧W'.cell? ⟨z,2,none⟩=some (.int .i64 oa)∧W'.cell? ⟨z,3,none⟩=some (.int .i64 ob)∧W'.cell? ⟨z,4,none⟩=some (.int .u64 ov)∧W'.cell? ⟨y,1,none⟩=some (.func (.func 232) #[] #[])):=Za fun A g W' q=>by
   have b:=(O4.out.b0.ext g).chg q (O4.out.at_.off HZ.out.1);have b2:=(BL4.out.ext g).chg q (O4.out.at_.off LY.out.1);exact⟨b.c 0 _ rfl,b.c 1 _ rfl,b.c 2 _ rfl,b.c 3 _ rfl,b.c 4 _ rfl,b2.c 1 _ rfl⟩
  have OPA:Hid (Calls prog 232 #[H.hb,.agg #[.int .u8 1,.int .u64 oh,oa,ob,.int .u64 ov],.int .i64 s] w4.drew fun e W'=>∃s0 s1 s2 s3 s4 s5 s6 s7,e=.returned (.agg #[.int .i64 s0,.int .u64 s1,.int .u64 s2,.int .i64 s3,.int .i64 s4,.int .i64 s5,.int .i64 s6,.bool s7])∧Hid ((⟨s0,s1,s2,s3,s4,s5,s6,s7⟩:Sn)=(Ys c t n c.gens F x oa ob).2)∧Zv W' H c t n (Ys c t n c.gens F x oa ob).1∧Chg H.hpP w4 W'∧W'.cell? z=some (.int .u8 1)∧W'.cell? ⟨z,1,none⟩=some (.int .u64 oh)∧W'.cell? ⟨z,2,none⟩=some (.int .i64 oa)∧W'.cell? ⟨z,3,none⟩=some (.int .i64 ob)∧W'.cell? ⟨z,4,none⟩=some (.int .u64 ov)∧W'.cell? ⟨y,1,none⟩=some (.func (.func 232) #[] #[])):=Za ((OP.out w4.drew (O4.out.at_.ext (Zy2 w4).drew)).mono fun e W' q=>by
   obtain⟨s0,s1,s2,s3,s4,s5,s6,s7,q1,q2,q3,q4⟩:=q;exact⟨s0,s1,s2,s3,s4,s5,s6,s7,q1,Za q2,q3,(Zy3 (Zy2 w4).drew).trans q4,KEEP.out _ (Zy2 w4).drew _ q4⟩)
  have xB:Ext w4 (w4.alloc (.cells #[(0:Int),.int .u64 0,.int .u64 0,(0:Int),(0:Int),(0:Int),(0:Int),false] 42)).drew:=((Zy2 w4).alloc _).drew;have OPB:Hid (Calls prog 232 #[H.hb,.agg #[.int .u8 1,.int .u64 oh,oa,ob,.int .u64 ov],.int .i64 s] (w4.alloc (.cells #[(0:Int),.int .u64 0,.int .u64 0,(0:Int),(0:Int),(0:Int),(0:Int),false] 42)).drew fun e W'=>∃s0 s1 s2 s3 s4 s5 s6 s7,e=.returned (.agg #[.int .i64 s0,.int .u64 s1,.int .u64 s2,.int .i64 s3,.int .i64 s4,.int .i64 s5,.int .i64 s6,.bool s7])∧Hid ((⟨s0,s1,s2,s3,s4,s5,s6,s7⟩:Sn)=(Ys c t n c.gens F x oa ob).2)∧Zv W' H c t n (Ys c t n c.gens F x oa ob).1∧Chg H.hpP w4 W'∧(W'.cell? z=some (.int .u8 1)∧W'.cell? ⟨z,1,none⟩=some (.int .u64 oh)∧W'.cell? ⟨z,2,none⟩=some (.int .i64 oa)∧W'.cell? ⟨z,3,none⟩=some (.int .i64 ob)∧W'.cell? ⟨z,4,none⟩=some (.int .u64 ov)∧W'.cell? ⟨y,1,none⟩=some (.func (.func 232) #[] #[]))∧Zn W' Y Nl):=Za ((OP.out _ (O4.out.at_.ext xB)).mono fun e W' q=>by
   obtain⟨s0,s1,s2,s3,s4,s5,s6,s7,q1,q2,q3,q4⟩:=q;exact⟨s0,s1,s2,s3,s4,s5,s6,s7,q1,Za q2,q3,(Zy3 xB).trans q4,KEEP.out _ xB _ q4,((Zn.new w4 Nl 42 hY).ext (Zy2 _).drew).chg q4 (O4.out.at_.off YZ.out.1)⟩)
  have m0:z≠Y:=by have:=YZ.out;omega
  have m1:y≠Y:=by have:=YZ.out;omega
  have m2:Y≠z:=m0.symm;have m3:Y≠y:=m1.symm;clear xB OP SL;go_wp2_with fail
  go_region_held3 (fun W'=>W'.cell? z=some (.int .u8 1)∧W'.cell? ⟨z,1,none⟩=some (.int .u64 oh)∧W'.cell? ⟨z,2,none⟩=some (.int .i64 oa)∧W'.cell? ⟨z,3,none⟩=some (.int .i64 ob)∧W'.cell? ⟨z,4,none⟩=some (.int .u64 ov)∧W'.cell? ⟨y,1,none⟩=some (.func (.func 232) #[] #[]))
   ((first|go_keep|assumption|(go_split_ands;assumption)))
   (first|(go_at_call 232;with_reducible refine OPA.out.mono ?_;rintro e w5 ⟨s0,s1,s2,s3,s4,s5,s6,s7,rfl,Qs,a5,x5,ca,cb,cc,cd,ce,cf⟩;have o0:=World.new_ne w5 _ ca;have o1:=World.new_ne w5 _ cf)|(go_at_call 232;with_reducible refine OPB.out.mono ?_;rintro e w5 ⟨s0,s1,s2,s3,s4,s5,s6,s7,rfl,Qs,a5,x5,⟨ca,cb,cc,cd,ce,cf⟩,bY⟩;have cy0:=bY.c 0 _ rfl;have fy0:=bY.f 0;have cy1:=bY.c 1 _ rfl;have fy1:=bY.f 1;have cy2:=bY.c 2 _ rfl;have fy2:=bY.f 2;have cy3:=bY.c 3 _ rfl;have fy3:=bY.f 3;have cy4:=bY.c 4 _ rfl;have fy4:=bY.f 4;have cy5:=bY.c 5 _ rfl;have fy5:=bY.f 5;have cy6:=bY.c 6 _ rfl;have fy6:=bY.f 6;have cy7:=bY.c 7 _ rfl;have fy7:=bY.f 7)|fail)
  ·have O5:=O4.out.go HZ.out.1 x5 a5;obtain⟨Y2,hY2⟩:=Zb (w5.heap.size);obtain⟨V,hV⟩:=Zb (w5.alloc (.cells #[s0,.int .u64 s1,.int .u64 s2,s3,s4,s5,s6,s7] 42));have bV:Zn V Y2 [s0,.int .u64 s1,.int .u64 s2,s3,s4,s5,s6,s7]:=by rw[←hV];exact Zn.new w5 [s0,.int .u64 s1,.int .u64 s2,s3,s4,s5,s6,s7] _ hY2
   have O6:OpW w V H c t n (Ys c t n c.gens F x oa ob).1 z ⟨1,oh,oa,ob,ov⟩:=O5.ext (by rw[←hV];exact(Zy2 w5).alloc _) HZ.out.1;have Z2:Hid (H.hi≤Y2∧z+1<Y2):=Za ⟨by have:=O5.at_.top;omega,by have:=Zj (O5.b1.c 0 _ rfl);(try simp only at this);omega⟩;rw[hV,hY2];clear hV hY2 O5 a5 x5 o0 o1;have QT:=Za O6;clear ca cb cc cd ce cf;obtain⟨k0,k1,k2,k3,k4⟩:=QT.out.b0.k5;obtain⟨y0,y1,y2,y3,y4,y5,y6,y7⟩:=bV.k8;obtain⟨q0,q1,q2,q3,q4,q5,q6,q7⟩:=QT.out.b1.k8;obtain⟨r0,r1,r2,r3,r4,r5,r6,r7⟩:=QT.out.b1.g8;clear O6;go_wp2_with fail;obtain⟨p0,p1,p2,p3,p4,p5,p6,p7,hfa,hfc⟩:=QT.out.fin HZ.out (.int .i64 s0) (.int .u64 s1) (.int .u64 s2) (.int .i64 s3) (.int .i64 s4) (.int .i64 s5) (.int .i64 s6) (.bool s7);refine bodyPost_ret (v:=.agg #[s0,.int .u64 s1,.int .u64 s2,s3,s4,s5,s6,s7]) (by simp[results,results150,go_sem,p0,p1,p2,p3,p4,p5,p6,p7]) rfl ?_;have e5:=Qs.out;exact⟨0,by rw[ER.out,←e5];rfl,by rw[ER.out];exact hfa,hfc⟩
  ·have O5:=O4.out.go HZ.out.1 x5 a5;obtain⟨V,hV⟩:=Zb ((((((((w5.setCell Y (.int .i64 s0)).setCell ⟨Y,1,none⟩ (.int .u64 s1)).setCell ⟨Y,2,none⟩ (.int .u64 s2)).setCell ⟨Y,3,none⟩ (.int .i64 s3)).setCell ⟨Y,4,none⟩ (.int .i64 s4)).setCell ⟨Y,5,none⟩ (.int .i64 s5)).setCell ⟨Y,6,none⟩ (.int .i64 s6)).setCell ⟨Y,7,none⟩ (.bool s7));have bV:Zn V Y [s0,.int .u64 s1,.int .u64 s2,s3,s4,s5,s6,s7]:=by rw[←hV];exact bY.put8 (.int .i64 s0) (.int .u64 s1) (.int .u64 s2) (.int .i64 s3) (.int .i64 s4) (.int .i64 s5) (.int .i64 s6) (.bool s7)
   have cV:=Tn w5 Y (.int .i64 s0) (.int .u64 s1) (.int .u64 s2) (.int .i64 s3) (.int .i64 s4) (.int .i64 s5) (.int .i64 s6) (.bool s7);have O6:OpW w V H c t n (Ys c t n c.gens F x oa ob).1 z ⟨1,oh,oa,ob,ov⟩:=by
    rw[←hV];have g:=YZ.out;have g2:=HZ.out;exact⟨O5.at_.chg cV (fun k hk e=>by have e1:k=Y:=e;omega),O5.b0.chg cV (fun e=>by have e1:z=Y:=e;omega),O5.b1.chg cV (fun e=>by have e1:z+1=Y:=e;omega),O5.ch.new (cV.mono fun k e=>by have e1:k=Y:=e;have:=O4.out.ch.size;omega)⟩
   have Z2:Hid (H.hi≤Y∧z+1<Y):=Za ⟨YZ.out.1,YZ.out.2.2⟩;rw[hV];clear hV cV O5 a5 x5 bY cy0 cy1 cy2 cy3 cy4 cy5 cy6 cy7 fy0 fy1 fy2 fy3 fy4 fy5 fy6 fy7;have QT:=Za O6;clear ca cb cc cd ce cf;obtain⟨k0,k1,k2,k3,k4⟩:=QT.out.b0.k5;obtain⟨y0,y1,y2,y3,y4,y5,y6,y7⟩:=bV.k8;obtain⟨q0,q1,q2,q3,q4,q5,q6,q7⟩:=QT.out.b1.k8;obtain⟨r0,r1,r2,r3,r4,r5,r6,r7⟩:=QT.out.b1.g8;clear O6;go_wp2_with fail;obtain⟨p0,p1,p2,p3,p4,p5,p6,p7,hfa,hfc⟩:=QT.out.fin HZ.out (.int .i64 s0) (.int .u64 s1) (.int .u64 s2) (.int .i64 s3) (.int .i64 s4) (.int .i64 s5) (.int .i64 s6) (.bool s7);refine bodyPost_ret (v:=.agg #[s0,.int .u64 s1,.int .u64 s2,s3,s4,s5,s6,s7]) (by simp[results,results150,go_sem,p0,p1,p2,p3,p4,p5,p6,p7]) rfl ?_;have e5:=Qs.out;exact⟨0,by rw[ER.out,←e5];rfl,by rw[ER.out];exact hfa,hfc⟩
 | true=>
  have ER:Hid (∀f,Yi c t n c.gens F f x ⟨1,oh,oa,ob,ov⟩=((Ys c t n c.gens F x oa ob).1,(Ys c t n c.gens F x oa ob).2)):=Za fun f=>by
   unfold Yi;rw[if_neg (by simp),if_pos rfl]
   try rfl
  clear hs hs1 hu h o0 x0 hw ha hd hk;go_enter func150,ntmps150;go_wp2_with fail;refine Wh.ze fun w1 x1=>?_;obtain⟨y,hy⟩:=Zb (w1.heap.size);obtain⟨W2,W3,hW2,hW3,b2,bl,x3⟩:=L7 x1 hy;rw[hW2] at hW3;have LY:Hid (H.hi≤y∧z+1<y):=Za ⟨by have:=x1.size;have:=O0.out.at_.top;omega,by have:=x1.size;have:=O0.out.b1.c 0 _ rfl;have:=Zj this;(try simp only at this);omega⟩;obtain⟨q0,q1,q2,q3,q4,q5,q6,q7⟩:=b2.k8;obtain⟨r0,r1,r2,r3,r4,r5,r6,r7⟩:=b2.g8;have BL:=Za bl;have O3:=Za (O0.out.ext x3 HZ.out.1);obtain⟨k0,k1,k2,k3,k4⟩:=O3.out.b0.k5;obtain⟨l0,l1,l2,l3,l4,l5,l6,l7⟩:=bl.k8;clear b2 x1 x3 bl;go_wp2_with fail;refine(SL.out _ O3.out.at_).ze fun w4 x4=>?_;have O4:=Za (O3.out.ext x4 HZ.out.1);have BL4:=Za (BL.out.ext x4);obtain⟨k0,k1,k2,k3,k4⟩:=O4.out.b0.k5;obtain⟨l0,l1,l2,l3,l4,l5,l6,l7⟩:=BL4.out.k8;obtain⟨Y,hY⟩:=Zb (w4.heap.size);have YZ:Hid (H.hi≤Y∧y<Y∧z+1<Y):=Za ⟨by have:=O4.out.at_.top;omega,by have:=Zj l0;(try simp only at this);omega,by have:=Zj (O4.out.b1.c 0 _ rfl);(try simp only at this);omega⟩;have n0:=World.new_ne w4 _ k0;have n1:=World.new_ne w4 _ l1;have KEEP:Hid (∀A,Ext w4 A→∀W',Chg H.hpP A W'→W'.cell? z=some (.int .u8 1)∧W'.cell? ⟨z,1,none⟩=some (.int .u64 oh)∧W'.cell? ⟨z,2,none⟩=some (.int .i64 oa)∧W'.cell? ⟨z,3,none⟩=some (.int .i64 ob)∧W'.cell? ⟨z,4,none⟩=some (.int .u64 ov)∧W'.cell? ⟨y,1,none⟩=some (.func (.func 232) #[] #[])):=Za fun A g W' q=>by
   have b:=(O4.out.b0.ext g).chg q (O4.out.at_.off HZ.out.1);have b2:=(BL4.out.ext g).chg q (O4.out.at_.off LY.out.1);exact⟨b.c 0 _ rfl,b.c 1 _ rfl,b.c 2 _ rfl,b.c 3 _ rfl,b.c 4 _ rfl,b2.c 1 _ rfl⟩
  have OPA:Hid (Calls prog 232 #[H.hb,.agg #[.int .u8 1,.int .u64 oh,oa,ob,.int .u64 ov],.int .i64 s] w4.drew fun e W'=>∃s0 s1 s2 s3 s4 s5 s6 s7,e=.returned (.agg #[.int .i64 s0,.int .u64 s1,.int .u64 s2,.int .i64 s3,.int .i64 s4,.int .i64 s5,.int .i64 s6,.bool s7])∧Hid ((⟨s0,s1,s2,s3,s4,s5,s6,s7⟩:Sn)=(Ys c t n c.gens F x oa ob).2)∧Zv W' H c t n (Ys c t n c.gens F x oa ob).1∧Chg H.hpP w4 W'∧W'.cell? z=some (.int .u8 1)∧W'.cell? ⟨z,1,none⟩=some (.int .u64 oh)∧W'.cell? ⟨z,2,none⟩=some (.int .i64 oa)∧W'.cell? ⟨z,3,none⟩=some (.int .i64 ob)∧W'.cell? ⟨z,4,none⟩=some (.int .u64 ov)∧W'.cell? ⟨y,1,none⟩=some (.func (.func 232) #[] #[])):=Za ((OP.out w4.drew (O4.out.at_.ext (Zy2 w4).drew)).mono fun e W' q=>by
   obtain⟨s0,s1,s2,s3,s4,s5,s6,s7,q1,q2,q3,q4⟩:=q;exact⟨s0,s1,s2,s3,s4,s5,s6,s7,q1,Za q2,q3,(Zy3 (Zy2 w4).drew).trans q4,KEEP.out _ (Zy2 w4).drew _ q4⟩)
  have xB:Ext w4 (w4.alloc (.cells #[(0:Int),.int .u64 0,.int .u64 0,(0:Int),(0:Int),(0:Int),(0:Int),false] 42)).drew:=((Zy2 w4).alloc _).drew;have OPB:Hid (Calls prog 232 #[H.hb,.agg #[.int .u8 1,.int .u64 oh,oa,ob,.int .u64 ov],.int .i64 s] (w4.alloc (.cells #[(0:Int),.int .u64 0,.int .u64 0,(0:Int),(0:Int),(0:Int),(0:Int),false] 42)).drew fun e W'=>∃s0 s1 s2 s3 s4 s5 s6 s7,e=.returned (.agg #[.int .i64 s0,.int .u64 s1,.int .u64 s2,.int .i64 s3,.int .i64 s4,.int .i64 s5,.int .i64 s6,.bool s7])∧Hid ((⟨s0,s1,s2,s3,s4,s5,s6,s7⟩:Sn)=(Ys c t n c.gens F x oa ob).2)∧Zv W' H c t n (Ys c t n c.gens F x oa ob).1∧Chg H.hpP w4 W'∧(W'.cell? z=some (.int .u8 1)∧W'.cell? ⟨z,1,none⟩=some (.int .u64 oh)∧W'.cell? ⟨z,2,none⟩=some (.int .i64 oa)∧W'.cell? ⟨z,3,none⟩=some (.int .i64 ob)∧W'.cell? ⟨z,4,none⟩=some (.int .u64 ov)∧W'.cell? ⟨y,1,none⟩=some (.func (.func 232) #[] #[]))∧Zn W' Y Nl):=Za ((OP.out _ (O4.out.at_.ext xB)).mono fun e W' q=>by
   obtain⟨s0,s1,s2,s3,s4,s5,s6,s7,q1,q2,q3,q4⟩:=q;exact⟨s0,s1,s2,s3,s4,s5,s6,s7,q1,Za q2,q3,(Zy3 xB).trans q4,KEEP.out _ xB _ q4,((Zn.new w4 Nl 42 hY).ext (Zy2 _).drew).chg q4 (O4.out.at_.off YZ.out.1)⟩)
  have m0:z≠Y:=by have:=YZ.out;omega
  have m1:y≠Y:=by have:=YZ.out;omega
  have m2:Y≠z:=m0.symm;have m3:Y≠y:=m1.symm;clear xB OP SL;go_wp2_with fail
  go_region_held3 (fun W'=>W'.cell? z=some (.int .u8 1)∧W'.cell? ⟨z,1,none⟩=some (.int .u64 oh)∧W'.cell? ⟨z,2,none⟩=some (.int .i64 oa)∧W'.cell? ⟨z,3,none⟩=some (.int .i64 ob)∧W'.cell? ⟨z,4,none⟩=some (.int .u64 ov)∧W'.cell? ⟨y,1,none⟩=some (.func (.func 232) #[] #[]))
   ((first|go_keep|assumption|(go_split_ands;assumption)))
   (first|(go_at_call 232;with_reducible refine OPA.out.mono ?_;rintro e w5 ⟨s0,s1,s2,s3,s4,s5,s6,s7,rfl,Qs,a5,x5,ca,cb,cc,cd,ce,cf⟩;have o0:=World.new_ne w5 _ ca;have o1:=World.new_ne w5 _ cf)|(go_at_call 232;with_reducible refine OPB.out.mono ?_;rintro e w5 ⟨s0,s1,s2,s3,s4,s5,s6,s7,rfl,Qs,a5,x5,⟨ca,cb,cc,cd,ce,cf⟩,bY⟩;have cy0:=bY.c 0 _ rfl;have fy0:=bY.f 0;have cy1:=bY.c 1 _ rfl;have fy1:=bY.f 1;have cy2:=bY.c 2 _ rfl;have fy2:=bY.f 2;have cy3:=bY.c 3 _ rfl;have fy3:=bY.f 3;have cy4:=bY.c 4 _ rfl;have fy4:=bY.f 4;have cy5:=bY.c 5 _ rfl;have fy5:=bY.f 5;have cy6:=bY.c 6 _ rfl;have fy6:=bY.f 6;have cy7:=bY.c 7 _ rfl;have fy7:=bY.f 7)|fail)
  ·have O5:=O4.out.go HZ.out.1 x5 a5;obtain⟨Y2,hY2⟩:=Zb (w5.heap.size);obtain⟨V,hV⟩:=Zb (w5.alloc (.cells #[s0,.int .u64 s1,.int .u64 s2,s3,s4,s5,s6,s7] 42));have bV:Zn V Y2 [s0,.int .u64 s1,.int .u64 s2,s3,s4,s5,s6,s7]:=by rw[←hV];exact Zn.new w5 [s0,.int .u64 s1,.int .u64 s2,s3,s4,s5,s6,s7] _ hY2
   have O6:OpW w V H c t n (Ys c t n c.gens F x oa ob).1 z ⟨1,oh,oa,ob,ov⟩:=O5.ext (by rw[←hV];exact(Zy2 w5).alloc _) HZ.out.1;have Z2:Hid (H.hi≤Y2∧z+1<Y2):=Za ⟨by have:=O5.at_.top;omega,by have:=Zj (O5.b1.c 0 _ rfl);(try simp only at this);omega⟩;rw[hV,hY2];clear hV hY2 O5 a5 x5 o0 o1;have QT:=Za O6;clear ca cb cc cd ce cf;obtain⟨k0,k1,k2,k3,k4⟩:=QT.out.b0.k5;obtain⟨y0,y1,y2,y3,y4,y5,y6,y7⟩:=bV.k8;obtain⟨q0,q1,q2,q3,q4,q5,q6,q7⟩:=QT.out.b1.k8;obtain⟨r0,r1,r2,r3,r4,r5,r6,r7⟩:=QT.out.b1.g8;clear O6;go_wp2_with fail;obtain⟨p0,p1,p2,p3,p4,p5,p6,p7,hfa,hfc⟩:=QT.out.fin HZ.out (.int .i64 s0) (.int .u64 s1) (.int .u64 s2) (.int .i64 s3) (.int .i64 s4) (.int .i64 s5) (.int .i64 s6) (.bool s7);refine bodyPost_ret (v:=.agg #[s0,.int .u64 s1,.int .u64 s2,s3,s4,s5,s6,s7]) (by simp[results,results150,go_sem,p0,p1,p2,p3,p4,p5,p6,p7]) rfl ?_;have e5:=Qs.out;exact⟨0,by rw[ER.out,←e5];rfl,by rw[ER.out];exact hfa,hfc⟩
  ·have O5:=O4.out.go HZ.out.1 x5 a5;obtain⟨V,hV⟩:=Zb ((((((((w5.setCell Y (.int .i64 s0)).setCell ⟨Y,1,none⟩ (.int .u64 s1)).setCell ⟨Y,2,none⟩ (.int .u64 s2)).setCell ⟨Y,3,none⟩ (.int .i64 s3)).setCell ⟨Y,4,none⟩ (.int .i64 s4)).setCell ⟨Y,5,none⟩ (.int .i64 s5)).setCell ⟨Y,6,none⟩ (.int .i64 s6)).setCell ⟨Y,7,none⟩ (.bool s7));have bV:Zn V Y [s0,.int .u64 s1,.int .u64 s2,s3,s4,s5,s6,s7]:=by rw[←hV];exact bY.put8 (.int .i64 s0) (.int .u64 s1) (.int .u64 s2) (.int .i64 s3) (.int .i64 s4) (.int .i64 s5) (.int .i64 s6) (.bool s7)
   have cV:=Tn w5 Y (.int .i64 s0) (.int .u64 s1) (.int .u64 s2) (.int .i64 s3) (.int .i64 s4) (.int .i64 s5) (.int .i64 s6) (.bool s7);have O6:OpW w V H c t n (Ys c t n c.gens F x oa ob).1 z ⟨1,oh,oa,ob,ov⟩:=by
    rw[←hV];have g:=YZ.out;have g2:=HZ.out;exact⟨O5.at_.chg cV (fun k hk e=>by have e1:k=Y:=e;omega),O5.b0.chg cV (fun e=>by have e1:z=Y:=e;omega),O5.b1.chg cV (fun e=>by have e1:z+1=Y:=e;omega),O5.ch.new (cV.mono fun k e=>by have e1:k=Y:=e;have:=O4.out.ch.size;omega)⟩
   have Z2:Hid (H.hi≤Y∧z+1<Y):=Za ⟨YZ.out.1,YZ.out.2.2⟩;rw[hV];clear hV cV O5 a5 x5 bY cy0 cy1 cy2 cy3 cy4 cy5 cy6 cy7 fy0 fy1 fy2 fy3 fy4 fy5 fy6 fy7;have QT:=Za O6;clear ca cb cc cd ce cf;obtain⟨k0,k1,k2,k3,k4⟩:=QT.out.b0.k5;obtain⟨y0,y1,y2,y3,y4,y5,y6,y7⟩:=bV.k8;obtain⟨q0,q1,q2,q3,q4,q5,q6,q7⟩:=QT.out.b1.k8;obtain⟨r0,r1,r2,r3,r4,r5,r6,r7⟩:=QT.out.b1.g8;clear O6;go_wp2_with fail;obtain⟨p0,p1,p2,p3,p4,p5,p6,p7,hfa,hfc⟩:=QT.out.fin HZ.out (.int .i64 s0) (.int .u64 s1) (.int .u64 s2) (.int .i64 s3) (.int .i64 s4) (.int .i64 s5) (.int .i64 s6) (.bool s7);refine bodyPost_ret (v:=.agg #[s0,.int .u64 s1,.int .u64 s2,s3,s4,s5,s6,s7]) (by simp[results,results150,go_sem,p0,p1,p2,p3,p4,p5,p6,p7]) rfl ?_;have e5:=Qs.out;exact⟨0,by rw[ER.out,←e5];rfl,by rw[ER.out];exact hfa,hfc⟩
theorem Ok(h:Zv w H c t n x){o:OpI}{m fk:Nat}{X1:HP}{Qp:Sn→Prop}{s:Int}{r:Bool}(hm:2≤m∧m≤7)(hc:o.code=(m:Int))(hu:0≤o.h∧o.h<18446744073709551616)(hs:Vc t x.y o.h=(s,r))
  (hcf:∀(args:Array Value) (W:World),(callFunc fk args).run prog W=.ok (.enter fk args) W)
  (hF:∀W y,Zn W y [.nilFunc,.func (.func 232) #[] #[],.func (.func 233) #[] #[],.func (.func 234) #[] #[],.func (.func 235) #[] #[],.func (.func 236) #[] #[],.func (.func 237) #[] #[],.func (.func 238) #[] #[]]→W.cell? ⟨y,m,none⟩=some (.func (.func fk) #[] #[]))
  (OP0:r=true→∀W,Zv W H c t n x→Calls prog fk #[H.hb,opV o,.int .i64 s] W fun e w'=>∃s0 s1 s2 s3 s4 s5 s6 s7,e=.returned (.agg #[.int .i64 s0,.int .u64 s1,.int .u64 s2,.int .i64 s3,.int .i64 s4,.int .i64 s5,.int .i64 s6,.bool s7])∧Qp ⟨s0,s1,s2,s3,s4,s5,s6,s7⟩∧Zv w' H c t n X1∧Chg H.hpP W w') :
  Calls prog 150 #[H.hb,opV o] w fun e w'=>(r=false∧e=.returned (snV (Z9 130))∧Zv w' H c t n x∧Chg H.hpP w w')∨(r=true∧∃S,Qp S∧e=.returned (snV { S with addr:=Ve c t s })∧Zv w' H c t n X1∧Chg H.hpP w w'):=by
 obtain⟨z,hz⟩:=Zb (w.heap.size);obtain⟨W0,hW0,o0,x0⟩:=OpW.new h o 36 42 hz;have HZ:Hid (H.hi≤z∧w.heap.size≤z):=Za ⟨by have:=h.top;omega,by omega⟩;have sf:=fun k p w=>run_store prog w p (.func (.func k) #[] #[]) .plain rfl
 have sn:=fun p w=>run_store prog w p .nilFunc .plain rfl
 have en:∀w:World,Sem.run prog (binOp BinOp.eql 297 .nilFunc .nilFunc) w=.ok (.bool true) w:=fun w=>rfl
 have ef:∀(k:Nat) (w:World),Sem.run prog (binOp BinOp.eql 297 (.func (.func k) #[] #[]) .nilFunc) w=.ok (.bool false) w:=fun k w=>rfl
 obtain⟨oc,oh,oa,ob,ov⟩:=o;have O0:=Za o0;unfold opV;unfold opV at OP0;simp only at hc hu hs OP0 ⊢;subst hc;obtain⟨hm1,hm2⟩:=hm;have t8:decide ((8:Int)≤(m:Int))=false:=Zyx (by omega);have tn:((m:Int)==1)=false:=by simp;omega
 have mu:(m:Int)<8:=by omega
 have HF:=Za hF;have SL:=Za (fun W (q:Zv W H c t n x)=>Zeg q hu hs);have OP:=Za OP0;clear hF OP0;cases r with
 | false=>
  clear hs hu h o0 x0 OP;go_enter func150,ntmps150;go_wp2_with fail;refine Wh.ze fun w1 x1=>?_;obtain⟨y,hy⟩:=Zb (w1.heap.size);obtain⟨W2,W3,hW2,hW3,b2,bl,x3⟩:=L7 x1 hy;rw[hW2] at hW3;have LY:Hid (H.hi≤y∧z+1<y):=Za ⟨by have:=x1.size;have:=O0.out.at_.top;omega,by have:=x1.size;have:=O0.out.b1.c 0 _ rfl;have:=Zj this;(try simp only at this);omega⟩;obtain⟨q0,q1,q2,q3,q4,q5,q6,q7⟩:=b2.k8;obtain⟨r0,r1,r2,r3,r4,r5,r6,r7⟩:=b2.g8;have BL:=Za bl;have O3:=Za (O0.out.ext x3 HZ.out.1);obtain⟨k0,k1,k2,k3,k4⟩:=O3.out.b0.k5;have lm:=HF.out _ _ bl;clear b2 x1 x3 bl;go_wp2_with fail;refine(SL.out _ O3.out.at_).ze fun w4 x4=>?_;have O4:=Za (O3.out.ext x4 HZ.out.1);obtain⟨k0,k1,k2,k3,k4⟩:=O4.out.b0.k5;go_wp2_with fail;refine(Xm (k:=130)).ze fun wT xT=>?_;have QT:=Za (O4.out.ext xT HZ.out.1);obtain⟨q0,q1,q2,q3,q4,q5,q6,q7⟩:=QT.out.b1.k8;obtain⟨r0,r1,r2,r3,r4,r5,r6,r7⟩:=QT.out.b1.g8;clear xT;go_wp2_with fail;obtain⟨p0,p1,p2,p3,p4,p5,p6,p7,hfa,hfc⟩:=QT.out.fin HZ.out (.int .i64 130) (.int .u64 0) (.int .u64 0) (.int .i64 0) (.int .i64 0) (.int .i64 0) (.int .i64 0) (.bool false);refine bodyPost_ret (v:=.agg #[(130:Int),.int .u64 0,.int .u64 0,(0:Int),(0:Int),(0:Int),(0:Int),false]) (by simp[results,results150,go_sem,p0,p1,p2,p3,p4,p5,p6,p7]) rfl ?_;exact .inl ⟨by first|trivial|rfl,rfl,hfa,hfc⟩
 | true=>
  clear hs hu h o0 x0;go_enter func150,ntmps150;go_wp2_with fail;refine Wh.ze fun w1 x1=>?_;obtain⟨y,hy⟩:=Zb (w1.heap.size);obtain⟨W2,W3,hW2,hW3,b2,bl,x3⟩:=L7 x1 hy;rw[hW2] at hW3;have LY:Hid (H.hi≤y∧z+1<y):=Za ⟨by have:=x1.size;have:=O0.out.at_.top;omega,by have:=x1.size;have:=O0.out.b1.c 0 _ rfl;have:=Zj this;(try simp only at this);omega⟩;obtain⟨q0,q1,q2,q3,q4,q5,q6,q7⟩:=b2.k8;obtain⟨r0,r1,r2,r3,r4,r5,r6,r7⟩:=b2.g8;have BL:=Za bl;have O3:=Za (O0.out.ext x3 HZ.out.1);obtain⟨k0,k1,k2,k3,k4⟩:=O3.out.b0.k5;have lm:=HF.out _ _ bl;clear b2 x1 x3 bl;go_wp2_with fail;refine(SL.out _ O3.out.at_).ze fun w4 x4=>?_;have O4:=Za (O3.out.ext x4 HZ.out.1);have BL4:=Za (BL.out.ext x4);obtain⟨k0,k1,k2,k3,k4⟩:=O4.out.b0.k5;have lm:=HF.out _ _ BL4.out;obtain⟨Y,hY⟩:=Zb (w4.heap.size);have YZ:Hid (H.hi≤Y∧y<Y∧z+1<Y):=Za ⟨by have:=O4.out.at_.top;omega,by have:=BL4.out.lt;(try simp only at this);omega,by have:=Zj (O4.out.b1.c 0 _ rfl);(try simp only at this);omega⟩;have n0:=World.new_ne w4 _ k0;have n1:=World.new_ne w4 _ lm;have KEEP:Hid (∀A,Ext w4 A→∀W',Chg H.hpP A W'→W'.cell? z=some (.int .u8 (m:Int))∧W'.cell? ⟨z,1,none⟩=some (.int .u64 oh)∧W'.cell? ⟨z,2,none⟩=some (.int .i64 oa)∧W'.cell? ⟨z,3,none⟩=some (.int .i64 ob)∧W'.cell? ⟨z,4,none⟩=some (.int .u64 ov)∧W'.cell? ⟨y,m,none⟩=some (.func (.func fk) #[] #[])):=Za fun A g W' q=>by
   have b:=(O4.out.b0.ext g).chg q (O4.out.at_.off HZ.out.1);have b2:=(BL4.out.ext g).chg q (O4.out.at_.off LY.out.1);exact⟨b.c 0 _ rfl,b.c 1 _ rfl,b.c 2 _ rfl,b.c 3 _ rfl,b.c 4 _ rfl,HF.out _ _ b2⟩
  have OPA:Hid (Calls prog fk #[H.hb,.agg #[.int .u8 (m:Int),.int .u64 oh,oa,ob,.int .u64 ov],.int .i64 s] w4.drew fun e W'=>∃s0 s1 s2 s3 s4 s5 s6 s7,e=.returned (.agg #[.int .i64 s0,.int .u64 s1,.int .u64 s2,.int .i64 s3,.int .i64 s4,.int .i64 s5,.int .i64 s6,.bool s7])∧Hid (Qp ⟨s0,s1,s2,s3,s4,s5,s6,s7⟩)∧Zv W' H c t n X1∧Chg H.hpP w4 W'∧W'.cell? z=some (.int .u8 (m:Int))∧W'.cell? ⟨z,1,none⟩=some (.int .u64 oh)∧W'.cell? ⟨z,2,none⟩=some (.int .i64 oa)∧W'.cell? ⟨z,3,none⟩=some (.int .i64 ob)∧W'.cell? ⟨z,4,none⟩=some (.int .u64 ov)∧W'.cell? ⟨y,m,none⟩=some (.func (.func fk) #[] #[])):=Za ((OP.out (by first|trivial|rfl) w4.drew (O4.out.at_.ext (Zy2 w4).drew)).mono fun e W' q=>by
   obtain⟨s0,s1,s2,s3,s4,s5,s6,s7,q1,q2,q3,q4⟩:=q;exact⟨s0,s1,s2,s3,s4,s5,s6,s7,q1,Za q2,q3,(Zy3 (Zy2 w4).drew).trans q4,KEEP.out _ (Zy2 w4).drew _ q4⟩)
  have xB:Ext w4 (w4.alloc (.cells #[(0:Int),.int .u64 0,.int .u64 0,(0:Int),(0:Int),(0:Int),(0:Int),false] 42)).drew:=((Zy2 w4).alloc _).drew;have OPB:Hid (Calls prog fk #[H.hb,.agg #[.int .u8 (m:Int),.int .u64 oh,oa,ob,.int .u64 ov],.int .i64 s] (w4.alloc (.cells #[(0:Int),.int .u64 0,.int .u64 0,(0:Int),(0:Int),(0:Int),(0:Int),false] 42)).drew fun e W'=>∃s0 s1 s2 s3 s4 s5 s6 s7,e=.returned (.agg #[.int .i64 s0,.int .u64 s1,.int .u64 s2,.int .i64 s3,.int .i64 s4,.int .i64 s5,.int .i64 s6,.bool s7])∧Hid (Qp ⟨s0,s1,s2,s3,s4,s5,s6,s7⟩)∧Zv W' H c t n X1∧Chg H.hpP w4 W'∧(W'.cell? z=some (.int .u8 (m:Int))∧W'.cell? ⟨z,1,none⟩=some (.int .u64 oh)∧W'.cell? ⟨z,2,none⟩=some (.int .i64 oa)∧W'.cell? ⟨z,3,none⟩=some (.int .i64 ob)∧W'.cell? ⟨z,4,none⟩=some (.int .u64 ov)∧W'.cell? ⟨y,m,none⟩=some (.func (.func fk) #[] #[]))∧Zn W' Y Nl):=Za ((OP.out (by first|trivial|rfl) _ (O4.out.at_.ext xB)).mono fun e W' q=>by
   obtain⟨s0,s1,s2,s3,s4,s5,s6,s7,q1,q2,q3,q4⟩:=q;exact⟨s0,s1,s2,s3,s4,s5,s6,s7,q1,Za q2,q3,(Zy3 xB).trans q4,KEEP.out _ xB _ q4,((Zn.new w4 Nl 42 hY).ext (Zy2 _).drew).chg q4 (O4.out.at_.off YZ.out.1)⟩)
  have m0:z≠Y:=by have:=YZ.out;omega
  have m1:y≠Y:=by have:=YZ.out;omega
  have m2:Y≠z:=m0.symm;have m3:Y≠y:=m1.symm;clear xB OP SL;go_wp2_with fail
  go_region_held3 (fun W'=>W'.cell? z=some (.int .u8 (m:Int))∧W'.cell? ⟨z,1,none⟩=some (.int .u64 oh)∧W'.cell? ⟨z,2,none⟩=some (.int .i64 oa)∧W'.cell? ⟨z,3,none⟩=some (.int .i64 ob)∧W'.cell? ⟨z,4,none⟩=some (.int .u64 ov)∧W'.cell? ⟨y,m,none⟩=some (.func (.func fk) #[] #[]))
   ((first|go_keep|assumption|(go_split_ands;assumption)))
   (first|(with_reducible refine OPA.out.mono ?_;rintro e w5 ⟨s0,s1,s2,s3,s4,s5,s6,s7,rfl,Qs,a5,x5,ca,cb,cc,cd,ce,cf⟩;have o0:=World.new_ne w5 _ ca;have o1:=World.new_ne w5 _ cf)|(with_reducible refine OPB.out.mono ?_;rintro e w5 ⟨s0,s1,s2,s3,s4,s5,s6,s7,rfl,Qs,a5,x5,⟨ca,cb,cc,cd,ce,cf⟩,bY⟩;have cy0:=bY.c 0 _ rfl;have fy0:=bY.f 0;have cy1:=bY.c 1 _ rfl;have fy1:=bY.f 1;have cy2:=bY.c 2 _ rfl;have fy2:=bY.f 2;have cy3:=bY.c 3 _ rfl;have fy3:=bY.f 3;have cy4:=bY.c 4 _ rfl;have fy4:=bY.f 4;have cy5:=bY.c 5 _ rfl;have fy5:=bY.f 5;have cy6:=bY.c 6 _ rfl;have fy6:=bY.f 6;have cy7:=bY.c 7 _ rfl;have fy7:=bY.f 7)|fail)
  ·have O5:=O4.out.go HZ.out.1 x5 a5;obtain⟨Y2,hY2⟩:=Zb (w5.heap.size);obtain⟨V,hV⟩:=Zb (w5.alloc (.cells #[s0,.int .u64 s1,.int .u64 s2,s3,s4,s5,s6,s7] 42));have bV:Zn V Y2 [s0,.int .u64 s1,.int .u64 s2,s3,s4,s5,s6,s7]:=by rw[←hV];exact Zn.new w5 [s0,.int .u64 s1,.int .u64 s2,s3,s4,s5,s6,s7] _ hY2
   have O6:OpW w V H c t n X1 z ⟨(m:Int),oh,oa,ob,ov⟩:=O5.ext (by rw[←hV];exact(Zy2 w5).alloc _) HZ.out.1;have Z2:Hid (H.hi≤Y2∧z+1<Y2):=Za ⟨by have:=O5.at_.top;omega,by have:=Zj (O5.b1.c 0 _ rfl);(try simp only at this);omega⟩;rw[hV,hY2];clear hV hY2 O5 a5 x5 o0 o1;clear ca cb cc cd ce cf;obtain⟨k0,k1,k2,k3,k4⟩:=O6.b0.k5;have c7:=O6.at_.box.c 7 _ rfl;have PL:=Za (Og O6.at_.cy);have AD:=Za (Zel (s:=s) O6.at_);have OV:=Za O6;have BV:=Za bV;clear O6 bV;go_wp2_with fail;refine(PL.out).zz ?_;go_wp2_with fail;refine AD.out.mono ?_;rintro e w7 ⟨⟨kD,rfl⟩,x7⟩;have O7:=OV.out.ext x7 HZ.out.1;have b7:=BV.out.ext x7;have y3:=b7.c 3 _ rfl;have f3:=b7.f 3;obtain⟨W8,hW8⟩:=Zb (w7.setCell ⟨Y2,3,none⟩ (.int .i64 (Ve c t s)));have cV:=Wn w7 Y2 3 (.int .i64 (Ve c t s));have b8:Zn W8 Y2 [s0,.int .u64 s1,.int .u64 s2,.int .i64 (Ve c t s),s4,s5,s6,s7]:=by rw[←hW8];exact b7.set (i:=3) (by show 3<8;decide) _
   have QT:Hid (OpW w W8 H c t n X1 z ⟨(m:Int),oh,oa,ob,ov⟩):=Za (by
    rw[←hW8];have g:=Z2.out;have g2:=HZ.out;exact⟨O7.at_.chg cV (fun k hk e=>by have e1:k=Y2:=e;omega),O7.b0.chg cV (fun e=>by have e1:z=Y2:=e;omega),O7.b1.chg cV (fun e=>by have e1:z+1=Y2:=e;omega),O7.ch.new (cV.mono fun k e=>by have e1:k=Y2:=e;have:=hz;omega)⟩)
   have m4:z+1≠Y2:=by have:=Z2.out;omega
   obtain⟨y0,y1,y2,y3,y4,y5,y6,y7⟩:=b8.k8;obtain⟨q0,q1,q2,q3,q4,q5,q6,q7⟩:=QT.out.b1.k8;obtain⟨r0,r1,r2,r3,r4,r5,r6,r7⟩:=QT.out.b1.g8;clear O7 b7 b8 cV x7 AD PL k0 k1 k2 k3 k4 c7;go_wp2_with fail;obtain⟨p0,p1,p2,p3,p4,p5,p6,p7,hfa,hfc⟩:=QT.out.fin HZ.out (.int .i64 s0) (.int .u64 s1) (.int .u64 s2) (.int .i64 (Ve c t s)) (.int .i64 s4) (.int .i64 s5) (.int .i64 s6) (.bool s7);refine bodyPost_ret (v:=.agg #[s0,.int .u64 s1,.int .u64 s2,.int .i64 (Ve c t s),s4,s5,s6,s7]) (by simp[results,results150,go_sem,p0,p1,p2,p3,p4,p5,p6,p7]) rfl ?_;exact .inr ⟨by first|trivial|rfl,⟨s0,s1,s2,s3,s4,s5,s6,s7⟩,Qs.out,rfl,hfa,hfc⟩
  ·have O5:=O4.out.go HZ.out.1 x5 a5;obtain⟨V,hV⟩:=Zb ((((((((w5.setCell Y (.int .i64 s0)).setCell ⟨Y,1,none⟩ (.int .u64 s1)).setCell ⟨Y,2,none⟩ (.int .u64 s2)).setCell ⟨Y,3,none⟩ (.int .i64 s3)).setCell ⟨Y,4,none⟩ (.int .i64 s4)).setCell ⟨Y,5,none⟩ (.int .i64 s5)).setCell ⟨Y,6,none⟩ (.int .i64 s6)).setCell ⟨Y,7,none⟩ (.bool s7));have bV:Zn V Y [s0,.int .u64 s1,.int .u64 s2,s3,s4,s5,s6,s7]:=by rw[←hV];exact bY.put8 (.int .i64 s0) (.int .u64 s1) (.int .u64 s2) (.int .i64 s3) (.int .i64 s4) (.int .i64 s5) (.int .i64 s6) (.bool s7)
   have cV:=Tn w5 Y (.int .i64 s0) (.int .u64 s1) (.int .u64 s2) (.int .i64 s3) (.int .i64 s4) (.int .i64 s5) (.int .i64 s6) (.bool s7);have O6:OpW w V H c t n X1 z ⟨(m:Int),oh,oa,ob,ov⟩:=by
    rw[←hV];have g:=YZ.out;have g2:=HZ.out;exact⟨O5.at_.chg cV (fun k hk e=>by have e1:k=Y:=e;omega),O5.b0.chg cV (fun e=>by have e1:z=Y:=e;omega),O5.b1.chg cV (fun e=>by have e1:z+1=Y:=e;omega),O5.ch.new (cV.mono fun k e=>by have e1:k=Y:=e;have:=O4.out.ch.size;omega)⟩
   have Z2:Hid (H.hi≤Y∧z+1<Y):=Za ⟨YZ.out.1,YZ.out.2.2⟩;rw[hV];clear hV cV O5 a5 x5 bY cy0 cy1 cy2 cy3 cy4 cy5 cy6 cy7 fy0 fy1 fy2 fy3 fy4 fy5 fy6 fy7;clear ca cb cc cd ce cf;obtain⟨k0,k1,k2,k3,k4⟩:=O6.b0.k5;have c7:=O6.at_.box.c 7 _ rfl;have PL:=Za (Og O6.at_.cy);have AD:=Za (Zel (s:=s) O6.at_);have OV:=Za O6;have BV:=Za bV;clear O6 bV;go_wp2_with fail;refine(PL.out).zz ?_;go_wp2_with fail;refine AD.out.mono ?_;rintro e w7 ⟨⟨kD,rfl⟩,x7⟩;have O7:=OV.out.ext x7 HZ.out.1;have b7:=BV.out.ext x7;have y3:=b7.c 3 _ rfl;have f3:=b7.f 3;obtain⟨W8,hW8⟩:=Zb (w7.setCell ⟨Y,3,none⟩ (.int .i64 (Ve c t s)));have cV:=Wn w7 Y 3 (.int .i64 (Ve c t s));have b8:Zn W8 Y [s0,.int .u64 s1,.int .u64 s2,.int .i64 (Ve c t s),s4,s5,s6,s7]:=by rw[←hW8];exact b7.set (i:=3) (by show 3<8;decide) _
   have QT:Hid (OpW w W8 H c t n X1 z ⟨(m:Int),oh,oa,ob,ov⟩):=Za (by
    rw[←hW8];have g:=Z2.out;have g2:=HZ.out;exact⟨O7.at_.chg cV (fun k hk e=>by have e1:k=Y:=e;omega),O7.b0.chg cV (fun e=>by have e1:z=Y:=e;omega),O7.b1.chg cV (fun e=>by have e1:z+1=Y:=e;omega),O7.ch.new (cV.mono fun k e=>by have e1:k=Y:=e;have:=hz;omega)⟩)
   have m4:z+1≠Y:=by have:=Z2.out;omega
   obtain⟨y0,y1,y2,y3,y4,y5,y6,y7⟩:=b8.k8;obtain⟨q0,q1,q2,q3,q4,q5,q6,q7⟩:=QT.out.b1.k8;obtain⟨r0,r1,r2,r3,r4,r5,r6,r7⟩:=QT.out.b1.g8;clear O7 b7 b8 cV x7 AD PL k0 k1 k2 k3 k4 c7;go_wp2_with fail;obtain⟨p0,p1,p2,p3,p4,p5,p6,p7,hfa,hfc⟩:=QT.out.fin HZ.out (.int .i64 s0) (.int .u64 s1) (.int .u64 s2) (.int .i64 (Ve c t s)) (.int .i64 s4) (.int .i64 s5) (.int .i64 s6) (.bool s7);refine bodyPost_ret (v:=.agg #[s0,.int .u64 s1,.int .u64 s2,.int .i64 (Ve c t s),s4,s5,s6,s7]) (by simp[results,results150,go_sem,p0,p1,p2,p3,p4,p5,p6,p7]) rfl ?_;exact .inr ⟨by first|trivial|rfl,⟨s0,s1,s2,s3,s4,s5,s6,s7⟩,Qs.out,rfl,hfa,hfc⟩
theorem Zry{s:Int}(q0:Zv w H c t n x){o:OpI}(hw:HW c t n a d F x)(hd:d+3≤1048576)(hk:x.work≤1000) :
  Calls prog 233 #[H.hb,opV o,.int .i64 s] w fun e w'=>∃s0 s1 s2 s3 s4 s5 s6 s7,e=.returned (.agg #[.int .i64 s0,.int .u64 s1,.int .u64 s2,.int .i64 s3,.int .i64 s4,.int .i64 s5,.int .i64 s6,.bool s7])∧((⟨s0,s1,s2,s3,s4,s5,s6,s7⟩:Sn)=(Su c t n c.gens F x o.a s).2)∧Zv w' H c t n (Su c t n c.gens F x o.a s).1∧Chg H.hpP w w':=
 (Zus q0 hw hd (by omega)).mono fun e w' q=>by obtain⟨q1,q2,q3⟩:=q;exact⟨_,_,_,_,_,_,_,_,q1,rfl,q2,q3⟩
theorem Zwp(h:Zv w H c t n x){o:OpI}(hc:o.code=2)(hu:0≤o.h∧o.h<18446744073709551616)(hw:HW c t n a d F x)(hd:d+3≤1048576)(hk:x.work≤1000) :
  Calls prog 150 #[H.hb,opV o] w fun e w'=>∃f:Int,e=.returned (snV (Yi c t n c.gens F f x o).2)∧Zv w' H c t n (Yi c t n c.gens F f x o).1∧Chg H.hpP w w':=by
 obtain⟨s,r,hs⟩:∃s r,Vc t x.y o.h=(s,r):=⟨_,_,rfl⟩;refine(Ok h (m:=2) (fk:=233) (X1:=(Su c t n c.gens F x o.a s).1) (Qp:=fun S=>S=(Su c t n c.gens F x o.a s).2) (by decide) hc hu hs (fun _ _=>by kernel_rfl) (fun W y b=>b.c 2 _ rfl) (fun _ W q=>Zry q hw hd hk)).mono fun e w' q=>?_
 have hs1:(Vc t x.y o.h).1=s:=by rw[hs]
 rcases q with ⟨rfl,q1,q2,q3⟩|⟨rfl,S,q0,q1,q2,q3⟩
 ·have ER:Yi c t n c.gens F 0 x o=(x,Z9 130):=by unfold Yi;rw[if_neg (by omega),if_neg (by omega),if_pos (by rw[hs])]
  exact⟨0,by rw[ER];exact q1,by rw[ER];exact q2,q3⟩
 ·have ER:∀f,Yi c t n c.gens F f x o=((Su c t n c.gens F x o.a s).1,{ (Su c t n c.gens F x o.a s).2 with addr:=Ve c t s }):=fun f=>by
   unfold Yi;rw[if_neg (by omega),if_neg (by omega),if_neg (by rw[hs];simp),hs1];simp[hc]
  subst q0;exact⟨0,by rw[ER];exact q1,by rw[ER];exact q2,q3⟩
theorem Zrz{s:Int}(q0:Zv w H c t n x){o:OpI}(hv:0≤o.v∧o.v<18446744073709551616) :
  Calls prog 234 #[H.hb,opV o,.int .i64 s] w fun e w'=>∃s0 s1 s2 s3 s4 s5 s6 s7,e=.returned (.agg #[.int .i64 s0,.int .u64 s1,.int .u64 s2,.int .i64 s3,.int .i64 s4,.int .i64 s5,.int .i64 s6,.bool s7])∧((⟨s0,s1,s2,s3,s4,s5,s6,s7⟩:Sn)=(Wu c t n x o.a o.v s).2)∧Zv w' H c t n (Wu c t n x o.a o.v s).1∧Chg H.hpP w w':=
 (Zru q0 hv).mono fun e w' q=>by obtain⟨q1,q2,q3⟩:=q;exact⟨_,_,_,_,_,_,_,_,q1,rfl,q2,q3⟩
theorem Zwq(h:Zv w H c t n x){o:OpI}(hc:o.code=3)(hu:0≤o.h∧o.h<18446744073709551616)(hv:0≤o.v∧o.v<18446744073709551616) :
  Calls prog 150 #[H.hb,opV o] w fun e w'=>∃f:Int,e=.returned (snV (Yi c t n c.gens F f x o).2)∧Zv w' H c t n (Yi c t n c.gens F f x o).1∧Chg H.hpP w w':=by
 obtain⟨s,r,hs⟩:∃s r,Vc t x.y o.h=(s,r):=⟨_,_,rfl⟩;refine(Ok h (m:=3) (fk:=234) (X1:=(Wu c t n x o.a o.v s).1) (Qp:=fun S=>S=(Wu c t n x o.a o.v s).2) (by decide) hc hu hs (fun _ _=>by kernel_rfl) (fun W y b=>b.c 3 _ rfl) (fun _ W q=>Zrz q hv)).mono fun e w' q=>?_
 have hs1:(Vc t x.y o.h).1=s:=by rw[hs]
 rcases q with ⟨rfl,q1,q2,q3⟩|⟨rfl,S,q0,q1,q2,q3⟩
 ·have ER:Yi c t n c.gens F 0 x o=(x,Z9 130):=by unfold Yi;rw[if_neg (by omega),if_neg (by omega),if_pos (by rw[hs])]
  exact⟨0,by rw[ER];exact q1,by rw[ER];exact q2,q3⟩
 ·have ER:∀f,Yi c t n c.gens F f x o=((Wu c t n x o.a o.v s).1,{ (Wu c t n x o.a o.v s).2 with addr:=Ve c t s }):=fun f=>by
   unfold Yi;rw[if_neg (by omega),if_neg (by omega),if_neg (by rw[hs];simp),hs1];simp[hc]
  subst q0;exact⟨0,by rw[ER];exact q1,by rw[ER];exact q2,q3⟩
theorem Zr0{s:Int}(q0:Zv w H c t n x){o:OpI}  :
  Calls prog 235 #[H.hb,opV o,.int .i64 s] w fun e w'=>∃s0 s1 s2 s3 s4 s5 s6 s7,e=.returned (.agg #[.int .i64 s0,.int .u64 s1,.int .u64 s2,.int .i64 s3,.int .i64 s4,.int .i64 s5,.int .i64 s6,.bool s7])∧((⟨s0,s1,s2,s3,s4,s5,s6,s7⟩:Sn)=(K5 x s).2)∧Zv w' H c t n (K5 x s).1∧Chg H.hpP w w':=
 (Zup q0).mono fun e w' q=>by obtain⟨q1,q2,q3⟩:=q;exact⟨_,_,_,_,_,_,_,_,q1,rfl,q2,q3⟩
theorem Zwr(h:Zv w H c t n x){o:OpI}(hc:o.code=4)(hu:0≤o.h∧o.h<18446744073709551616)  :
  Calls prog 150 #[H.hb,opV o] w fun e w'=>∃f:Int,e=.returned (snV (Yi c t n c.gens F f x o).2)∧Zv w' H c t n (Yi c t n c.gens F f x o).1∧Chg H.hpP w w':=by
 obtain⟨s,r,hs⟩:∃s r,Vc t x.y o.h=(s,r):=⟨_,_,rfl⟩;refine(Ok h (m:=4) (fk:=235) (X1:=(K5 x s).1) (Qp:=fun S=>S=(K5 x s).2) (by decide) hc hu hs (fun _ _=>by kernel_rfl) (fun W y b=>b.c 4 _ rfl) (fun _ W q=>Zr0 q)).mono fun e w' q=>?_
 have hs1:(Vc t x.y o.h).1=s:=by rw[hs]
 rcases q with ⟨rfl,q1,q2,q3⟩|⟨rfl,S,q0,q1,q2,q3⟩
 ·have ER:Yi c t n c.gens F 0 x o=(x,Z9 130):=by unfold Yi;rw[if_neg (by omega),if_neg (by omega),if_pos (by rw[hs])]
  exact⟨0,by rw[ER];exact q1,by rw[ER];exact q2,q3⟩
 ·have ER:∀f,Yi c t n c.gens F f x o=((K5 x s).1,{ (K5 x s).2 with addr:=Ve c t s }):=fun f=>by
   unfold Yi;rw[if_neg (by omega),if_neg (by omega),if_neg (by rw[hs];simp),hs1];simp[hc]
  subst q0;exact⟨0,by rw[ER];exact q1,by rw[ER];exact q2,q3⟩
theorem Zr1{s:Int}(q0:Zv w H c t n x){o:OpI}  :
  Calls prog 236 #[H.hb,opV o,.int .i64 s] w fun e w'=>∃s0 s1 s2 s3 s4 s5 s6 s7,e=.returned (.agg #[.int .i64 s0,.int .u64 s1,.int .u64 s2,.int .i64 s3,.int .i64 s4,.int .i64 s5,.int .i64 s6,.bool s7])∧((⟨s0,s1,s2,s3,s4,s5,s6,s7⟩:Sn)=(Wm c t n x s).2)∧Zv w' H c t n (Wm c t n x s).1∧Chg H.hpP w w':=
 (Zni q0).mono fun e w' q=>by obtain⟨q1,q2,q3⟩:=q;exact⟨_,_,_,_,_,_,_,_,q1,rfl,q2,q3⟩
theorem Zws(h:Zv w H c t n x){o:OpI}(hc:o.code=5)(hu:0≤o.h∧o.h<18446744073709551616)  :
  Calls prog 150 #[H.hb,opV o] w fun e w'=>∃f:Int,e=.returned (snV (Yi c t n c.gens F f x o).2)∧Zv w' H c t n (Yi c t n c.gens F f x o).1∧Chg H.hpP w w':=by
 obtain⟨s,r,hs⟩:∃s r,Vc t x.y o.h=(s,r):=⟨_,_,rfl⟩;refine(Ok h (m:=5) (fk:=236) (X1:=(Wm c t n x s).1) (Qp:=fun S=>S=(Wm c t n x s).2) (by decide) hc hu hs (fun _ _=>by kernel_rfl) (fun W y b=>b.c 5 _ rfl) (fun _ W q=>Zr1 q)).mono fun e w' q=>?_
 have hs1:(Vc t x.y o.h).1=s:=by rw[hs]
 rcases q with ⟨rfl,q1,q2,q3⟩|⟨rfl,S,q0,q1,q2,q3⟩
 ·have ER:Yi c t n c.gens F 0 x o=(x,Z9 130):=by unfold Yi;rw[if_neg (by omega),if_neg (by omega),if_pos (by rw[hs])]
  exact⟨0,by rw[ER];exact q1,by rw[ER];exact q2,q3⟩
 ·have ER:∀f,Yi c t n c.gens F f x o=((Wm c t n x s).1,{ (Wm c t n x s).2 with addr:=Ve c t s }):=fun f=>by
   unfold Yi;rw[if_neg (by omega),if_neg (by omega),if_neg (by rw[hs];simp),hs1];simp[hc]
  subst q0;exact⟨0,by rw[ER];exact q1,by rw[ER];exact q2,q3⟩
theorem Zr2{s:Int}(q0:Zv w H c t n x){o:OpI}(hu:0≤o.h∧o.h<18446744073709551616) :
  Calls prog 237 #[H.hb,opV o,.int .i64 s] w fun e w'=>∃s0 s1 s2 s3 s4 s5 s6 s7,e=.returned (.agg #[.int .i64 s0,.int .u64 s1,.int .u64 s2,.int .i64 s3,.int .i64 s4,.int .i64 s5,.int .i64 s6,.bool s7])∧((⟨s0,s1,s2,s3,s4,s5,s6,s7⟩:Sn)=(Md c t n x o.h s).2)∧Zv w' H c t n (Md c t n x o.h s).1∧Chg H.hpP w w':=
 (Zur q0 hu).mono fun e w' q=>by obtain⟨q1,q2,q3⟩:=q;exact⟨_,_,_,_,_,_,_,_,q1,rfl,q2,q3⟩
theorem Zwt(h:Zv w H c t n x){o:OpI}(hc:o.code=6)(hu:0≤o.h∧o.h<18446744073709551616)  :
  Calls prog 150 #[H.hb,opV o] w fun e w'=>∃f:Int,e=.returned (snV (Yi c t n c.gens F f x o).2)∧Zv w' H c t n (Yi c t n c.gens F f x o).1∧Chg H.hpP w w':=by
 obtain⟨s,r,hs⟩:∃s r,Vc t x.y o.h=(s,r):=⟨_,_,rfl⟩;refine(Ok h (m:=6) (fk:=237) (X1:=(Md c t n x o.h s).1) (Qp:=fun S=>S=(Md c t n x o.h s).2) (by decide) hc hu hs (fun _ _=>by kernel_rfl) (fun W y b=>b.c 6 _ rfl) (fun _ W q=>Zr2 q hu)).mono fun e w' q=>?_
 have hs1:(Vc t x.y o.h).1=s:=by rw[hs]
 rcases q with ⟨rfl,q1,q2,q3⟩|⟨rfl,S,q0,q1,q2,q3⟩
 ·have ER:Yi c t n c.gens F 0 x o=(x,Z9 130):=by unfold Yi;rw[if_neg (by omega),if_neg (by omega),if_pos (by rw[hs])]
  exact⟨0,by rw[ER];exact q1,by rw[ER];exact q2,q3⟩
 ·have ER:∀f,Yi c t n c.gens F f x o=((Md c t n x o.h s).1,{ (Md c t n x o.h s).2 with addr:=Ve c t s }):=fun f=>by
   unfold Yi;rw[if_neg (by omega),if_neg (by omega),if_neg (by rw[hs];simp),hs1];simp[hc]
  subst q0;exact⟨0,by rw[ER];exact q1,by rw[ER];exact q2,q3⟩
theorem Zr3{s:Int}(q0:Zv w H c t n x){o:OpI}  :
  Calls prog 238 #[H.hb,opV o,.int .i64 s] w fun e w'=>∃s0 s1 s2 s3 s4 s5 s6 s7,e=.returned (.agg #[.int .i64 s0,.int .u64 s1,.int .u64 s2,.int .i64 s3,.int .i64 s4,.int .i64 s5,.int .i64 s6,.bool s7])∧(∃f:Int,(⟨s0,s1,s2,s3,s4,s5,s6,s7⟩:Sn)=⟨0,0,f,0,0,0,0,false⟩)∧Zv w' H c t n x∧Chg H.hpP w w':=
 (Zuq q0).mono fun e w' q=>by obtain⟨v,q1,q2,q3⟩:=q;exact⟨0,0,v,0,0,0,0,false,q1,⟨v,rfl⟩,q2,q3⟩
theorem Zwu(h:Zv w H c t n x){o:OpI}(hc:o.code=7)(hu:0≤o.h∧o.h<18446744073709551616)  :
  Calls prog 150 #[H.hb,opV o] w fun e w'=>∃f:Int,e=.returned (snV (Yi c t n c.gens F f x o).2)∧Zv w' H c t n (Yi c t n c.gens F f x o).1∧Chg H.hpP w w':=by
 obtain⟨s,r,hs⟩:∃s r,Vc t x.y o.h=(s,r):=⟨_,_,rfl⟩;refine(Ok h (m:=7) (fk:=238) (X1:=x) (Qp:=fun S=>∃f:Int,S=⟨0,0,f,0,0,0,0,false⟩) (by decide) hc hu hs (fun _ _=>by kernel_rfl) (fun W y b=>b.c 7 _ rfl) (fun _ W q=>Zr3 q)).mono fun e w' q=>?_
 have hs1:(Vc t x.y o.h).1=s:=by rw[hs]
 rcases q with ⟨rfl,q1,q2,q3⟩|⟨rfl,S,q0,q1,q2,q3⟩
 ·have ER:Yi c t n c.gens F 0 x o=(x,Z9 130):=by unfold Yi;rw[if_neg (by omega),if_neg (by omega),if_pos (by rw[hs])]
  exact⟨0,by rw[ER];exact q1,by rw[ER];exact q2,q3⟩
 ·have ER:∀f,Yi c t n c.gens F f x o=(x,⟨0,0,f,Ve c t s,0,0,0,false⟩):=fun f=>by
   unfold Yi;rw[if_neg (by omega),if_neg (by omega),if_neg (by rw[hs];simp),hs1];simp[hc]
  obtain⟨fv,rfl⟩:=q0;exact⟨fv,by rw[ER];exact q1,by rw[ER];exact q2,q3⟩
structure Zvu(o:OpI):Prop where
 c:0≤o.code∧o.code<256
 h:0≤o.h∧o.h<18446744073709551616
 v:0≤o.v∧o.v<18446744073709551616
theorem Zut(h:Zv w H c t n x)(ho:Zvu o)(hw:HW c t n a d F x)(ha:a+1≤1048576)(hd:d+3≤1048576)(hk:x.work≤1000) :
  Calls prog 150 #[H.hb,opV o] w fun e w'=>∃f:Int,e=.returned (snV (Yi c t n c.gens F f x o).2)∧Zv w' H c t n (Yi c t n c.gens F f x o).1∧Chg H.hpP w w':=by
 have hc:=ho.c;by_cases q:o.code<1∨7<o.code
 ·refine(Znk h q hc).mono fun e w' r=>⟨0,?_⟩
  have E:Yi c t n c.gens F 0 x o=(x,Z9 250):=by unfold Yi;rw[if_pos q]
  rw[E];exact r
 ·have q2:o.code=1∨o.code=2∨o.code=3∨o.code=4∨o.code=5∨o.code=6∨o.code=7:=by omega
  rcases q2 with q2|q2|q2|q2|q2|q2|q2
  ·exact Zwo h q2 ho.h hw ha hd hk
  ·exact Zwp h q2 ho.h hw hd hk
  ·exact Zwq h q2 ho.h ho.v
  ·exact Zwr h q2 ho.h
  ·exact Zws h q2 ho.h
  ·exact Zwt h q2 ho.h
  ·exact Zwu h q2 ho.h
theorem HW.does{f:Int}(hw:HW c t n a d F x)(ho:Zvu o)(hk:x.work=0)(ha:a+1≤1048576)(hd:d+4≤1048576):HW c t n (a+1) (d+4) F (Yi c t n c.gens F f x o).1:=by
 have p:=Zge (f:=f) (o:=o) hw.ok hk ho.v hw.F;exact⟨p.ok,ha,hd,by have:=hw.F;rw[show Z7 c t (Yi c t n c.gens F f x o).1.y.l=Z7 c t x.y.l by unfold Z7;rw[p.len]];exact this⟩
theorem HW.zero(hw:HW c t n a d F x):HW c t n a d F { x with work:=0 }:=
 ⟨⟨hw.ok.y,hw.ok.pa,hw.ok.tr,hw.ok.ss,hw.ok.si,hw.ok.to,hw.ok.de,hw.ok.na,hw.ok.cy,hw.ok.fl⟩,hw.a,hw.d,hw.F⟩
theorem OpW.box{V V2:World}{Y:Nat}(h:OpW w V H c t n x' z o)(hz:H.hi≤z∧w.heap.size≤z)(hY:H.hi≤Y∧z+1<Y)(cV:Chg (fun k=>k=Y) V V2):OpW w V2 H c t n x' z o:=
 ⟨h.at_.chg cV (fun k hk e=>by have e1:k=Y:=e;omega),h.b0.chg cV (fun e=>by have e1:z=Y:=e;omega),h.b1.chg cV (fun e=>by have e1:z+1=Y:=e;omega),h.ch.new (cV.mono fun k e=>by have e1:k=Y:=e;omega)⟩
theorem Zxy(h:Zv w H c t n x)(ho:Zvu o)(hw:HW c t n a d F x)(ha:a+1≤1048576)(hd:d+4≤1048576) :
  Calls prog 111 #[H.hb,opV o] w fun e w'=>∃f:Int,e=.returned (snV (hDo c t n c.gens F f x o).2)∧Zv w' H c t n (hDo c t n c.gens F f x o).1∧Chg H.hpP w w':=by
 obtain⟨z,hz⟩:=Zb (w.heap.size);obtain⟨W0,hW0,o0,x0⟩:=OpW.new h o 36 42 hz;have HZ:Hid (H.hi≤z∧w.heap.size≤z):=Za ⟨by have:=h.top;omega,by omega⟩;have HW1:Hid (∀f,HW c t n (a+1) (d+4) F (Yi c t n c.gens F f { x with work:=0 } o).1):=Za fun f=>hw.zero.does ho rfl ha hd
 have DO:=Za (fun W (q:Zv W H c t n { x with work:=0 })=>Zut q ho hw.zero ha (by omega) (by show 0≤1000;decide));obtain⟨oc,oh,oa,ob,ov⟩:=o;have HN:=Za (Ho o0.at_);have O0:=Za o0;obtain⟨a2,x2⟩:Zv (W0.setCell ⟨H.hb,9,none⟩ (.int .i64 0)) H c t n { x with work:=0 }∧Chg H.hpP W0 (W0.setCell ⟨H.hb,9,none⟩ (.int .i64 0)):=o0.at_.wkTo (k:=0) (by decide);obtain⟨W1,hW1⟩:=Zb (W0.setCell ⟨H.hb,9,none⟩ (.int .i64 0));have O1:Hid (OpW w W1 H c t n { x with work:=0 } z ⟨oc,oh,oa,ob,ov⟩):=Za (o0.go HZ.out.1 (by rw[←hW1];exact x2) (by rw[←hW1];exact a2));have f9:=o0.at_.box.f 9;have c9:=o0.at_.box.c 9 _ rfl;have DO1:=Za (DO.out _ O1.out.at_);unfold opV at DO1 ⊢;obtain⟨k0,k1,k2,k3,k4⟩:=O1.out.b0.k5;clear o0 x0 h hw a2 x2 DO ha hd ho;go_enter func111,ntmps111;go_wp2_with fail;refine(HN.out).zz ?_;go_wp2_with fail;refine DO1.out.mono ?_;rintro e w2 ⟨f,rfl,a3,x3⟩;have HW2:=Za (HW1.out f);obtain⟨r,hr⟩:∃r,Yi c t n c.gens F f { x with work:=0 } ⟨oc,oh,oa,ob,ov⟩=r:=⟨_,rfl⟩;have HR:=Za hr;rw[hr] at a3 HW2 ⊢;clear hr HW1 DO1;obtain⟨x1,s0,s1,s2,s3,s4,s5,s6,s7⟩:=r;unfold snV;simp only at a3 HW2 ⊢;have O2:=O1.out.go HZ.out.1 x3 a3;obtain⟨Y,hY⟩:=Zb (w2.heap.size);obtain⟨V,hV⟩:=Zb (w2.alloc (.cells #[s0,.int .u64 s1,.int .u64 s2,s3,s4,s5,s6,s7] 42));have bV:Zn V Y [s0,.int .u64 s1,.int .u64 s2,s3,s4,s5,s6,s7]:=by rw[←hV];exact Zn.new w2 [s0,.int .u64 s1,.int .u64 s2,s3,s4,s5,s6,s7] _ hY
 have O3:Hid (OpW w V H c t n x1 z ⟨oc,oh,oa,ob,ov⟩):=Za (O2.ext (by rw[←hV];exact(Zy2 w2).alloc _) HZ.out.1);have YZ:Hid (H.hi≤Y∧z+1<Y):=Za ⟨by have:=O2.at_.top;omega,by have:=Zj (O2.b1.c 0 _ rfl);(try simp only at this);omega⟩;have BV:=Za bV;have y0:=bV.c 0 _ rfl;have POK:=Za HW2.out.pok;obtain⟨U,hU⟩:=Zb (Xh c t x1.y.bs);obtain⟨S1,hS1⟩:=Zb (m31 x1.p.since);obtain⟨S2,hS2⟩:=Zb (m31 x1.p.cyc);have HU:=Za hU;have HS1:=Za hS1;have HS2:=Za hS2;have m1:(if (2147483647:Int)<x1.p.since then 2147483647 else x1.p.since)=S1:=hS1;have m2:(if (2147483647:Int)<x1.p.cyc then 2147483647 else x1.p.cyc)=S2:=hS2;obtain⟨P1,hP1⟩:=Zb (x1.p.since);obtain⟨P2,hP2⟩:=Zb (x1.p.cyc);obtain⟨P3,hP3⟩:=Zb (x1.p.act);rw[hP1] at m1;rw[hP2] at m2;have PC:=Za (fun W (q:Zv W H c t n x1)=>Zi7 q.pc POK.out);have PD:=Za (fun W (q:Zv W H c t n x1)=>Zec q.pc POK.out);have PE:=Za (fun W (q:Zv W H c t n x1)=>Zed q.pc POK.out);rw[hP1] at PC;rw[hP2] at PD;rw[hP3] at PE;have HP3:=Za hP3;have AR:=Za (fun W (q:Zv W H c t n x1)=>Rm q.cy);have US:=Za (fun W (q:Zv W H c t n x1)=>Fq q.cy.i.ar hU);clear hU hS1 hS2 hP1 hP2 hP3 O2 a3 x3 bV;by_cases e0:s0=0
 ·subst e0;have b4:=BV.out.f 4;have h4:=BV.out.c 4 _ rfl;have c7:=O3.out.at_.box.c 7 _ rfl;have AR1:=Za (AR.out _ O3.out.at_);have US1:=Za (US.out _ O3.out.at_);go_wp2_with fail;refine(AR1.out).zz ?_;go_wp2_with fail;refine US1.out.zz ?_;obtain⟨V4,hV4⟩:=Zb (V.setCell ⟨Y,4,none⟩ (.int .i64 U));have B4:Hid (Zn V4 Y [(0:Int),.int .u64 s1,.int .u64 s2,s3,.int .i64 U,s5,s6,s7]):=Za (by rw[←hV4];exact BV.out.set (i:=4) (by show 4<8;decide) _);have O4:Hid (OpW w V4 H c t n x1 z ⟨oc,oh,oa,ob,ov⟩):=Za (O3.out.box HZ.out YZ.out (by rw[←hV4];exact Wn _ _ _ _));have c8:=O4.out.at_.box.c 8 _ rfl;have a4d:=O4.out.at_.ext (Zy2 V4).drew;have PC1:=Za (PC.out _ a4d);have PD1:=Za (PD.out _ a4d);have PE1:=Za (PE.out _ a4d);have nY:H.hb≠Y:=by have:=O4.out.at_.ord.h;have:=YZ.out.1;omega
  have nY2:Y≠H.hb:=nY.symm;have y5:=B4.out.c 5 _ rfl;have y6:=B4.out.c 6 _ rfl;have y7:=B4.out.c 7 _ rfl;have g5:=B4.out.f 5;have g6:=B4.out.f 6;have g7:=B4.out.f 7;clear a4d PC PD PE AR US c7;go_wp2_with fail
  go_region_held3 (fun W'=>W'.cell? ⟨H.hb,8,none⟩=some (H.qb:Value))
   ((first|go_keep|assumption))
   (first|(go_at_call 152;with_reducible refine PC1.out.zz ?_)|(go_at_call 153;with_reducible refine PD1.out.zz ?_)|(go_at_call 154;with_reducible refine PE1.out.zz ?_)|fail)
  all_goals
   obtain⟨V8,hV8⟩:=Zb (((V4.setCell ⟨Y,5,none⟩ (.int .i64 S1)).setCell ⟨Y,6,none⟩ (.int .i64 S2)).setCell ⟨Y,7,none⟩ (.bool P3));have B8:Zn V8 Y [(0:Int),.int .u64 s1,.int .u64 s2,s3,.int .i64 U,.int .i64 S1,.int .i64 S2,.bool P3]:=by rw[←hV8];exact((B4.out.set (i:=5) (by show 5<8;decide) _).set (i:=6) (by show 6<8;decide) _).set (i:=7) (by show 7<8;decide) _
   have O8:OpW w V8 H c t n x1 z ⟨oc,oh,oa,ob,ov⟩:=O4.out.box HZ.out YZ.out (by rw[←hV8];exact((Wn _ _ _ _).trans (Wn _ _ _ _)).trans (Wn _ _ _ _));obtain⟨V9,hV9⟩:=Zb (V8.drew);have x9:Ext V8 V9:=by rw[←hV9];exact(Zy2 V8).drew
   rw[hV8,hV9];have QT:=Za (O8.ext x9 HZ.out.1);have B9:=B8.ext x9;have m4:z+1≠Y:=by have:=YZ.out;omega
   obtain⟨y0,y1,y2,y3,y4,y5,y6,y7⟩:=B9.k8;obtain⟨q0,q1,q2,q3,q4,q5,q6,q7⟩:=QT.out.b1.k8;obtain⟨r0,r1,r2,r3,r4,r5,r6,r7⟩:=QT.out.b1.g8;clear B8 O8 B9 x9 g5 g6 g7 m1 m2 hV8 hV9 hV4;go_wp2_with fail;obtain⟨p0,p1,p2,p3,p4,p5,p6,p7,hfa,hfc⟩:=QT.out.fin HZ.out (.int .i64 0) (.int .u64 s1) (.int .u64 s2) (.int .i64 s3) (.int .i64 U) (.int .i64 S1) (.int .i64 S2) (.bool P3);refine bodyPost_ret (v:=.agg #[(0:Int),.int .u64 s1,.int .u64 s2,s3,.int .i64 U,.int .i64 S1,.int .i64 S2,.bool P3]) (by simp[results,results111,go_sem,p0,p1,p2,p3,p4,p5,p6,p7]) rfl ?_;refine⟨f,?_,?_,hfc⟩
   ·unfold hDo;rw[HR.out];simp only[ne_eq,not_true_eq_false,if_false];rw[HU.out,HS1.out,HS2.out,HP3.out];rfl
   ·unfold hDo;rw[HR.out];exact hfa
 ·have tq:(s0 != 0)=true:=by simpa using e0
  have y1:=BV.out.c 1 _ rfl;have y2:=BV.out.c 2 _ rfl;have y3:=BV.out.c 3 _ rfl;have y4:=BV.out.c 4 _ rfl;have y5:=BV.out.c 5 _ rfl;have y6:=BV.out.c 6 _ rfl;have y7:=BV.out.c 7 _ rfl;go_wp2_with fail;refine(Xm (k:=s0)).ze fun wT xT=>?_;have OT:=Za (O3.out.ext xT HZ.out.1);have bT:=BV.out.ext xT;obtain⟨V2,hV2⟩:=Zb ((((((((wT.setCell Y (.int .i64 s0)).setCell ⟨Y,1,none⟩ (.int .u64 0)).setCell ⟨Y,2,none⟩ (.int .u64 0)).setCell ⟨Y,3,none⟩ (.int .i64 0)).setCell ⟨Y,4,none⟩ (.int .i64 0)).setCell ⟨Y,5,none⟩ (.int .i64 0)).setCell ⟨Y,6,none⟩ (.int .i64 0)).setCell ⟨Y,7,none⟩ (.bool false));have BV2:Hid (Zn V2 Y [s0,.int .u64 0,.int .u64 0,(0:Int),(0:Int),(0:Int),(0:Int),false]):=Za (by rw[←hV2];exact bT.put8 (.int .i64 s0) (.int .u64 0) (.int .u64 0) (.int .i64 0) (.int .i64 0) (.int .i64 0) (.int .i64 0) (.bool false));have OV2:Hid (OpW w V2 H c t n x1 z ⟨oc,oh,oa,ob,ov⟩):=Za (OT.out.box HZ.out YZ.out (by rw[←hV2];exact Tn wT Y _ _ _ _ _ _ _ _));obtain⟨y0,y1,y2,y3,y4,y5,y6,y7⟩:=bT.k8;obtain⟨g0,g1,g2,g3,g4,g5,g6,g7⟩:=bT.g8;clear bT xT;have b4:=BV2.out.f 4;have h4:=BV2.out.c 4 _ rfl;have c7:=OV2.out.at_.box.c 7 _ rfl;have AR1:=Za (AR.out _ OV2.out.at_);have US1:=Za (US.out _ OV2.out.at_);go_wp2_with fail;refine(AR1.out).zz ?_;go_wp2_with fail;refine US1.out.zz ?_;obtain⟨V4,hV4⟩:=Zb (V2.setCell ⟨Y,4,none⟩ (.int .i64 U));have B4:Hid (Zn V4 Y [s0,.int .u64 0,.int .u64 0,(0:Int),.int .i64 U,(0:Int),(0:Int),false]):=Za (by rw[←hV4];exact BV2.out.set (i:=4) (by show 4<8;decide) _);have O4:Hid (OpW w V4 H c t n x1 z ⟨oc,oh,oa,ob,ov⟩):=Za (OV2.out.box HZ.out YZ.out (by rw[←hV4];exact Wn _ _ _ _));have c8:=O4.out.at_.box.c 8 _ rfl;have a4d:=O4.out.at_.ext (Zy2 V4).drew;have PC1:=Za (PC.out _ a4d);have PD1:=Za (PD.out _ a4d);have PE1:=Za (PE.out _ a4d);have nY:H.hb≠Y:=by have:=O4.out.at_.ord.h;have:=YZ.out.1;omega
  have nY2:Y≠H.hb:=nY.symm;have y5:=B4.out.c 5 _ rfl;have y6:=B4.out.c 6 _ rfl;have y7:=B4.out.c 7 _ rfl;have g5:=B4.out.f 5;have g6:=B4.out.f 6;have g7:=B4.out.f 7;clear a4d PC PD PE AR US c7;go_wp2_with fail
  go_region_held3 (fun W'=>W'.cell? ⟨H.hb,8,none⟩=some (H.qb:Value))
   ((first|go_keep|assumption))
   (first|(go_at_call 152;with_reducible refine PC1.out.zz ?_)|(go_at_call 153;with_reducible refine PD1.out.zz ?_)|(go_at_call 154;with_reducible refine PE1.out.zz ?_)|fail)
  all_goals
   obtain⟨V8,hV8⟩:=Zb (((V4.setCell ⟨Y,5,none⟩ (.int .i64 S1)).setCell ⟨Y,6,none⟩ (.int .i64 S2)).setCell ⟨Y,7,none⟩ (.bool P3));have B8:Zn V8 Y [s0,.int .u64 0,.int .u64 0,(0:Int),.int .i64 U,.int .i64 S1,.int .i64 S2,.bool P3]:=by rw[←hV8];exact((B4.out.set (i:=5) (by show 5<8;decide) _).set (i:=6) (by show 6<8;decide) _).set (i:=7) (by show 7<8;decide) _
   have O8:OpW w V8 H c t n x1 z ⟨oc,oh,oa,ob,ov⟩:=O4.out.box HZ.out YZ.out (by rw[←hV8];exact((Wn _ _ _ _).trans (Wn _ _ _ _)).trans (Wn _ _ _ _));obtain⟨V9,hV9⟩:=Zb (V8.drew);have x9:Ext V8 V9:=by rw[←hV9];exact(Zy2 V8).drew
   rw[hV8,hV9];have QT:=Za (O8.ext x9 HZ.out.1);have B9:=B8.ext x9;have m4:z+1≠Y:=by have:=YZ.out;omega
   obtain⟨y0,y1,y2,y3,y4,y5,y6,y7⟩:=B9.k8;obtain⟨q0,q1,q2,q3,q4,q5,q6,q7⟩:=QT.out.b1.k8;obtain⟨r0,r1,r2,r3,r4,r5,r6,r7⟩:=QT.out.b1.g8;clear B8 O8 B9 x9 g5 g6 g7 m1 m2 hV8 hV9 hV4;go_wp2_with fail;obtain⟨p0,p1,p2,p3,p4,p5,p6,p7,hfa,hfc⟩:=QT.out.fin HZ.out (.int .i64 s0) (.int .u64 0) (.int .u64 0) (.int .i64 0) (.int .i64 U) (.int .i64 S1) (.int .i64 S2) (.bool P3);refine bodyPost_ret (v:=.agg #[s0,.int .u64 0,.int .u64 0,(0:Int),.int .i64 U,.int .i64 S1,.int .i64 S2,.bool P3]) (by simp[results,results111,go_sem,p0,p1,p2,p3,p4,p5,p6,p7]) rfl ?_;refine⟨f,?_,?_,hfc⟩
   ·unfold hDo;rw[HR.out];simp only[ne_eq,e0,not_false_eq_true,if_true];unfold Z9;rw[HU.out,HS1.out,HS2.out,HP3.out];rfl
   ·unfold hDo;rw[HR.out];exact hfa
end
section
variable{w w':World}{H:HB}{c:Zh}{t n a d F:Nat}{x x':HP}
theorem Zjb{k i:Int}(h:Zv w H c t n x)(hk:k<0∨c.wk≤k):Calls prog 110 #[H.hb,.int .i64 k,.int .u8 i] w fun e w'=>e=.returned (.bool false)∧w=w':=by
 have c3:=h.box.c 3 _ rfl;have HN:=Za (Ho h);by_cases k0:k<0
 ·have t0:decide ((0:Int)≤k)=false:=Zyx (by omega);clear h hk k0;go_enter func110,ntmps110;go_wp2_with fail;refine(HN.out).zz ?_;go_wp2;go_ret;exact⟨rfl,rfl⟩
 ·have t0:decide ((0:Int)≤k)=true:=Zyy (by omega);have t1:decide (k<c.wk)=false:=Zyx (by omega);clear h hk k0;go_enter func110,ntmps110;go_wp2_with fail;refine(HN.out).zz ?_;go_wp2;go_ret;exact⟨rfl,rfl⟩
theorem Zuu{k i:Int}{y':CY}{r:Bool}(h:Zv w H c t n x)(hb:x.y.steps+1<1099511627776)(hk:0≤k∧k<c.wk)(hr:Re c t n c.wk x.y k i=(y',r)) :
  Calls prog 110 #[H.hb,.int .i64 k,.int .u8 i] w fun e w'=>e=.returned (.bool r)∧Zv w' H c t n { x with y:=y' }∧Chg H.hpP w w':=by
 have c3:=h.box.c 3 _ rfl;have c7:=h.box.c 7 _ rfl;have HN:=Za (Ho h);have t0:decide ((0:Int)≤k)=true:=Zyy hk.1;have t1:decide (k<c.wk)=true:=Zyy hk.2;have ST:Hid (Calls prog 148 #[H.B.yb,.int .i64 k,.int .u8 i] w fun e w'=>e=.returned (.bool r)∧Zv w' H c t n { x with y:=y' }∧Chg H.hpP w w'):=
  Za ((Zq8 h.cy hb hr).mono fun e W' q=>⟨q.1,h.cyTo q.2.1 q.2.2⟩)
 clear h hk hb hr;go_enter func110,ntmps110;go_wp2_with fail;refine(HN.out).zz ?_;go_wp2_with fail;refine ST.out.mono ?_;rintro e w1 ⟨rfl,a1,x1⟩;go_wp2;go_ret;exact⟨rfl,a1,x1⟩
end
section
variable{c:Zh}{t t' n:Nat}{gens wk:Int}{F:Nat}{ws ws':List Int}{y:CY}{x:HP}
structure Xn(c:Zh)(t:Nat)(ws ws':List Int):Prop where
 len:ws'.length=ws.length
 far:∀p,p<Yw c t∨Yw c t+Z0 c t≤p→nth ws' p=nth ws p
theorem Xn.refl(ws:List Int):Xn c t ws ws:=⟨rfl,fun _ _=>rfl⟩
theorem Xn.trans{a b d:List Int}(h:Xn c t a b)(k:Xn c t b d):Xn c t a d:=⟨k.len.trans h.len,fun p hp=>(k.far p hp).trans (h.far p hp)⟩
theorem Xn.set(ho:KOk c)(ht:t<c.ts.length){s:Int}(hin:bIn c t s){i:Nat}(hi:(i:Int)<bSz c t s)(v:Int):Xn c t ws (ws.set (bAt c t s i) v):=by
 have sb:=Xt ho ht hin;have f:=sb.fit;have a:=sb.a0;refine⟨List.length_set,fun p hp=>?_⟩;have ne:bAt c t s i≠p:=by unfold bAt;omega
 unfold nth;rw[List.getD,List.getD,List.getElem?_set_ne ne]
theorem Xn.zero(ho:KOk c)(ht:t<c.ts.length)(hl:ws.length=Zo c){s:Int}(hin:bIn c t s):Xn c t ws (Sg ws (bAt c t s 0) (bSz c t s).toNat):=by
 have sb:=Xt ho ht hin;have f:=sb.fit;have a:=sb.a0;have s2:=sb.s2;have zf:=Dv ho ht hl hin;refine⟨Ns zf,fun p hp=>?_⟩;rw[Nt zf,if_neg (by unfold bAt;omega)]
theorem Zbw(ho:KOk c)(ht:t<c.ts.length){s i v:Int}{ref:Bool}:Xn c t ws (Wk c t ws s i ref v).1:=by
 unfold Wk;split
 ·rename_i q;obtain⟨hin,j,rfl,hj⟩:=Ws q;rw[Zy4];exact Xn.set ho ht hin (by omega) v
 ·exact Xn.refl _
theorem Zjc(ho:KOk c)(ht:t<c.ts.length){s i tq:Int}:Xn c t ws (Ry c t ws s i tq).1:=by
 unfold Ry;split
 ·exact Zbw ho ht
 ·exact Xn.refl _
theorem Zr4(ho:KOk c)(ht:t<c.ts.length)(hl:ws.length=Zo c){s:Int}:Xn c t ws (Uu c t ws s).1:=by
 unfold Uu;split
 ·rename_i h;exact Xn.zero ho ht hl h
 ·exact Xn.refl _
theorem Zr5(ho:KOk c)(ht:t<c.ts.length)(hl:ws.length=Zo c){s:Int}{hd:Hd}:Xn c t ws (Ug c t ws s hd).1:=by
 unfold Ug;split
 ·rename_i h;split
  ·exact Xn.refl _
  ·have s2:=(Xt ho ht h.1).s2;exact(Xn.zero ho ht hl h.1).trans (Xn.set ho ht h.1 (by omega) _)
 ·exact Xn.refl _
theorem Zr6(y:CY):(Mb c t y).ws=y.ws:=by
 unfold Mb;split
 ·split<;>rfl
 ·split<;>rfl
theorem Zbx(ho:KOk c)(ht:t<c.ts.length)(hl:y.ws.length=Zo c):Xn c t y.ws (sStep c t y).1.ws:=by
 unfold sStep;split
 ·split
  ·exact Zr4 ho ht hl
  ·exact Xn.refl _
 ·exact Xn.refl _
theorem Zgf{r:CY × Bool}(h:Xn c t ws r.1.ws):Xn c t ws (Nc c t r).1.ws:=by
 unfold Nc;split
 ·rw[Zr6];exact h
 ·exact h
theorem Zgg(ho:KOk c)(ht:t<c.ts.length)(hl:y.ws.length=Zo c):Xn c t y.ws (Vn c t n y).1.ws:=by
 refine Zgf ?_;unfold T5;split
 ·exact Xn.refl _
 ·split
  ·exact Zbx ho ht hl
  ·exact Xn.refl _
theorem Zr7(ho:KOk c)(ht:t<c.ts.length)(hl:y.ws.length=Zo c)(k i:Int):Xn c t y.ws (Re c t n wk y k i).1.ws:=by
 refine Zgf ?_;unfold Qm;split
 ·exact Xn.refl _
 ·split
  ·exact Zbx ho ht hl
  ·exact Xn.refl _
theorem Znl(ho:KOk c)(ht:t<c.ts.length):∀(F:Nat) {y:CY},y.ws.length=Zo c→Xn c t y.ws (Kz c t n F y).1.ws
 | 0,y,_=>Xn.refl _
 | F+1,y,hl=>by
  unfold Kz;split
  ·have h1:=Zgg (n:=n) ho ht hl;exact h1.trans (Znl ho ht F (h1.len.trans hl))
  ·exact Xn.refl _
theorem Zem(ho:KOk c)(ht:t<c.ts.length)(hl:x.y.ws.length=Zo c):Xn c t x.y.ws (Ck c t n gens F x).y.ws:=by
 have e:(Ck c t n gens F x).y.ws=(Kz c t n F x.y).1.ws:=by
  unfold Ck Xl
  (try simp only);split<;>rfl
 rw[e];exact Znl ho ht F hl
theorem Zby:(Vi c t x).y.ws=x.y.ws:=by
 unfold Vi Tf
 (try simp only);split<;>rfl
theorem Zgh(ho:KOk c)(ht:t<c.ts.length)(hl:x.y.ws.length=Zo c)(is:CY→Bool):Xn c t x.y.ws (T6 c t n gens F is x).y.ws:=by
 have h1:Xn c t x.y.ws (Vj c t n gens F is x).y.ws:=by
  unfold Vj;split
  ·exact Zem ho ht hl
  ·exact Xn.refl _
 unfold T6;split
 ·refine h1.trans ?_;have e:=Zby (c:=c) (t:=t) (x:=Vj c t n gens F is x);have h2:=Zem (n:=n) (gens:=gens) (F:=F) ho ht (x:=Vi c t (Vj c t n gens F is x)) (by rw[e];exact h1.len.trans hl);rw[e] at h2;exact h2
 ·exact h1
theorem Em(ho:KOk c)(ht:t<c.ts.length):∀(F:Nat) {x:HP},x.y.ws.length=Zo c→Xn c t x.y.ws (Vd c t n F x).y.ws
 | 0,x,_=>Xn.refl _
 | F+1,x,hl=>by
  unfold Vd;split
  ·have h1:=Zgg (n:=n) ho ht hl;exact h1.trans (Em ho ht F (x:=⟨(Vn c t n x.y).1,Zlj x.p 1,x.work+1⟩) (h1.len.trans hl))
  ·exact Xn.refl _
theorem Znm(ho:KOk c)(ht:t<c.ts.length)(hl:x.y.ws.length=Zo c)(k:Int):Xn c t x.y.ws (Pf c t n gens F x k).y.ws:=by
 have h1:=Em (n:=n) ho ht F (x:={ x with p:=(Zdg x.p k).1 }) hl;unfold Pf;simp only;split
 ·rw[Zby];exact h1
 ·split
  ·exact h1.trans (Zem ho ht (h1.len.trans hl))
  ·exact h1
theorem Znn(y:CY)(s:Int):(Mc c t y s).ws=y.ws:=by unfold Mc;split<;>rfl
theorem Ms(y:CY)(s:Int):(Y5 c t n y s).ws=y.ws:=by unfold Y5;split<;>rfl
theorem En(y:CY)(s:Int):(Ym c t n y s).ws=y.ws:=by
 unfold Ym;split
 ·exact Ms y s
 ·rfl
theorem Zno(ho:KOk c)(ht:t<c.ts.length)(hl:x.y.ws.length=Zo c)(p q:Int):Xn c t x.y.ws (Ys c t n gens F x p q).1.y.ws:=by
 unfold Ys;split
 ·exact Xn.refl _
 ·split
  ·exact Xn.refl _
  ·simp only;have h1:=Zgh (n:=n) (gens:=gens) (F:=F) ho ht hl (fun y=>Qc c t (nth c.cl (cof c.cl (Xg ⟨0,p,q⟩).1).1.toNat) y&&Xz y)
   generalize T6 c t n gens F (fun y=>Qc c t (nth c.cl (cof c.cl (Xg ⟨0,p,q⟩).1).1.toNat) y&&Xz y) x=x1 at h1 ⊢
   split
   ·exact h1
   ·split
    ·exact h1
    ·refine h1.trans ?_;obtain⟨k,hk⟩:=Zb ((cof c.cl (Xg ⟨0,p,q⟩).1).1);rw[hk];have h2:Xn c t x1.y.ws (Qq t (T7 c t x1 k.toNat ⟨k,p,q⟩).1 (T7 c t x1 k.toNat ⟨k,p,q⟩).2).1.y.ws:=by
      unfold Qq T7;simp only;rw[Znn];exact Zr5 ho ht (h1.len.trans hl)
     exact h2.trans (Znm ho ht (h2.len.trans (h1.len.trans hl)) _)
theorem Zr8(ho:KOk c)(ht:t<c.ts.length)(hl:x.y.ws.length=Zo c)(p s:Int):Xn c t x.y.ws (Su c t n gens F x p s).1.y.ws:=by
 unfold Su;split
 ·exact Xn.refl _
 ·split
  ·exact Xn.refl _
  ·simp only;split
   ·exact Xn.refl _
   ·have h1:=Zgh (n:=n) (gens:=gens) (F:=F) ho ht hl Xz;split
    ·exact h1
    ·unfold Qq;simp only;rw[Ms];exact h1
theorem Znp(ho:KOk c)(ht:t<c.ts.length)(p v s:Int):Xn c t x.y.ws (Wu c t n x p v s).1.y.ws:=by
 unfold Wu;split
 ·exact Xn.refl _
 ·split
  ·exact Zbw ho ht
  ·split
   ·exact Xn.refl _
   ·simp only
    generalize (if v=0 then -1 else (Vc t x.y v).1)=tq
    have e:(Ym c t n (Ym c t n x.y (U2 c t x.y.ws s p).1) tq).ws=x.y.ws:=by rw[En,En]
    rw[e];exact Zjc ho ht
theorem Zwv(ho:KOk c)(ht:t<c.ts.length)(hl:x.y.ws.length=Zo c)(f:Int)(o:OpI):Xn c t x.y.ws (hDo c t n gens F f x o).1.y.ws:=by
 have key:Xn c t x.y.ws (Yi c t n gens F f { x with work:=0 } o).1.y.ws:=by
  unfold Yi;split
  ·exact Xn.refl _
  ·split
   ·exact Zno (x:={ x with work:=0 }) ho ht hl _ _
   ·split
    ·exact Xn.refl _
    ·simp only;split
     ·exact Zr8 (x:={ x with work:=0 }) ho ht hl _ _
     ·split
      ·exact Znp (x:={ x with work:=0 }) ho ht _ _ _
      ·split
       ·exact Xn.refl _
       ·split
        ·unfold Wm;split
         ·exact Xn.refl _
         ·simp only;rw[Ms];exact Xn.refl _
        ·split
         ·unfold Md;simp only;rw[Ms];exact Xn.refl _
         ·exact Xn.refl _
 exact key
theorem Xn.bwd(ho:KOk c)(ht:t<c.ts.length)(ht':t'<c.ts.length)(hne:t≠t')(h:Xn c t ws ws'){s:Int}(hin:bIn c t' s){i:Nat}(hi:(i:Int)<bSz c t' s):bwd c t' ws' s i=bwd c t' ws s i:=by
 have sb:=Xt ho ht' hin;have f:=sb.fit;have a:=sb.a0;have ap:=ho.apart ht ht' hne;unfold Go.Proofs.YtfcldaembdedjaaGreatDoor.bwd;exact h.far _ (by unfold bAt;omega)
theorem Xn.head(ho:KOk c)(ht:t<c.ts.length)(ht':t'<c.ts.length)(hne:t≠t')(h:Xn c t ws ws')(s:Int):Zz c t' ws' s=Zz c t' ws s:=by
 by_cases hin:bIn c t' s
 ·have s2:=(Xt ho ht' hin).s2;exact Xj (h.bwd ho ht ht' hne hin (i:=0) (by omega))
 ·rw[Ax hin,Ax hin]
theorem Xn.refs(ho:KOk c)(ht:t<c.ts.length)(ht':t'<c.ts.length)(hne:t≠t')(h:Xn c t ws ws')(hr:Q7 c t' ws):Q7 c t' ws':=by
 intro s hs j hj;rw[h.head ho ht ht' hne] at hs hj;obtain⟨i1,i2,⟨⟨z1,z2,z3,z4,z5⟩,i4,i5⟩,i6⟩:=Yd hs;rw[h.bwd ho ht ht' hne i1 (by omega)];exact hr s hs j hj
theorem YOk.words(h:YOk c t' n gens wk y)(ht:t<c.ts.length)(hne:t≠t')(hx:Xn c t y.ws ws')(wo:WOk ws'):YOk c t' n gens wk { y with ws:=ws' }:=by
 have hh:=hx.head h.ko ht h.ti hne;exact⟨⟨h.ko,h.ti,hx.len.trans h.wl,wo,h.bl,h.ml,h.m,h.hl,h.h0,h.live,h.gen,fun s hs hb=>by (try simp only);rw[hh];exact h.fh s hs hb,
  fun s hs=>by (try simp only);rw[hh];exact h.dm s hs,hx.refs h.ko ht h.ti hne h.ro,h.dl,h.ps,h.st⟩,h.on1,h.on2⟩
theorem HOk.words{a d:Nat}(h:HOk c t' n gens wk a d x)(ht:t<c.ts.length)(hne:t≠t')(hx:Xn c t x.y.ws ws')(wo:WOk ws'):HOk c t' n gens wk a d { x with y:={ x.y with ws:=ws' } }:=
 ⟨h.y.words ht hne hx wo,h.pa,h.tr,h.ss,h.si,h.to,h.de,h.na,h.cy,h.fl⟩
theorem Gar.words{L:Nat→Prop}(h:Gar c t' y L)(ho:KOk c)(ht:t<c.ts.length)(ht':t'<c.ts.length)(hne:t≠t')(hx:Xn c t y.ws ws'):Gar c t' { y with ws:=ws' } L:=by
 refine⟨h.tk,⟨fun s hs hn i=>?_,h.clo.live,h.clo.pin⟩,h.ms,h.sw,h.ph⟩;have hin:bIn c t' (s:Int):=⟨by omega,by omega⟩;have s2:=(Xt ho ht' hin).s2;have e:=Lu (c:=c) (t:=t') (s:=s) (fun j hj=>hx.bwd ho ht ht' hne hin hj) (by omega) i
 (try simp only);rw[e]
 exact h.clo.ref s hs hn i
def Zjd(c:Zh)(t k:Nat):MK:=⟨List.replicate (nS c t) 0,1,Ql c t,List.replicate k Tk,0,false,0⟩
theorem Znq{l:List Ent}{k:Nat}(ho:KOk c)(ht:t<c.ts.length):MOk c t n l (Zjd c t k):=by
 have h:=(Zaz (n:=n) ho ht (l:=l) (Zjd c t k)).1;exact⟨by simp[Zjd],h.g,h.d,fun j=>by unfold Zjd;simp only;rw[Rh];exact Zlm,Nat.zero_le _⟩
def Zcl(c:Zh)(t k m:Nat)(ws:List Int):CY:=
 ⟨ws,List.replicate (nS c t) false,List.replicate m ⟨0,0,1⟩,List.replicate (nS c t) 0,Zjd c t (k+1),⟨List.replicate (nS c t) false,0,false⟩,0,0⟩
def Zyh(c:Zh)(t k m:Nat)(tr ss:Int)(ws:List Int):HP:=⟨Zcl c t k m ws,⟨tr,ss,0,0,0,0,false⟩,0⟩
theorem Zbz(n i:Nat):Zu (List.replicate n false) i=false:=by
 unfold Zu;by_cases h:i<n
 ·simp[List.getD,h]
 ·simp[List.getD,h]
theorem Zr9(m i:Nat):(Zx (List.replicate m ⟨0,0,1⟩) i).st=0:=by
 unfold Zx;by_cases h:i<m
 ·simp[List.getD,h]
 ·simp[List.getD,h,Zxb]
theorem Zsa(n i:Nat):nth (List.replicate n 0) i=0:=by
 unfold nth;by_cases h:i<n
 ·simp[List.getD,h]
 ·simp[List.getD,h]
theorem Zuv{k m:Nat}(ho:KOk c)(ht:t<c.ts.length)(hg:1≤gens)(hw:wk=(k:Int)):YOk c t n gens wk (Zcl c t k m (List.replicate (Zo c) 0)):=by
 refine⟨⟨ho,ht,by simp[Zcl],WOk.rep _,by simp[Zcl],by simp[Zcl],Znq ho ht,by simp[Zcl,Zjd];omega,by omega,fun i hi=>?_,fun i hi=>?_,fun s hs _=>?_,fun s hs=>?_,Zkr c t _,by simp[Zcl],.inl ⟨rfl,rfl,rfl,rfl,fun s=>Zbz _ s⟩,⟨Nat.zero_le _,fun q=>(by rcases q with q|q<;>cases q)⟩⟩,fun q=>(by cases q),fun q=>(by cases q)⟩
 ·rw[show(Zcl c t k m (List.replicate (Zo c) 0)).l=List.replicate m ⟨0,0,1⟩ from rfl,Zr9] at hi;cases hi
 ·have hm:i<m:=by simpa [Zcl] using hi
  have e:Zx (Zcl c t k m (List.replicate (Zo c) 0)).l i=⟨0,0,1⟩:=by unfold Zx Zcl;simp[List.getD,hm]
  rw[e];exact⟨Int.le_refl _,hg,by decide⟩
 ·exact Zay (by unfold Go.Proofs.YtfcldaembdedjaaGreatDoor.bwd Zcl;exact Zsa _ _)
 ·rw[show Zu (Zcl c t k m (List.replicate (Zo c) 0)).s.d s=false from Zbz _ _] at hs;cases hs
theorem Znr{k m:Nat}{tr ss:Int}(ho:KOk c)(ht:t<c.ts.length)(hg:1≤gens)(hw:wk=(k:Int))(h1:1≤tr∧tr≤1048576)(h2:0≤ss∧ss≤1024):HOk c t n gens wk 0 0 (Zyh c t k m tr ss (List.replicate (Zo c) 0)):=
 ⟨Zuv ho ht hg hw,rfl,h1,h2,⟨Int.le_refl _,Int.le_refl _⟩,⟨Int.le_refl _,Int.le_refl _⟩,⟨Int.le_refl _,Int.le_refl _⟩,fun _=>rfl,⟨Int.le_refl _,Int.le_refl _⟩,⟨Zy1 _,Zy1 _⟩⟩
end
section
variable{c:Zh}{t t' n a d F:Nat}{x x':HP}{ws ws':List Int}
def Zuw(x:HP)(ws:List Int):HP:={ x with y:={ x.y with ws:=ws } }
def Ol(X:Nat→HP)(t:Nat)(x':HP)(j:Nat):HP:=if j=t then x' else Zuw (X j) x'.y.ws
def fuel:Nat:=176214017
structure Hr(c:Zh)(t n a d:Nat)(x x':HP):Prop where
 ok:HOk c t n c.gens c.wk a d x'
 len:x'.y.l.length=x.y.l.length
 gar:∀L,Gar c t x.y L→Gar c t x'.y L
 cyc:x'.p.cyc=x.p.cyc
theorem Hr.refl(h:HOk c t n c.gens c.wk a d x):Hr c t n a d x x:=⟨h,rfl,fun _ q=>q,rfl⟩
theorem HOk.later{gens wk:Int}{a' d':Nat}(h:HOk c t n gens wk a d x)(p:a≤a')(q:d≤d'):HOk c t n gens wk a' d' x:=
 ⟨h.y,h.pa,h.tr,h.ss,⟨h.si.1,by have:=h.si.2;omega⟩,⟨h.to.1,by have:=h.to.2;omega⟩,⟨h.de.1,by have:=h.de.2;omega⟩,h.na,⟨h.cy.1,by have:=h.cy.2;omega⟩,⟨h.fl.1,by have:=h.fl.2;omega⟩⟩
theorem Hr.later{a' d':Nat}(h:Hr c t n a d x x')(p:a≤a')(q:d≤d'):Hr c t n a' d' x x':=⟨h.ok.later p q,h.len,h.gar,h.cyc⟩
theorem Hr.words(h:HOk c t' n c.gens c.wk a d x)(ht:t<c.ts.length)(hne:t≠t')(hx:Xn c t x.y.ws ws')(wo:WOk ws'):Hr c t' n a d x (Zuw x ws'):=
 ⟨HOk.words h ht hne hx wo,rfl,fun _ q=>Gar.words q h.y.ko ht h.y.ti hne hx,rfl⟩
structure Wo(c:Zh)(n a d:Nat)(X:Nat→HP)(ws:List Int):Prop where
 ok:∀i,i<c.ts.length→HOk c i n c.gens c.wk a d (X i)
 ws:∀i,i<c.ts.length→(X i).y.ws=ws
theorem Wo.turn{X:Nat→HP}(h:Wo c n a d X ws)(ht:t<c.ts.length)(hx:Xn c t ws x'.y.ws)(wo:WOk x'.y.ws):∀i,i<c.ts.length→i≠t→Hr c i n a d (X i) (Ol X t x' i):=fun i hi e=>by
 unfold Ol;rw[if_neg e];exact Hr.words (h.ok i hi) ht (Ne.symm e) (by rw[h.ws i hi];exact hx) wo
structure Ztn(c:Zh)(n a d t:Nat)(X:Nat→HP)(code:Int)(r:HP × Sn):Prop where
 all:Wo c n (a+1) (d+4) (Ol X t r.1) r.1.y.ws
 own:DoF c t n c.gens c.wk a d code (X t) r
 oth:∀i,i<c.ts.length→i≠t→Hr c i n (a+1) (d+4) (X i) (Ol X t r.1 i)
theorem Wo.op{X:Nat→HP}{f:Int}{o:OpI}(h:Wo c n a d X ws)(ht:t<c.ts.length)(hv:0≤o.v∧o.v<18446744073709551616)(hF:Z7 c t (X t).y.l<F):Ztn c n a d t X o.code (hDo c t n c.gens F f (X t) o):=by
 have k:=h.ok t ht;have p:=Zwn (f:=f) (o:=o) k hv hF;have fa:=Zwv (n:=n) (gens:=c.gens) (F:=F) (x:=X t) k.y.ko ht k.y.wl f o;rw[h.ws t ht] at fa;have o':=h.turn (x':=(hDo c t n c.gens F f (X t) o).1) ht fa p.ok.y.wo;have oth:∀i,i<c.ts.length→i≠t→Hr c i n (a+1) (d+4) (X i) (Ol X t (hDo c t n c.gens F f (X t) o).1 i):=fun i hi e=>(o' i hi e).later (by omega) (by omega)
 refine⟨⟨fun i hi=>?_,fun i hi=>?_⟩,p,oth⟩
 ·by_cases e:i=t
  ·subst e;unfold Ol;rw[if_pos rfl];exact p.ok
  ·exact(oth i hi e).ok
 ·unfold Ol;by_cases e:i=t
  ·rw[if_pos e]
  ·rw[if_neg e];rfl
theorem Wo.step{X:Nat→HP}(h:Wo c n a d X ws)(ht:t<c.ts.length)(k i:Int) :
  Wo c n a d (Ol X t { X t with y:=(Re c t n c.wk (X t).y k i).1 }) (Re c t n c.wk (X t).y k i).1.ws∧∀j,j<c.ts.length→Hr c j n a d (X j) (Ol X t { X t with y:=(Re c t n c.wk (X t).y k i).1 } j):=by
 have q:=h.ok t ht;obtain⟨p1,p2,p3⟩:=Zro q k i;have fa:=Zr7 (n:=n) (wk:=c.wk) q.y.ko ht q.y.wl k i;rw[h.ws t ht] at fa;have o':=h.turn (x':={ X t with y:=(Re c t n c.wk (X t).y k i).1 }) ht fa p1.y.wo;have all:∀j,j<c.ts.length→Hr c j n a d (X j) (Ol X t { X t with y:=(Re c t n c.wk (X t).y k i).1 } j):=fun j hj=>by
  by_cases e:j=t
  ·subst e;unfold Ol;rw[if_pos rfl];exact⟨p1,by (try simp only);rw[p2],p3,rfl⟩
  ·exact o' j hj e
 refine⟨⟨fun j hj=>(all j hj).ok,fun j hj=>?_⟩,all⟩;unfold Ol;by_cases e:j=t
 ·rw[if_pos e]
 ·rw[if_neg e];rfl
def sn0:Sn:=Z9 0
def wn(L:List (Int × Sn))(i:Nat):Int × Sn:=L.getD i (0,sn0)
def Sv(L:List (Int × Sn))(t:Int):Nat→List Sn
 | 0=>[]
 | k+1=>Sv L t k++(if (wn L k).1=t then [(wn L k).2] else [])
def Zje(l:List Sn):Sn:=l.getD (l.length-1) sn0
def Bn(L:List (Int × Sn))(t:Int):Int:=(Zje (Sv L t L.length)).cyc
theorem Eo(L:List (Int × Sn))(p:Int × Sn)(t:Int):∀k,k≤L.length→Sv (L++[p]) t k=Sv L t k
 | 0,_=>rfl
 | k+1,h=>by
  unfold Sv;rw[Eo L p t k (by omega)];have e:wn (L++[p]) k=wn L k:=by unfold wn;rw[List.getD,List.getD,List.getElem?_append_left (by omega)]
  rw[e]
theorem Ep(L:List (Int × Sn))(p:Int × Sn)(t:Int):Bn (L++[p]) t=if p.1=t then p.2.cyc else Bn L t:=by
 unfold Bn;have e:(L++[p]).length=L.length+1:=by simp
 rw[e]
 conv=>lhs;unfold Sv
 rw[Eo L p t L.length (Zy1 _)];have e2:wn (L++[p]) L.length=p:=by unfold wn;simp[List.getD]
 rw[e2];by_cases q:p.1=t
 ·rw[if_pos q,if_pos q];unfold Zje;simp[List.getD]
 ·rw[if_neg q,if_neg q,List.append_nil]
end
end Go.Proofs.YtfcldaembdedjaaGreatDoor
