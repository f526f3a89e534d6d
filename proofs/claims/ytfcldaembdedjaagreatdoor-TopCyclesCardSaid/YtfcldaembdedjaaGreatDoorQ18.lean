/-
  Parts of the proof of TopCycles: Awk, TopC, TopD, TopU, TopF, CfgRow, Door, TopRow, TopZ.
-/
import Derived.Test.YtfcldaembdedjaaGreatDoorQ17
import Derived.Deep.CutBlock
import Derived.ProofKit
import Derived.OpenShut
import Derived.Deep.Slices
import Derived.Deep.Fields
import Derived.LaidMore
import Derived.Test.YtfcldaembdedjaaGreatDoorRows
import Derived.SliceStrings
set_option linter.unusedVariables false
set_option linter.unusedSimpArgs false
set_option maxRecDepth 100000
set_option maxHeartbeats 16000000
namespace Go.Proofs.YtfcldaembdedjaaGreatDoor
open Go.RowKit Go.Proofs.Tryz
section
variable{w w' W W':World}{Q:MB}{X:Nat→HP}{ws:List Int}{L:List (Int × Sn)}{v v':Value}{z k:Nat}{p:Int × Sn}{x:HP}
theorem B7{s:Sn}{e h w ad u si cy:Int}{b:Bool}(q:Zvw s e h w ad u si cy b=true):s=⟨e,h,w,ad,u,si,cy,b⟩:=by
 obtain⟨s0,s1,s2,s3,s4,s5,s6,s7⟩:=s;simp[Zvw] at q;obtain⟨rfl,rfl,rfl,rfl,rfl,rfl,rfl,rfl⟩:=q;rfl
structure AwS(w W:World)(Q:MB)(k:Nat)(x:HP)(v:Value):Prop where
 ex:∃X ws L,Ts W Q tpC 1 X ws L v∧Wo tpC 1 k (4*k) X ws∧L.length=k∧X 0=x∧w.heap.size≤Q.M.lo∧Ext w W
theorem AwS.ext(h:AwS w W Q k x v)(hx:Ext W W'):AwS w W' Q k x v:=by
 obtain⟨X,ws,L,h1,h2,h3,h4,h5,h6⟩:=h;exact⟨X,ws,L,h1.ext hx,h2,h3,h4,h5,h6.trans hx⟩
structure AwB(W:World)(Q:MB)(v:Value)(z:Nat)(V:List Value):Prop where
 box:Zn W z V
 top:Q.top≤z
 ne:some z≠v.ownBlock
theorem AwB.ext{V:List Value}(h:AwB W Q v z V)(hx:Ext W W'):AwB W' Q v z V:=⟨h.box.ext hx,h.top,h.ne⟩
theorem AwB.go{V:List Value}(h:AwB W Q v z V)(hx:Chg (Q.mcP v) W W')(hv:∀j,j<W.heap.size→some j≠v.ownBlock→some j≠v'.ownBlock):AwB W' Q v' z V:=
 ⟨h.box.chg hx (fun q=>by
  rcases q with q|q
  ·have:=h.top;omega
  ·exact h.ne q),h.top,hv z h.box.lt h.ne⟩
theorem AwS.new{V:List Value}(h:AwS w W Q k x v)(_:Ext W W')(hz:W.heap.size=z)(hb:Zn W' z V):AwB W' Q v z V:=by
 obtain⟨X,ws,L,h1,h2,h3,h4,h5,h6⟩:=h;exact⟨hb,by have:=h1.o;omega,fun e=>by have:=(h1.own.lt z e.symm).2;omega⟩
theorem Zsy(s:ByteArray){o:OpI}{r:HP × Sn}(hl:(sbs s).length=27)(he:(Tg (sbs s)).1=Zjn (sbs s))(h1:nth (sbs s) 1=((0:Nat):Int))(ho:Zgn (sbs s)=o)(h7:o.code≠7)(hr:hDo tpC 0 1 9 fuel 0 x o=r)(hk:k≤100)(h:AwS w W Q k x v) :
  Calls prog 9 #[Q.zb,.string s] W fun e w'=>e=.returned (.tuple #[Ul (0,r.2),true])∧∃v',AwS w w' Q (k+1) r.1 v'∧Chg (Q.mcP v) W w'∧∀j,j<W.heap.size→some j≠v.ownBlock→some j≠v'.ownBlock:=by
 obtain⟨X,ws,L,m,ao,ll,rfl,lo,xx⟩:=h;refine(Ev m (by omega) (t:=0) (by decide) hl he h1 ao (by omega) (by omega)).mono fun e w' q=>?_
 obtain⟨p,rfl,X',ws',v',m',c',hv,f,r',e1,e2,e3,e4⟩:=q;rw[ho] at e1;have e5:hDo tpC 0 1 9 fuel f (X 0) o=r':=e1;rw[Zx3 h7,hr] at e5;subst e5 e2 e3 e4;have op:=ao.op (t:=0) (f:=f) (o:=Zgn (sbs s)) (F:=fuel) (by decide) (Zez (Ro s) hl).v (m.fm.hp 0 (by decide)).fuel;have e6:hDo tpC 0 1 tpC.gens fuel f (X 0) (Zgn (sbs s))=r:=by rw[ho];exact e1
 rw[e6] at op;refine⟨rfl,v',⟨_,_,_,m',?_,by simp[ll],by unfold Ol;rw[if_pos rfl],lo,?_⟩,c',hv⟩
 ·have:=op.all;rw[show 4*(k+1)=4*k+4 by omega];exact this
 ·exact c'.over xx fun j q=>by
   rcases q with q|q
   ·have:=m.o;omega
   ·have:=(m.own.lt j q.symm).1;have:=m.o;have:=m.fm.gl;omega
theorem Zw6{Q:MB}(h:Ts W Q tpC tpC.gr.toNat (fun i=>hOf tpC i (List.replicate (Zo tpC) 0)) (List.replicate (Zo tpC) 0) [] (.slice none 0 0))(hl:w.heap.size≤Q.M.lo)(hx:Ext w W):AwS w W Q 0 (tpX 0) (.slice none 0 0):=
 ⟨_,_,_,h,Zw5,rfl,rfl,hl,hx⟩
theorem Zce(hw:Wid w)(hT:Tab w)(hg:0<w.heap.size∧2<w.heap.size):Calls prog 7 #[] w fun e w'=>e=.returned (.bool true)∧Ext w w':=by
 obtain⟨z,hz⟩:=Zb (w.heap.size);obtain⟨W3,hW3⟩:∃W,((w.alloc (.cells #[(2:Int),(4:Int)] 3)).alloc (.cells #[(4:Int),(100:Int),(3:Int),(0:Int),(4:Int),(1:Int),(1:Int),(0:Int)] 81)).alloc (.cells #[.slice (some ⟨z,0,none⟩) 2 2,(8:Int),.slice (some ⟨z+1,0,none⟩) 2 2,(1:Int),(1:Int),(9:Int)] 25)=W:=⟨_,rfl⟩;have B:=Za (show Zn W3 (z+1+1) [.slice (some ⟨z,0,none⟩) 2 2,(8:Int),.slice (some ⟨z+1,0,none⟩) 2 2,(1:Int),(1:Int),(9:Int)] by rw[←hW3];exact Zn.new _ _ _ (by simp[hz]));have X:=Za (show Ext w W3 by rw[←hW3];exact(((Zy2 w).alloc _).alloc _).alloc _);have HC:Hid (Y7 W3 (some ⟨z,0,none⟩) (some ⟨z+1,0,none⟩) 2 2 tpC):=Za (by
  rw[←hW3];exact⟨(At.newb .i64 w [2,4] 3 z hz).ext (((Zy2 _).alloc _).alloc _),((La.newb _ tpC.ts _ _ _ (by simp[hz]) (by
   intro i hi;have h2:i<2:=hi
   match i,h2 with
   | 0,_=>exact⟨rfl,rfl,rfl,rfl⟩
   | 1,_=>exact⟨rfl,rfl,rfl,rfl⟩))).ext ((Zy2 _).alloc _),by decide,by decide,by decide,by decide,by decide,by decide⟩)
 have MN:=Za (Bw HC.out Zyj (hw.chg (P:=fun _=>False) (Zy3 X.out) id) (hT.chgT (P:=fun _=>False) (Zy3 X.out) id) ⟨by have:=X.out.size;omega,by have:=X.out.size;omega⟩);clear hw hT hg;go_enter func7,ntmps7
 go_upto_region 2 with fail
 try rw[hW3]
 clear hW3;obtain⟨b0,b1,b2,b3,b4,b5⟩:=B.out.k6;have bz:=B.out.lt;go_wp2_with fail;clear b0 b1 b2 b3 b4 b5 bz;refine MN.out.mono ?_;unfold Zss;rintro e w4 ⟨Q,rfl,hm,hl,hx⟩;have S0:=Za (Zw6 (w:=w) hm (Zy6 X.out.size hl) (X.out.trans hx));clear hm hl hx MN B X HC;go_wp2_with fail;refine(Zcd (oc:=1) (h:=0) (a:=1) (b:=2) (v:=0) (by decide) (by decide) (by decide) (by decide) (by decide)).ze fun w5 x=>?_;rw[show Zvf 1 0 1 2 0=tpA from rfl];have S1:=Za (S0.out.ext x);clear x S0;go_wp2_with fail;refine(Zcd (oc:=6) (h:=1) (a:=0) (b:=0) (v:=0) (by decide) (by decide) (by decide) (by decide) (by decide)).ze fun w6 x=>?_;rw[show Zvf 6 1 0 0 0=tpD from rfl];have S2:=Za (S1.out.ext x);clear x S1;obtain⟨SA,hSA⟩:=Zb (tpA);obtain⟨SD,hSD⟩:=Zb (tpD);have HA:=Za hSA;have HD:=Za hSD;rw[hSA,hSD];clear hSA hSD;go_wp2_with fail;refine(Zsy (r:=tp1) SA (by rw[←HA.out];exact Zop) (by rw[←HA.out];exact Zvj) (by rw[←HA.out];exact Zvh) (by rw[←HA.out];exact Zvi) (by decide) rfl (by decide) S2.out).mono ?_;rintro e w7 ⟨rfl,v0,hs,hc,hv⟩;rw[B7 Zw1];unfold Ul
 (try simp only)
 have HS:=Za hs;have HV:=Za hv;have HG:=Za hc;clear hs hv hc
 go_upto_region 8 with fail
 obtain⟨W8,hW,bx,xx⟩:=newBox w7 44 [(0:Int),(0:Int),.int .u64 1,.int .u64 0,(8:Int),(4:Int),(4:Int),(0:Int),false];have T0:=Za (HS.out.ext xx);have R0:=Za (HS.out.new xx rfl bx);clear HS HG HV xx bx S2;rw[hW];clear hW;go_wp2_with fail;refine(Zsy (r:=tp2) SA (by rw[←HA.out];exact Zop) (by rw[←HA.out];exact Zvj) (by rw[←HA.out];exact Zvh) (by rw[←HA.out];exact Zvi) (by decide) rfl (by decide) T0.out).mono ?_;rintro e w9 ⟨rfl,v1,hs,hc,hv⟩;rw[B7 Zw2];unfold Ul
 (try simp only)
 have HS:=Za hs;have HV:=Za hv;have HG:=Za hc;clear hs hv hc
 go_upto_region 9 with fail
 obtain⟨W10,hW,bx,xx⟩:=newBox w9 44 [(0:Int),(100:Int),.int .u64 0,.int .u64 0,(0:Int),(4:Int),(0:Int),(1:Int),false];have T1:=Za (HS.out.ext xx);have R1:=Za (HS.out.new xx rfl bx);replace R0:=Za ((R0.out.go HG.out HV.out).ext xx);clear HS HG HV xx bx T0;rw[hW];clear hW;go_wp2_with fail;refine(Zsy (r:=tp3) SD (by rw[←HD.out];exact Zvg) (by rw[←HD.out];exact Zx8) (by rw[←HD.out];exact Zx4) (by rw[←HD.out];exact Zx7) (by decide) rfl (by decide) T1.out).mono ?_;rintro e w11 ⟨rfl,v2,hs,hc,hv⟩;rw[B7 Zw3];unfold Ul
 (try simp only)
 have HS:=Za hs;have HV:=Za hv;have HG:=Za hc;clear hs hv hc
 go_upto_region 10 with fail
 obtain⟨W12,hW,bx,xx⟩:=newBox w11 44 [(0:Int),(0:Int),.int .u64 0,.int .u64 0,(8:Int),(4:Int),(0:Int),(1:Int),false];have T2:=Za (HS.out.ext xx);have R2:=Za (HS.out.new xx rfl bx);replace R0:=Za ((R0.out.go HG.out HV.out).ext xx);replace R1:=Za ((R1.out.go HG.out HV.out).ext xx);clear HS HG HV xx bx T1;rw[hW];clear hW;go_wp2_with fail;refine(Zsy (r:=tp4) SA (by rw[←HA.out];exact Zop) (by rw[←HA.out];exact Zvj) (by rw[←HA.out];exact Zvh) (by rw[←HA.out];exact Zvi) (by decide) rfl (by decide) T2.out).mono ?_;rintro e w13 ⟨rfl,v3,hs,hc,hv⟩;rw[B7 Zw4];unfold Ul
 (try simp only)
 have HS:=Za hs;have HV:=Za hv;have HG:=Za hc;clear hs hv hc
 go_upto_region 11 with fail
 obtain⟨W14,hW,bx,xx⟩:=newBox w13 44 [(0:Int),(0:Int),.int .u64 2,.int .u64 0,(8:Int),(4:Int),(4:Int),(2:Int),false];have T3:=Za (HS.out.ext xx);have R3:=Za (HS.out.new xx rfl bx);replace R0:=Za ((R0.out.go HG.out HV.out).ext xx);replace R1:=Za ((R1.out.go HG.out HV.out).ext xx);replace R2:=Za ((R2.out.go HG.out HV.out).ext xx);clear HS HG HV xx bx T2;rw[hW];clear hW;obtain⟨e0,e1,e2,e3,e4,e5,e6,e7,e8⟩:=R0.out.box.k9;obtain⟨f0,f1,f2,f3,f4,f5,f6,f7,f8⟩:=R1.out.box.k9;obtain⟨g0,g1,g2,g3,g4,g5,g6,g7,g8⟩:=R2.out.box.k9;obtain⟨h0,h1,h2,h3,h4,h5,h6,h7,h8⟩:=R3.out.box.k9;obtain⟨_,_,_,_,_,_,_,_,X9⟩:=T3.out;have XX:=Za X9;clear X9;clear R0 R1 R2 R3 T3;go_wp2;go_ret;exact⟨rfl,XX.out⟩
end
section
variable{w w' W W':World}{ca ta la:Option Addr}{cc tc lc:Nat}{c:Zh}{ss:List ByteArray}
theorem Zx9(h:Zo2 c ss 80=true):Yc c=0:=by
 unfold Zo2 E6 at h;simp only[Bool.and_eq_true,decide_eq_true_eq] at h;exact h.2.2.2.2.1
theorem Zya(h:Zo2 c ss 80=true):ss.length≤80:=by
 unfold Zo2 at h;simp only[Bool.and_eq_true,decide_eq_true_eq] at h;have:=h.2.1;omega
theorem Gw(h:Y7 w ca ta cc tc c)(hl:LAt w la lc ss)(hw:Wid w)(hT:Tab w)(hg:0<w.heap.size∧2<w.heap.size)(hf:Zo2 c ss 80=false) :
  Calls prog 3 #[.agg #[.slice ca c.cl.length cc,c.page,.slice ta c.ts.length tc,c.wk,c.gr,c.gens],.slice la ss.length lc] w fun e w'=>e=.returned (.bool true)∧Ext w w':=by
 obtain⟨hx,h1⟩:=Zd w (Zf ca cc ta tc c);have H:=Za h;have LL:=Za hl;have HF:=Za hf;have AW:=Za (fun W (x:Ext w W)=>Zce (w:=W) (hw.chg (P:=fun _=>False) (Zy3 x) id) (hT.chgT (P:=fun _=>False) (Zy3 x) id) ⟨by have:=x.size;omega,by have:=x.size;omega⟩);have NE:Hid (Calls prog 5 #[.agg #[.slice ca c.cl.length cc,c.page,.slice ta c.ts.length tc,c.wk,c.gr,c.gens]] (w.alloc (.cells #[.slice ca c.cl.length cc,c.page,.slice ta c.ts.length tc,c.wk,c.gr,c.gens] 25)) fun e w'=>(∃p q,e=.returned (.tuple #[.pointer p,.int .i64 q]))∧Ext (w.alloc (.cells #[.slice ca c.cl.length cc,c.page,.slice ta c.ts.length tc,c.wk,c.gr,c.gens] 25)) w'):=Za (by
  have HX:=h.ext hx;by_cases hk:Yc c=0
  ·have ho:=Y8 hk;obtain⟨cb,co,rfl,_⟩:=h.cl.pos ho.cl.pos;obtain⟨tb,to_,rfl,_⟩:=h.ts.pos (by have:=ho.head.2.2.1;omega);refine(Bw HX hk (hw.chg (P:=fun _=>False) (Zy3 hx) id) (hT.chgT (P:=fun _=>False) (Zy3 hx) id) ⟨by have:=hx.size;omega,by have:=hx.size;omega⟩).mono fun e w' q=>?_
   obtain⟨Q,q1,_,_,q2⟩:=q;exact⟨⟨_,_,q1⟩,q2⟩
  ·exact(Zey HX hk).mono fun e w' q=>⟨⟨_,_,q.1⟩,q.2⟩)
 clear h hl hf hw hT hg;go_enter func3,ntmps3;go_wp2_with fail;refine NE.out.mono ?_;rintro e w1 ⟨⟨p,q,rfl⟩,h2⟩;replace h1:=h1.trans h2;clear h2 NE;obtain⟨b0,b1,b2,b3,b4,b5⟩:=Vo h1;go_wp2_with fail;refine(Zfa HF.out (H.out.ext (hx.trans h1)) (LL.out.ext (hx.trans h1))).ze fun w2 h2=>?_;replace h1:=h1.trans h2;clear h2 b0 b1 b2 b3 b4 b5;obtain⟨b0,b1,b2,b3,b4,b5⟩:=Vo h1;go_wp2_with fail;refine(Zfa HF.out (H.out.ext (hx.trans h1)) (LL.out.ext (hx.trans h1))).ze fun w3 h2=>?_;replace h1:=h1.trans h2;clear h2 b0 b1 b2 b3 b4 b5;go_wp2_with fail;refine(AW.out _ (hx.trans h1)).ze fun w4 h2=>?_;go_wp2;go_ret;exact⟨rfl,(hx.trans h1).trans h2⟩
end
section
variable{w w' W W':World}{Q:MB}{v v':Value}{gb N n i t:Nat}{gl:Nat→List Int}{c:Zh}{X:Nat→HP}{ws:List Int}{L:List (Int × Sn)}
theorem Zor:(prog.info? 22).map (fun i=>(i.zero,i.size,i.bytes))=some (some (.slice none 0 0),1,24):=by kernel_rfl
theorem Zvk(n:Nat)(h:n≤65536):∀W:World,(Instr.makeSlice 33 (.int .i64 (n:Int)) (.int .i64 (n:Int))).run prog W=.ok (.slice (some ⟨W.heap.size,0,none⟩) n n) (W.alloc (.cells (madeCells #[.slice none 0 0] n) 22)):=by
 intro W;exact run_make_row' 33 22 (.slice none 0 0) 24 underlying33 Zor rfl .i64 .i64 n (by omega) (by omega) W
structure Zcf(Q:MB)(v:Value)(gb N:Nat)(gl:Nat→List Int)(wr:World):Prop where
 c:∀t,t<N→∃r cap,wr.cell? ⟨gb,t,none⟩=some (.slice r (gl t).length cap)∧At .i64 wr r (gl t)∧∀x o,r=some ⟨x,o,none⟩→Q.top≤x∧some x≠v.ownBlock∧x≠gb∧x<wr.heap.size
 f:∀o,wr.frozen? ⟨gb,o,none⟩=false
 q:Q.top≤gb∧some gb≠v.ownBlock∧gb<wr.heap.size
theorem Zcf.chg{P:Nat→Prop}(h:Zcf Q v gb N gl W)(hx:Chg P W W')(hP:∀k,k<W.heap.size→Q.top≤k→some k≠v.ownBlock→¬P k)(hv:∀k,k<W.heap.size→some k≠v.ownBlock→some k≠v'.ownBlock):Zcf Q v' gb N gl W':=by
 have sz:=hx.size;refine⟨fun t ht=>?_,fun o=>?_,h.q.1,hv _ h.q.2.2 h.q.2.1,Zy5 h.q.2.2 sz⟩
 ·obtain⟨r,cap,e1,e2,e3⟩:=h.c t ht;refine⟨r,cap,hx.cell (hP _ h.q.2.2 h.q.1 h.q.2.1) e1,fun j hj=>?_,fun x o e=>?_⟩
  ·obtain⟨b,o,e4,e5⟩:=e2 j hj;obtain⟨p1,p2,p3,p4⟩:=e3 b o e4;exact⟨b,o,e4,hx.cell (hP _ p4 p1 p2) e5⟩
  ·obtain⟨p1,p2,p3,p4⟩:=e3 x o e;exact⟨p1,hv _ p4 p2,p3,Zy5 p4 sz⟩
 ·rw[hx.frozen h.q.2.2 (hP _ h.q.2.2 h.q.1 h.q.2.1)];exact h.f o
theorem Zcf.ext(h:Zcf Q v gb N gl W)(hx:Ext W W'):Zcf Q v gb N gl W':=h.chg (P:=fun _=>False) (Zy3 hx) (fun _ _ _ _ a=>a) (fun _ _ a=>a)
theorem Zcf.go(h:Zcf Q v gb N gl W)(hx:Chg (Q.mcP v) W W')(hv:∀k,k<W.heap.size→some k≠v.ownBlock→some k≠v'.ownBlock):Zcf Q v' gb N gl W':=
 h.chg hx (fun k _ h1 h2 q=>by
  rcases q with q|q
  ·omega
  ·exact h2 q) hv
theorem Zcf.set{r:Option Addr}{cap:Nat}{l:List Int}(h:Zcf Q v gb N gl W)(hr:At .i64 W r l)(hp:∀x o,r=some ⟨x,o,none⟩→Q.top≤x∧some x≠v.ownBlock∧x≠gb∧x<W.heap.size) :
  Zcf Q v gb N (Rs gl t l) (W.setCell ⟨gb,t,none⟩ (.slice r l.length cap)):=by
 have sz:(W.setCell ⟨gb,t,none⟩ (.slice r l.length cap)).heap.size=W.heap.size:=by simp
 have keep:∀{r':Option Addr} {xs:List Int},At .i64 W r' xs→(∀x o,r'=some ⟨x,o,none⟩→x≠gb)→At .i64 (W.setCell ⟨gb,t,none⟩ (.slice r l.length cap)) r' xs:=fun ha hn j hj=>by
  obtain⟨b,o,e1,e2⟩:=ha j hj;exact⟨b,o,e1,by rw[cell_far _ _ _ _ (Ne.symm (hn b o e1))];exact e2⟩
 refine⟨fun j hj=>?_,fun o=>by rw[World.frozen?_setCell];exact h.f o,h.q.1,h.q.2.1,by rw[sz];exact h.q.2.2⟩;obtain⟨r1,cap1,e1,e2,e3⟩:=h.c j hj;by_cases e:j=t
 ·subst e;refine⟨r,cap,?_,?_,fun x o q=>by rw[sz];exact hp x o q⟩
  ·unfold Rs;rw[if_pos rfl];exact Zyz W _ _ e1
  ·unfold Rs;rw[if_pos rfl];exact keep hr fun x o q=>(hp x o q).2.2.1
 ·refine⟨r1,cap1,?_,?_,fun x o q=>by rw[sz];exact e3 x o q⟩
  ·unfold Rs;rw[if_neg e];rw[Wi _ _ _ _ _ e];exact e1
  ·unfold Rs;rw[if_neg e];exact keep e2 fun x o q=>(e3 x o q).2.2.1
structure Aa(w:World)(Q:MB)(c:Zh)(n i gb:Nat)(X:Nat→HP)(ws:List Int)(L:List (Int × Sn))(v:Value)(gl:Nat→List Int)(wr:World):Prop where
 m:Ts wr Q c n X ws L v
 k:Ja c n i X ws L gl
 g:Zcf Q v gb c.ts.length gl wr
 x:Ext w wr
 lo:w.heap.size≤Q.M.lo
theorem Aa.ext(h:Aa w Q c n i gb X ws L v gl W)(hx:Ext W W'):Aa w Q c n i gb X ws L v gl W':=⟨h.m.ext hx,h.k,h.g.ext hx,h.x.trans hx,h.lo⟩
theorem Aa.xgo(h:Aa w Q c n i gb X ws L v gl W)(hx:Chg (Q.mcP v) W W'):Ext w W':=
 hx.over h.x fun j q=>by
  rcases q with q|q
  ·have:=h.lo;omega
  ·have:=(h.m.own.lt j q.symm).1;have:=h.m.o;have:=h.m.fm.gl;have:=h.lo;omega
theorem Zvl(ho:KOk c):Wo c c.gr.toNat 0 0 (fun i=>hOf c i (List.replicate (Zo c) 0)) (List.replicate (Zo c) 0):=by
 obtain⟨_,_,_,_,w1,_,_,_,g1,_⟩:=ho.head;refine⟨fun i hi=>Znr ho hi g1 (by omega) ?_ ?_,fun i hi=>rfl⟩
 ·obtain⟨_,_,q1,q2,_⟩:=ho.ten i hi;exact⟨q1,q2⟩
 ·obtain⟨_,_,_,_,_,_,q1,q2⟩:=ho.ten i hi;exact⟨q1,q2⟩
theorem Zw7{ws:List Int}(h:Ts W Q c n X ws [] (.slice none 0 0)):Zcf Q (.slice none 0 0) W.heap.size N (fun _=>[]) (W.alloc (.cells (madeCells #[.slice none 0 0] N) 22)):=by
 refine⟨fun t ht=>⟨none,0,?_,fun j hj=>(by cases hj),fun x o e=>(by cases e)⟩,fun o=>World.frozen?_alloc_at _ _ _ _ rfl,h.o.2.2,fun e=>(by cases e),by simp⟩;rw[show madeCells #[Value.slice none 0 0] N=(List.replicate N (Value.slice none 0 0)).toArray from (by apply Array.ext<;>simp[madeCells,Nat.mod_one])];rw[Zg];simp[ht]
end
section
variable{w w' W W' W2:World}{Q:MB}{v v':Value}{gb N n i t z:Nat}{gl:Nat→List Int}{c:Zh}{X:Nat→HP}{ws:List Int}{L:List (Int × Sn)}{code:Int}{r:HP × Sn}
def Zvm(w:World)(v:Value)(W:World)(Q:MB)(v':Value):Prop:=∀z V,AwB w Q v z V→AwB W Q v' z V
theorem Aa.newBox{V:List Value}(h:Aa w Q c n i gb X ws L v gl W)(hz:W.heap.size≤z)(hb:Zn W' z V):AwB W' Q v z V:=
 ⟨hb,by have:=h.m.o;omega,fun e=>by have:=(h.m.own.lt z e.symm).2;omega⟩
theorem Zvn{s:ByteArray}(h:Aa w Q c n i gb X ws L v gl W)(hi:i≤80)(hs:¬Zj1 c (sbs s)) :
  Calls prog 9 #[Q.zb,.string s] W fun e w'=>(∃p b,e=.returned (.tuple #[Ul p,.bool b]))∧∃X' ws' L' v',Aa w Q c n (i+1) gb X' ws' L' v' gl w'∧Ext w w':=by
 refine(Ze0 h.m (by have:=h.k.len;omega) hs h.k.all).mono fun e w' q=>?_
 obtain⟨q1,X',ws',L',v',m,cg,hv,ao,st,ll,lc⟩:=q;have x:=h.xgo cg;exact⟨q1,X',ws',L',v',⟨m,h.k.nop ao st ll lc,h.g.go cg hv,x,h.lo⟩,x⟩
structure Zj3(w:World)(Q:MB)(c:Zh)(n i gb t:Nat)(X:Nat→HP)(code:Int)(L:List (Int × Sn))(gl:Nat→List Int)(r:HP × Sn)(v:Value)(W:World):Prop where
 m:Ts W Q c n (Ol X t r.1) r.1.y.ws (L++[((t:Int),r.2)]) v
 o:Zvd c n i t X code L gl r
 g:Zcf Q v gb c.ts.length gl W
 x:Ext w W
 lo:w.heap.size≤Q.M.lo
theorem Zj3.ext(h:Zj3 w Q c n i gb t X code L gl r v W)(hx:Ext W W'):Zj3 w Q c n i gb t X code L gl r v W':=⟨h.m.ext hx,h.o,h.g.ext hx,h.x.trans hx,h.lo⟩
theorem Zj3.box{V:List Value}(h:Zj3 w Q c n i gb t X code L gl r v W)(hz:W.heap.size≤z)(hb:Zn W' z V):AwB W' Q v z V:=
 ⟨hb,by have:=h.m.o;omega,fun e=>by have:=(h.m.own.lt z e.symm).2;omega⟩
theorem Zw8{s:ByteArray}(h:Aa w Q c n i gb X ws L v gl W)(hi:i≤80)(hs:Zj1 c (sbs s))(ht:nth (sbs s) 1=(t:Int))(hc:(Zgn (sbs s)).code=code) :
  Calls prog 9 #[Q.zb,.string s] W fun e w'=>∃(r:HP × Sn) (v':Value),e=.returned (.tuple #[Ul ((t:Int),r.2),true])∧Zj3 w Q c n i gb t X code L gl r v' w'∧Zvm W v w' Q v':=by
 subst hc;obtain⟨hl,he⟩:=Zoa hs;have tt:t<c.ts.length:=by
  have:=hs.2.2;rw[he] at this;have e:(Zjn (sbs s)).tenant=nth (sbs s) 1:=rfl;rw[e,ht] at this;omega
 refine(Ev h.m (by have:=h.k.len;omega) tt hl he ht h.k.all (by omega) (by omega)).mono fun e w' q=>?_
 obtain⟨p,rfl,X',ws',v',m,cg,hv,f,r,e1,e2,e3,e4⟩:=q;have op:=h.k.all.op (t:=t) (f:=f) (o:=Zgn (sbs s)) (F:=fuel) tt (Zez (Ro s) hl).v (h.m.fm.hp t tt).fuel;rw[e1] at op;subst e2 e3 e4;have x:=h.xgo cg;exact⟨r,v',rfl,⟨m,h.k.op tt hi op,h.g.go cg hv,x,h.lo⟩,fun z V b=>b.go cg hv⟩
theorem Aa.store{u:Value}(hm:Ts W Q c n X ws L v)(hg:Zcf Q v gb N gl W):Ts (W.setCell ⟨gb,t,none⟩ u) Q c n X ws L v:=
 hm.chg (Wn W gb t u) (fun k hk e=>by have e2:k=gb:=e;have:=hg.q.1;omega) (fun g e q=>by have e2:g=gb:=q;exact hg.q.2.1 (by rw[e,e2]))
theorem Aa.storeX{u:Value}(hx:Ext w W)(hg:Zcf Q v gb N gl W)(ho:w.heap.size≤Q.M.lo)(hm:Ts W Q c n X ws L v):Ext w (W.setCell ⟨gb,t,none⟩ u):=
 (Wn W gb t u).over hx fun j q=>by have e2:j=gb:=q;have:=hg.q.1;have:=hm.o;have:=hm.fm.gl;omega
structure Gx(w:World)(Q:MB)(c:Zh)(n i gb t:Nat)(X:Nat→HP)(code:Int)(L:List (Int × Sn))(gl gl1:Nat→List Int)(r:HP × Sn)(v:Value)(W:World):Prop where
 l:Aa w Q c n (i+1) gb (Ol X t r.1) r.1.y.ws (L++[((t:Int),r.2)]) v gl1 W
 o:Zvd c n i t X code L gl r
 e:∀l,Rs gl1 t l=Rs gl t l
theorem Gx.ext{gl1:Nat→List Int}(h:Gx w Q c n i gb t X code L gl gl1 r v W)(hx:Ext W W'):Gx w Q c n i gb t X code L gl gl1 r v W':=⟨h.l.ext hx,h.o,h.e⟩
theorem Zj3.keep(h:Zj3 w Q c n i gb t X code L gl r v W)(hc:¬r.2.cyc>m31 (X t).p.cyc):Gx w Q c n i gb t X code L gl gl r v W:=by
 have k:=h.o.mid;unfold Zjs at k;rw[if_neg hc] at k;have e:Rs gl t (gl t)=gl:=by
  funext j;unfold Rs;split
  ·rename_i q;rw[q]
  ·rfl
 rw[e] at k;exact⟨⟨h.m,k,h.g,h.x,h.lo⟩,h.o,fun l=>rfl⟩
theorem Zj3.nil(h:Zj3 w Q c n i gb t X code L gl r v W)(hc:r.2.cyc>m31 (X t).p.cyc):Gx w Q c n i gb t X code L gl (Rs gl t []) r v (W.setCell ⟨gb,t,none⟩ (.slice none 0 0)):=by
 have k:=h.o.mid;unfold Zjs at k;rw[if_pos hc] at k;refine⟨⟨Aa.store h.m h.g,k,?_,Aa.storeX h.x h.g h.lo h.m,h.lo⟩,h.o,fun l=>?_⟩
 ·exact h.g.set (l:=[]) (r:=none) (cap:=0) (fun j hj=>by cases hj) (fun x o e=>by cases e)
 ·funext j;unfold Rs;split<;>rfl
theorem Gx.lost{gl1:Nat→List Int}{l:List Int}{B:Nat}{u:Value}(h:Gx w Q c n i gb t X code L gl gl1 r v W)(hx:Ext W W2)(hB:W.heap.size=B)(hu:W2.ownsRow B 3 1 u l.length (ncs .i64 l))(hl:Um r.1.y.bs (Rq c t r.1.y) (nS c t)=l)
  (c1:code=1) (c2:r.2.e=0) (c3:r.2.act=true) (c4:r.2.since=0):Aa w Q c n (i+1) gb (Ol X t r.1) r.1.y.ws (L++[((t:Int),r.2)]) v (Rs gl t l) (W2.setCell ⟨gb,t,none⟩ u):=by
 have lt:=hu.lt;obtain⟨a,cap,rfl,ha⟩:=Ga hu;have h2:=h.l.ext hx;have k:=h.o.begun c1 c2 c3 c4;rw[hl] at k;refine⟨Aa.store h2.m h2.g,k,?_,Aa.storeX h2.x h2.g h2.lo h2.m,h2.lo⟩;rw[←h.e];refine h2.g.set ha fun x o e=>?_
 subst e;have lx:=lt x rfl;have o:=h.l.m.o;exact⟨by omega,fun e=>by have:=(h.l.m.own.lt x e.symm).2;omega,fun e=>by have:=h.l.g.q.2.2;omega,lx.2⟩
theorem Zj3.hp(h:Zj3 w Q c n i gb t X code L gl r v W)(ht:t<c.ts.length):Zv W (Q.M.H t) c t n r.1:=by
 have k:=h.m.fm.hp t ht;unfold Ol at k;rw[if_pos rfl] at k;exact k
theorem Gx.hp{gl1:Nat→List Int}(h:Gx w Q c n i gb t X code L gl gl1 r v W)(ht:t<c.ts.length):Zv W (Q.M.H t) c t n r.1:=by
 have k:=h.l.m.fm.hp t ht;unfold Ol at k;rw[if_pos rfl] at k;exact k
theorem Zsz{b gp:Nat}(h:Zt W b gp c t):Z0 c t≤1048576:=by
 have e:=Tv h.ok h.ti;have h1:=h.pages;have h2:=h.page;have g:=h.ok.sG_le h.ti (Zy1 _);have m8:=h.ok.cl.most;have p:=h.pg2;have mb:=Ar (a:=sG c t c.cl.length) (b:=c.page) (A:=16384) (B:=64) (by omega) (by omega) (by omega) p.2;omega
theorem Zos{H:HB}{x:HP}{s:Nat}(h:Zv W H c t n x)(hs:s<nS c t):Calls prog 21 #[H.B.pb,(s:Int)] W fun e w'=>e=.returned (.tuple #[.int .i64 (Ve c t (s:Int)),(0:Int)])∧Ext W w':=by
 have q:bIn c t (s:Int):=⟨by omega,by omega⟩;unfold Ve;rw[if_pos q];exact J6 h.cy.i.k.body.plan (Xt h.ko h.ti q).at_
theorem AwB.off{V:List Value}{u:Value}(h:AwB W Q v z V)(hz:z≠gb):AwB (W.setCell ⟨gb,t,none⟩ u) Q v z V:=⟨h.box.chg (Wn W gb t u) (fun e=>hz e),h.top,h.ne⟩
theorem Zs0(l0 l1 l2 l3 l4 l5 l6:Int)(l7:Bool)(W:World):(Instr.field 42 (.agg #[l0,.int .u64 l1,.int .u64 l2,l3,l4,l5,l6,l7]) 6).run prog W=.ok (.int .i64 l6) W:=by kernel_rfl
theorem Zyr{bs:List Int}(hb:BOk bs)(h:Zj1 c bs):∃t:Nat,t<c.ts.length∧nth bs 1=(t:Int)∧bs.length=27∧(Tg bs).1=Zjn bs:=by
 obtain⟨hl,he⟩:=Zoa h;have p:=(hb 1 (by omega)).1;have q:=h.2.2;rw[he] at q;have e:(Zjn bs).tenant=nth bs 1:=rfl;rw[e] at q;exact⟨(nth bs 1).toNat,by omega,by omega,hl,he⟩
end
section
variable{w w' W W':World}{ca ta la:Option Addr}{cc tc lc:Nat}{c:Zh}{ss:List ByteArray}
theorem Ab(h:Y7 w ca ta cc tc c)(hl:LAt w la lc ss)(hw:Wid w)(hT:Tab w)(hg:0<w.heap.size∧2<w.heap.size)(hf:Zo2 c ss 80=true) :
  Calls prog 3 #[.agg #[.slice ca c.cl.length cc,c.page,.slice ta c.ts.length tc,c.wk,c.gr,c.gens],.slice la ss.length lc] w fun e w'=>e=.returned (.bool true)∧Ext w w':=by
 have hk:=Zx9 hf;have ho:=Y8 hk;have t1:=ho.head.2.2.1;have t8:=ho.head.2.2.2.1;have ll:=Zya hf;obtain⟨cb,co,rfl,-⟩:=h.cl.pos ho.cl.pos;obtain⟨tb,to_,rfl,-⟩:=h.ts.pos (by omega);have hx:=(Zy2 w).alloc (.cells #[.slice (some ⟨cb,co,none⟩) c.cl.length cc,c.page,.slice (some ⟨tb,to_,none⟩) c.ts.length tc,c.wk,c.gr,c.gens] 25);have H:=Za h;have LL:=Za hl;have HF:=Za hf;have HX:=Za hx;have AW:=Za (fun W (x:Ext w W)=>Zce (w:=W) (hw.chg (P:=fun _=>False) (Zy3 x) id) (hT.chgT (P:=fun _=>False) (Zy3 x) id) ⟨by have:=x.size;omega,by have:=x.size;omega⟩);have NE:=Za (Bw (h.ext hx) hk (hw.chg (P:=fun _=>False) (Zy3 hx) id) (hT.chgT (P:=fun _=>False) (Zy3 hx) id) ⟨by have:=hx.size;omega,by have:=hx.size;omega⟩);have AO:=Za (Zvl ho);have hmk:=Zvk c.ts.length (by omega);have tp:decide ((ss.length:Int)≤80)=true:=Zyy (by omega);obtain⟨z,hz⟩:=Zb (w.heap.size);have HZ:=Za hz;clear h hl hf hw hT hg hk ho hx hz;go_enter func3,ntmps3;go_wp2_with fail;refine NE.out.mono ?_;unfold Zss;rintro e w1 ⟨Q,rfl,hm,hlo,h2⟩;have h1:=h2;have M1:=Za hm;have LO:=Za hlo;clear NE h2 hm hlo;obtain⟨b0,b1,b2,b3,b4,b5⟩:=Vo h1;go_wp2_with fail;refine(Zfa HF.out (H.out.ext (HX.out.trans h1)) (LL.out.ext (HX.out.trans h1))).ze fun w2 h2=>?_;replace M1:=Za (M1.out.ext h2);replace h1:=h1.trans h2;clear h2 b0 b1 b2 b3 b4 b5;obtain⟨b0,b1,b2,b3,b4,b5⟩:=Vo h1;go_wp2_with fail;have G0:=Za (Zw7 (N:=c.ts.length) M1.out);have L0:Hid (Ja c c.gr.toNat 0 (fun i=>hOf c i (List.replicate (Zo c) 0)) (List.replicate (Zo c) 0) [] (fun _=>[])):=Za (Ja.start AO.out fun t ht=>rfl)
 go_loopw [8] (fun iv wr=>∃(i:Nat) (X:Nat→HP) (ws:List Int) (L:List (Int × Sn)) (v:Value) (gl:Nat→List Int),i≤ss.length∧iv=.int .i64 i∧Hid (Aa (w.alloc (.cells #[.slice (some ⟨cb,co,none⟩) c.cl.length cc,c.page,.slice (some ⟨tb,to_,none⟩) c.ts.length tc,c.wk,c.gr,c.gens] 25)) Q c c.gr.toNat i w2.heap.size X ws L v gl wr)) (fun iv _=>ss.length-(intOf iv).toNat)
 case atStart=>exact⟨0,_,_,_,_,_,Nat.zero_le _,rfl,⟨M1.out.ext ((Zy2 _).alloc _),L0.out,G0.out,h1.alloc _,LO.out⟩⟩
 case round=>
  clear b0 b1 b2 b3 b4 b5 h1 G0 L0 M1;obtain⟨i,X,ws,L,v,gl,hi,rfl,S⟩:=hrel;by_cases hlt:i<ss.length
  ·obtain⟨b0,b1,b2,b3,b4,b5⟩:=Vo S.out.x;obtain⟨lb,lo,rfl,hc⟩:=LL.out.l.pos (by omega);have rc:=hc i hlt;have r0:=(HX.out.trans S.out.x).cell rc;clear hc;obtain⟨s,hs⟩:=Zb (Zo1 ss i);have HS:=Za hs;rw[hs] at r0 rc;have RC:=Za rc;clear hs rc;obtain⟨x,hxx⟩:=Zb ((Tg (sbs s)).1);obtain⟨b,hb⟩:=Zb (decide (Zj1 c (sbs s)));have EN:=Za (fun W=>Zon (w:=W) (ca:=some ⟨cb,co,none⟩) (ta:=some ⟨tb,to_,none⟩) (cc:=cc) (tc:=tc) s hxx hb H.out.tm);have HXX:=Za hxx;have HBB:=Za hb;obtain⟨ek,et,⟨oc,oh,oa,ob,ov⟩,ew,em⟩:=x;unfold enV at EN
   (try simp only at EN)
   clear hxx hb;go_wp2_with fail;have S1:=S.out;clear S
   go_cut [9,10] from 50 to 215 (fun s9 s10 wx=>∃zx,s9=.pointer (some ⟨zx,0,none⟩)∧s10=.bool b∧Hid (Ext wr wx∧Zn wx zx [.int .u8 ek,et,.int .u8 oc,.int .u64 oh,oa,ob,.int .u64 ov,ew,.int .u8 em]∧wr.heap.size≤zx))
   case first=>
    have E1:=Za (EN.out wr.drew);have E2:=Za (EN.out (wr.alloc (.cells #[.int .u8 0,(0:Int),.int .u8 0,.int .u64 0,(0:Int),(0:Int),.int .u64 0,(0:Int),.int .u8 0] 38)).drew);have XA:=Za (show Ext wr wr.drew from (Zy2 _).drew);have XB:=Za (show Ext wr (wr.alloc (.cells #[.int .u8 0,(0:Int),.int .u8 0,.int .u64 0,(0:Int),(0:Int),.int .u64 0,(0:Int),.int .u8 0] 38)).drew from ((Zy2 _).alloc _).drew);have BB:=Za (Zn.new wr [.int .u8 0,(0:Int),.int .u8 0,.int .u64 0,(0:Int),(0:Int),.int .u64 0,(0:Int),.int .u8 0] 38 rfl);have SS:Hid (wr.cell? w.heap.size=some (.slice (some ⟨cb,co,none⟩) c.cl.length cc)∧wr.cell? ⟨w.heap.size,1,none⟩=some (.int .i64 c.page)∧wr.cell? ⟨w.heap.size,2,none⟩=some (.slice (some ⟨tb,to_,none⟩) c.ts.length tc)∧wr.cell? ⟨w.heap.size,3,none⟩=some (.int .i64 c.wk)∧wr.cell? ⟨w.heap.size,4,none⟩=some (.int .i64 c.gr)∧wr.cell? ⟨w.heap.size,5,none⟩=some (.int .i64 c.gens)∧wr.cell? ⟨lb,lo+i,none⟩=some (.string s)):=Za ⟨b0,b1,b2,b3,b4,b5,r0⟩;have S2:=Za S1;have KX:Hid (∀V:World,Ext wr V→((V).cell? w.heap.size=some (.slice (some ⟨cb,co,none⟩) c.cl.length cc)∧(V).cell? ⟨w.heap.size,1,none⟩=some (.int .i64 c.page)∧(V).cell? ⟨w.heap.size,2,none⟩=some (.slice (some ⟨tb,to_,none⟩) c.ts.length tc)∧(V).cell? ⟨w.heap.size,3,none⟩=some (.int .i64 c.wk)∧(V).cell? ⟨w.heap.size,4,none⟩=some (.int .i64 c.gr)∧(V).cell? ⟨w.heap.size,5,none⟩=some (.int .i64 c.gens)∧(V).cell? ⟨lb,lo+i,none⟩=some (.string s))):=Za fun V q=>⟨(q).cell SS.out.1,(q).cell SS.out.2.1,(q).cell SS.out.2.2.1,(q).cell SS.out.2.2.2.1,(q).cell SS.out.2.2.2.2.1,(q).cell SS.out.2.2.2.2.2.1,(q).cell SS.out.2.2.2.2.2.2⟩
    have K0:=Za (KX.out wr.drew XA.out);have K1:=Za (KX.out _ XB.out);have l1:w.heap.size<wr.heap.size:=Zj b0;have l2:lb<wr.heap.size:=Zj r0;have KP:Hid (∀V:World,Ext wr V→((put9 V wr.heap.size (.int .u8 ek) (.int .i64 et) (.int .u8 oc) (.int .u64 oh) (.int .i64 oa) (.int .i64 ob) (.int .u64 ov) (.int .i64 ew) (.int .u8 em)).cell? w.heap.size=some (.slice (some ⟨cb,co,none⟩) c.cl.length cc)∧(put9 V wr.heap.size (.int .u8 ek) (.int .i64 et) (.int .u8 oc) (.int .u64 oh) (.int .i64 oa) (.int .i64 ob) (.int .u64 ov) (.int .i64 ew) (.int .u8 em)).cell? ⟨w.heap.size,1,none⟩=some (.int .i64 c.page)∧(put9 V wr.heap.size (.int .u8 ek) (.int .i64 et) (.int .u8 oc) (.int .u64 oh) (.int .i64 oa) (.int .i64 ob) (.int .u64 ov) (.int .i64 ew) (.int .u8 em)).cell? ⟨w.heap.size,2,none⟩=some (.slice (some ⟨tb,to_,none⟩) c.ts.length tc)∧(put9 V wr.heap.size (.int .u8 ek) (.int .i64 et) (.int .u8 oc) (.int .u64 oh) (.int .i64 oa) (.int .i64 ob) (.int .u64 ov) (.int .i64 ew) (.int .u8 em)).cell? ⟨w.heap.size,3,none⟩=some (.int .i64 c.wk)∧(put9 V wr.heap.size (.int .u8 ek) (.int .i64 et) (.int .u8 oc) (.int .u64 oh) (.int .i64 oa) (.int .i64 ob) (.int .u64 ov) (.int .i64 ew) (.int .u8 em)).cell? ⟨w.heap.size,4,none⟩=some (.int .i64 c.gr)∧(put9 V wr.heap.size (.int .u8 ek) (.int .i64 et) (.int .u8 oc) (.int .u64 oh) (.int .i64 oa) (.int .i64 ob) (.int .u64 ov) (.int .i64 ew) (.int .u8 em)).cell? ⟨w.heap.size,5,none⟩=some (.int .i64 c.gens)∧(put9 V wr.heap.size (.int .u8 ek) (.int .i64 et) (.int .u8 oc) (.int .u64 oh) (.int .i64 oa) (.int .i64 ob) (.int .u64 ov) (.int .i64 ew) (.int .u8 em)).cell? ⟨lb,lo+i,none⟩=some (.string s))):=Za fun V q=>by
     have far:∀k j,wr.heap.size≠k→(put9 V wr.heap.size (.int .u8 ek) (.int .i64 et) (.int .u8 oc) (.int .u64 oh) (.int .i64 oa) (.int .i64 ob) (.int .u64 ov) (.int .i64 ew) (.int .u8 em)).cell? ⟨k,j,none⟩=V.cell? ⟨k,j,none⟩:=fun k j hk=>by
      unfold put9
      iterate 9 rw[cell_far _ _ _ _ hk]
     obtain⟨y0,y1,y2,y3,y4,y5,y6⟩:=KX.out V q;exact⟨(far _ _ (by omega)).trans y0,(far _ _ (by omega)).trans y1,(far _ _ (by omega)).trans y2,(far _ _ (by omega)).trans y3,(far _ _ (by omega)).trans y4,(far _ _ (by omega)).trans y5,(far _ _ (by omega)).trans y6⟩
    clear b0 b1 b2 b3 b4 b5 r0;clear S1 EN
    go_region_held3 (fun W'=>W'.cell? w.heap.size=some (.slice (some ⟨cb,co,none⟩) c.cl.length cc)∧W'.cell? ⟨w.heap.size,1,none⟩=some (.int .i64 c.page)∧W'.cell? ⟨w.heap.size,2,none⟩=some (.slice (some ⟨tb,to_,none⟩) c.ts.length tc)∧W'.cell? ⟨w.heap.size,3,none⟩=some (.int .i64 c.wk)∧W'.cell? ⟨w.heap.size,4,none⟩=some (.int .i64 c.gr)∧W'.cell? ⟨w.heap.size,5,none⟩=some (.int .i64 c.gens)∧W'.cell? ⟨lb,lo+i,none⟩=some (.string s)) ((first|with_reducible exact K0.out|with_reducible exact K1.out|with_reducible exact K2.out|with_reducible exact K3.out|with_reducible exact K4.out|with_reducible assumption)) (first|(go_at_call 8;with_reducible refine E1.out.ze fun w5 x5=>?_;have X5:=Za (XA.out.trans x5);have K2:=Za (KX.out w5 X5.out);have K3:=Za (KX.out _ (X5.out.alloc (.cells #[.int .u8 0,(0:Int),.int .u8 0,.int .u64 0,(0:Int),(0:Int),.int .u64 0,(0:Int),.int .u8 0] 38)));have K4:=Za (KX.out _ (X5.out.alloc (.cells #[.int .u8 ek,et,.int .u8 oc,.int .u64 oh,oa,ob,.int .u64 ov,ew,.int .u8 em] 38)));have BX:=Za (Zn.new w5 [.int .u8 ek,et,.int .u8 oc,.int .u64 oh,oa,ob,.int .u64 ov,ew,.int .u8 em] 38 rfl);clear x5)|(go_at_call 8;with_reducible refine E2.out.ze fun w5 x5=>?_;have BX:=Za ((BB.out.ext (Zy2 _).drew).ext x5);obtain⟨m0,m1,m2,m3,m4,m5,m6,m7,m8⟩:=BX.out.k9;obtain⟨o0,o1,o2,o3,o4,o5,o6,o7,o8⟩:=BX.out.g9;have X5:=Za (XB.out.trans x5);have K2:=Za (KX.out w5 X5.out);have K3:=Za (KP.out w5 X5.out);have K4:=Za trivial;clear x5)|fail)
    all_goals
     clear KX KP K0 K1 K2 K3 K4 SS E1 E2;go_wp2
     go_meet
    case rel=>exact⟨_,rfl,rfl,Za ⟨X5.out.alloc _,BX.out,X5.out.size⟩⟩
    case rel=>exact⟨_,rfl,rfl,Za ⟨(Xs w5 wr.heap.size (.int .u8 ek) (.int .i64 et) (.int .u8 oc) (.int .u64 oh) (.int .i64 oa) (.int .i64 ob) (.int .u64 ov) (.int .i64 ew) (.int .u8 em)).over X5.out fun k e=>Nat.le_of_eq (Eq.symm e),BX.out.put9 (.int .u8 ek) (.int .i64 et) (.int .u8 oc) (.int .u64 oh) (.int .i64 oa) (.int .i64 ob) (.int .u64 ov) (.int .i64 ew) (.int .u8 em),Zy1 _⟩⟩
   case rest=>as_aux_lemma=>
    obtain⟨zx,rfl,rfl,R⟩:=hcut;have S2:=Za (S1.ext R.out.1);have AX:=Za (S1.newBox R.out.2.2 R.out.2.1);have ZX:=Za (show zx≠w2.heap.size from by have:=R.out.2.2;have:=S1.g.q.2.2;omega);clear b0 b1 b2 b3 b4 b5 r0 S1 R EN;by_cases hop:Zj1 c (sbs s)
    ·obtain⟨t,ht,h1,hl,he⟩:=Zyr (Ro s) hop;obtain rfl:true=b:=by rw[←HBB.out];exact(Zyy hop).symm
     have ex:=HXX.out.symm.trans he;have HOC:=Za (show(Zgn (sbs s)).code=oc from (congrArg (fun x=>x.op.code) ex).symm);obtain rfl:et=(t:Int):=(congrArg EnI.tenant ex).trans h1;have HOP:=Za hop;have H1:=Za h1;have htI:(t:Int)<(c.ts.length:Int):=by omega
     have x1:=AX.out.box.c 1 _ rfl;clear hop h1 hl he ex HXX HBB;go_wp2_with fail;refine(Zn9 S2.out.m).zz ?_;go_wp2_with fail;refine(Ht S2.out.m.fm ht).zz ?_;go_wp2_with fail;refine(Zri (S2.out.m.fm.hp t ht)).zz ?_;go_wp2_with fail;refine(Zjo S2.out.m (by have:=S2.out.k.len;omega)).mono ?_;rintro e w5 ⟨u,rfl,hu,x5⟩;have HU:=Za hu;obtain⟨sl,hsl⟩:=Zb (Zje (Sv L (t:Int) L.length));have HL6:=Za (show sl.cyc=m31 (X t).p.cyc from by rw[←hsl];exact S2.out.k.last t ht);have TL:=Za (Zso HU.out (by have:=Hu L (t:Int) L.length;have:=S2.out.k.len;omega) hsl);obtain⟨l0,l1,l2,l3,l4,l5,l6,l7⟩:=sl;unfold Bu at TL
     (try simp only at TL)
     clear hu hsl;go_wp2_with fail;refine TL.out.ze fun w6 x6=>?_;have S3:=Za (S2.out.ext (x5.trans x6));have AX3:=Za (AX.out.ext (x5.trans x6));have r0:=(HX.out.trans S3.out.x).cell RC.out;have gsz:=S3.out.k.sz t ht;have fl:=fun W=>Zs0 l0 l1 l2 l3 l4 l5 l6 l7 W
     clear x5 x6 x1 TL HU S2 AX;go_wp2_with fail;refine(Zw8 S3.out (by omega) HOP.out H1.out HOC.out).mono ?_;rintro e w7 ⟨⟨x',⟨se,sh,sw,sa,su,ssi,sc,sac⟩⟩,v',rfl,hm,hst⟩;unfold Ul
     (try simp only)
     have HM:=Za hm;have HST:=Za hst;clear hm hst r0 fl
     go_upto_region 16 with fail
     obtain⟨W8,hW,bx,xx⟩:=newBox w7 44 [(t:Int),se,.int .u64 sh,.int .u64 sw,sa,su,ssi,sc,sac];obtain⟨zw,hzw⟩:=Zb (w7.heap.size);have M8:=Za (HM.out.ext xx);have BW:=Za (HM.out.box (z:=zw) (by omega) (by rw[←hzw];exact bx));have BX:=Za ((HST.out _ _ AX3.out).ext xx);have ZW:=Za (show zw≠w2.heap.size from by have:=HM.out.g.q.2.2;omega);rw[hW,hzw];clear hW hzw bx xx HM HST AX3 S3;have HP8:=Za (show Zv W8 (Q.M.H t) c t c.gr.toNat x' from M8.out.hp ht);obtain⟨M,hM⟩:=Zb (Z0 c t);obtain⟨E,hE⟩:=Zb (x'.y.l.length);obtain⟨K,hK⟩:=Zb (x'.work);obtain⟨S,hS⟩:=Zb (x'.y.steps);have m1:M≤1048576:=by rw[←hM];exact Zsz HP8.out.cy.i.k.body.plan
     have e1:E≤1024:=by rw[←hE];exact HP8.out.cy.i.k.tab.len.2
     have wk:=M8.out.o.work;have st:=M8.out.o.steps;rw[hM] at wk st;replace wk:(K:Int)≤2*(21*((M:Int)+(E:Int))):=by rw[←hK,←hE];exact wk
     replace st:(S:Int)≤21*((M:Int)+(E:Int)):=by rw[←hS,←hE];exact st
     have tw:decide (2*(21*((M:Int)+(E:Int)))<(K:Int))=false:=Zyx (by omega);have ts:decide (21*((M:Int)+(E:Int))<(S:Int))=false:=Zyx (by omega);have WD:=Za (fun W (q:Zv W (Q.M.H t) c t c.gr.toNat x')=>If (M:Int) (by rw[←hM];exact(Tv q.ko q.ti).symm) q.cy.i.k.body.plan);have LN:=Za (fun W (q:Zv W (Q.M.H t) c t c.gr.toNat x')=>I5 q.cy.i.k.tab hE);have WO:=Za (fun W (q:Zv W (Q.M.H t) c t c.gr.toNat x')=>Zuo q hK);have SO:=Za (fun W (q:Zv W (Q.M.H t) c t c.gr.toNat x')=>Zm1 q.cy hS);clear hM hE hK hS wk st;go_wp2_with fail;refine(Og HP8.out.cy).zz ?_;go_wp2_with fail;refine(WD.out _ HP8.out).ze fun w9 x9=>?_;have HP9:=Za (HP8.out.ext x9);go_wp2_with fail;refine(Sb HP9.out.cy).zz ?_;go_wp2_with fail;refine(LN.out _ HP9.out).zz ?_;go_wp2_with fail;refine(WO.out _ HP9.out).zz ?_;go_wp2_with fail;refine(SO.out _ HP9.out).zz ?_;have M9:=Za (M8.out.ext x9);replace BW:=Za (BW.out.ext x9);replace BX:=Za (BX.out.ext x9);clear WD LN WO SO HP8 M8 x9
     go_upto_block 2 with fail
     clear tw ts m1 e1;obtain⟨gr,gc,gx,ga,gq⟩:=M9.out.g.c t ht;have GX:=Za gx;have GA:=Za ga;obtain⟨N,hN⟩:=Zb ((gl t).length);have HN:=Za hN;rw[hN] at GX gsz;clear gx ga gq hN
     go_cut [18,19,20,21] from 50 to 215 (fun s18 s19 s20 s21 wx=>Hid (Ext w9 wx))
     case first=>as_aux_lemma=>
      have FR:=Za M9.out.o.free;go_wp2_with fail
      go_loopw [18] (fun kv wq=>∃k:Nat,k≤N∧kv=.int .i64 k∧Hid (Ext w9 wq)) (fun kv _=>N-(intOf kv).toNat)
      case atStart=>exact⟨0,Nat.zero_le _,rfl,Za (Zy2 _)⟩
      case round=>
       obtain⟨k,hk,rfl,XQ⟩:=hrel;have gx:=XQ.out.cell GX.out;have BQ:=Za (BW.out.ext XQ.out);have b7:=BQ.out.box.c 7 _ rfl;by_cases hkl:k<N
       ·have tk:decide ((k:Int)<(N:Int))=true:=Zyy (by omega);by_cases hcy:l6<sc
        ·have tq:decide (l6<sc)=true:=Zyy hcy;obtain⟨sn,hsn,hs2,hfr⟩:=FR.out (by rw[←HL6.out];exact hcy) (nth (gl t) k) (Ov (by rw[HN.out];exact hkl));obtain⟨ga,go,rfl,hc⟩:=GA.out.pos (by rw[HN.out];omega);have ec:=hc k (by rw[HN.out];exact hkl);rw[hsn] at ec;have e0:=XQ.out.cell ec;have FF:=Za hfr;have HPQ:=Za (HP9.out.ext XQ.out);clear hcy hc ec hsn hfr
         go_upto_region 22 with fail
         have PLQ:=Za (fun W (x:Ext wr W)=>Og (HPQ.out.ext x).cy);have ADQ:=Za (fun W (x:Ext wr W)=>Zos (HPQ.out.ext x) hs2);have cx:=fun d os=>cell_regrown gx d os;have ce:=fun d os=>cell_regrown e0 d os
         clear b7;refine wp_region_quiet_below (by kernel_rfl) (by kernel_rfl) ?_
         repeat (any_goals (first|go_big_quiet_step ((first|(go_at_call 15;exact Vp (PLQ.out _ (Zk _ _ _)))|(go_at_call 21;exact reg (ADQ.out _ (Zk _ _ _)))|fail))|quiet_step ((first|(go_at_call 15;exact Vp (PLQ.out _ (Zk _ _ _)))|(go_at_call 21;exact reg (ADQ.out _ (Zk _ _ _)))|fail))))
         refine Zc fun WQ xq=>?_;replace gx:=xq.cell gx;replace e0:=xq.cell e0;replace XQ:=Za (XQ.out.trans xq);obtain⟨pA,hpA⟩:=Zb (Ve c t (sn:Int));rw[hpA] at FF ⊢;have HPW:=Za (HPQ.out.ext xq);have c2:=(BX.out.ext XQ.out).box.c 2 _ rfl;have d1:=(BW.out.ext XQ.out).box.c 1 _ rfl;have d4:=(BW.out.ext XQ.out).box.c 4 _ rfl;clear cx ce PLQ ADQ hpA HPQ BQ xq;obtain⟨bv,hbv⟩:=Zb (Zu x'.y.bs sn);rw[hbv] at FF;have HBV:=Za hbv;clear hbv
         go_upto_region 23 with fail
         go_cut [21] from 114 to 173 (fun s21 wx=>∃a,s21=.bool a∧Hid (wx=WQ∧(bv=true→a=true)))
         case first=>as_aux_lemma=>
          clear gx e0;by_cases q1:oc=1
          ·subst q1;by_cases q2:se=0
           ·subst q2;by_cases q3:pA=sa
            ·have r3:(pA==sa)=true:=by simp[q3]
             clear q3;go_wp2
             go_meet
             case rel=>exact⟨_,rfl,Za ⟨rfl,fun _=>rfl⟩⟩
            ·have r3:(pA==sa)=false:=by simp[q3]
             have bf:bv=false:=by
              rcases FF.out with q|q
              ·exact q
              ·exact absurd q.2.2.symm q3
             clear q3;go_wp2
             go_meet
             case rel=>exact⟨_,rfl,Za ⟨rfl,fun q=>by rw[bf] at q;cases q⟩⟩
           ·have r2:(se==0)=false:=by simp[q2]
            have bf:bv=false:=by
             rcases FF.out with q|q
             ·exact q
             ·exact absurd q.2.1 q2
            clear q2;go_wp2
            go_meet
            case rel=>exact⟨_,rfl,Za ⟨rfl,fun q=>by rw[bf] at q;cases q⟩⟩
          ·have r1:(oc==1)=false:=by simp[q1]
           have bf:bv=false:=by
            rcases FF.out with q|q
            ·exact q
            ·exact absurd q.1 q1
           clear q1;go_wp2
           go_meet
           case rel=>exact⟨_,rfl,Za ⟨rfl,fun q=>by rw[bf] at q;cases q⟩⟩
         case rest=>
          obtain⟨av,rfl,hq⟩:=hcut;obtain⟨rfl,hqa⟩:=hq.out;have ARQ:=Za (fun W x=>Rm (HPW.out.ext (w':=W) x).cy);have HSQ:=Za (fun W x=>Rk (s:=(sn:Int)) bv (HPW.out.ext (w':=W) x).cy.i.ar (by rw[Tj];exact HBV.out));have cx:=fun d os=>cell_regrown gx d os;have ce:=fun d os=>cell_regrown e0 d os
          have QA:=Za hqa;clear c2 d1 d4 FF hq hqa HBV tk tq
          go_upto_region 24 with fail
          cases bv with
          | false=>
           refine wp_region_quiet_below (by kernel_rfl) (by kernel_rfl) ?_
           repeat (any_goals (first|go_big_quiet_step ((first|(go_at_call 22;exact Vp (ARQ.out _ (Zk _ _ _)))|(go_at_call 23;exact Vp (HSQ.out _ (Zk _ _ _)))|fail))|quiet_step ((first|(go_at_call 22;exact Vp (ARQ.out _ (Zk _ _ _)))|(go_at_call 23;exact Vp (HSQ.out _ (Zk _ _ _)))|fail))))
           refine Zc fun WQ xq=>?_;replace XQ:=Za (XQ.out.trans xq);clear cx ce gx e0 xq ARQ HSQ;go_wp2;go_roundw
           case rel=>exact⟨k+1,by omega,by go_num,XQ⟩
           case measure=>simp[intOf];omega
          | true=>
           obtain rfl:av=true:=QA.out rfl;refine wp_region_quiet_below (by kernel_rfl) (by kernel_rfl) ?_
           repeat (any_goals (first|go_big_quiet_step ((first|(go_at_call 22;exact Vp (ARQ.out _ (Zk _ _ _)))|(go_at_call 23;exact Vp (HSQ.out _ (Zk _ _ _)))|fail))|quiet_step ((first|(go_at_call 22;exact Vp (ARQ.out _ (Zk _ _ _)))|(go_at_call 23;exact Vp (HSQ.out _ (Zk _ _ _)))|fail))))
           refine Zc fun WQ xq=>?_;replace XQ:=Za (XQ.out.trans xq);clear cx ce gx e0 xq ARQ HSQ;go_wp2;go_roundw
           case rel=>exact⟨k+1,by omega,by go_num,XQ⟩
           case measure=>simp[intOf];omega
        ·have tq:decide (l6<sc)=false:=Zyx hcy;clear hcy;go_wp2
         go_meet
         case rel=>exact XQ
       ·have tk:decide ((k:Int)<(N:Int))=false:=Zyx (by omega);clear b7;go_wp2
        go_meet
        case rel=>exact XQ
     case rest=>
      have M10:=Za (M9.out.ext hcut.out);replace BW:=Za (BW.out.ext hcut.out);replace BX:=Za (BX.out.ext hcut.out);have gx:=hcut.out.cell GX.out;have gf:=M10.out.g.f t;have d7:=BW.out.box.c 7 _ rfl;obtain⟨bq,tq⟩:=Zb (decide (l6<sc));have TQ:=Za tq;clear hcut M9 HP9 GX GA HN
      go_upto_if 178 with fail
      clear tq d7
      go_cut [18] from 50 to 215 (fun s18 wx=>∃gl1,Hid (Gx (w.alloc (.cells #[.slice (some ⟨cb,co,none⟩) c.cl.length cc,c.page,.slice (some ⟨tb,to_,none⟩) c.ts.length tc,c.wk,c.gr,c.gens] 25)) Q c c.gr.toNat i w2.heap.size t X oc L gl gl1 (x',⟨se,sh,sw,sa,su,ssi,sc,sac⟩) v' wx∧AwB wx Q v' zw [(t:Int),se,.int .u64 sh,.int .u64 sw,sa,su,ssi,sc,sac]∧AwB wx Q v' zx [.int .u8 ek,(t:Int),.int .u8 oc,.int .u64 oh,oa,ob,.int .u64 ov,ew,.int .u8 em]))
      case first=>as_aux_lemma=>
       cases bq with
       | false=>
        go_wp2
        go_meet
        case rel=>exact⟨gl,Za ⟨M10.out.keep (by rw[←HL6.out];exact Zy8 TQ.out),BW.out,BX.out⟩⟩
       | true=>
        go_wp2
        go_meet
        case rel=>exact⟨_,Za ⟨M10.out.nil (by rw[←HL6.out];exact Zy7 TQ.out),BW.out.off ZW.out,BX.out.off ZX.out⟩⟩
      case rest=>
       obtain⟨gl1,R⟩:=hcut;have LW:=Za R.out.1;have LL1:=Za R.out.1.l;obtain⟨r1,gc1,gx1,ga1,gq1⟩:=R.out.1.l.g.c t ht;obtain⟨N1,hN1⟩:=Zb ((gl1 t).length);rw[hN1] at gx1;have d1:=R.out.2.1.box.c 1 _ rfl;have d6:=R.out.2.1.box.c 6 _ rfl;have d8:=R.out.2.1.box.c 8 _ rfl;have c2:=R.out.2.2.box.c 2 _ rfl;clear ga1 gq1 hN1 R M10 BW BX gx gf;cases sac with
       | false=>
        clear d1 d6 c2;go_wp2;go_roundw
        case rel=>exact⟨i+1,_,_,_,_,_,by omega,by go_num,LL1⟩
        case measure=>simp[intOf];omega
       | true=>
        by_cases q0:N1=0
        ·have r0:((N1:Int)==0)=true:=by simp[q0]
         by_cases q1:oc=1
         ·subst q1;by_cases q2:se=0
          ·subst q2;by_cases q3:ssi=0
           ·subst q3;clear q0;obtain⟨l,hl⟩:=Zb (Um x'.y.bs (Rq c t x'.y) (nS c t));have TL:=Za (Zsw (LW.out.hp ht).cy);simp only at TL;rw[hl] at TL;have HLL:=Za hl;clear hl;go_wp2_with fail;refine TL.out.mono ?_;rintro e w11 ⟨u2,rfl,hu,x11⟩;have HU:=Za hu;obtain⟨a2,cap2,rfl,ha2⟩:=Ga hu;have gx2:=x11.cell gx1;have gf2:=(LW.out.ext x11).l.g.f t;have X11:=Za x11;clear hu ha2 x11 gx1 d1 d6 d8 c2 r0;go_wp2;go_roundw
            case rel=>exact⟨i+1,_,_,_,_,_,by omega,by go_num,Za (LW.out.lost X11.out rfl HU.out HLL.out rfl rfl rfl rfl)⟩
            case measure=>simp[intOf];omega
           ·have r3:(ssi==0)=false:=by simp[q3]
            clear q3 q0;go_wp2;go_roundw
            case rel=>exact⟨i+1,_,_,_,_,_,by omega,by go_num,LL1⟩
            case measure=>simp[intOf];omega
          ·have r2:(se==0)=false:=by simp[q2]
           clear q2 q0;go_wp2;go_roundw
           case rel=>exact⟨i+1,_,_,_,_,_,by omega,by go_num,LL1⟩
           case measure=>simp[intOf];omega
         ·have r1':(oc==1)=false:=by simp[q1]
          clear q1 q0;go_wp2;go_roundw
          case rel=>exact⟨i+1,_,_,_,_,_,by omega,by go_num,LL1⟩
          case measure=>simp[intOf];omega
        ·have r0:((N1:Int)==0)=false:=by simp[q0]
         clear q0;go_wp2;go_roundw
         case rel=>exact⟨i+1,_,_,_,_,_,by omega,by go_num,LL1⟩
         case measure=>simp[intOf];omega
    ·obtain rfl:false=b:=by rw[←HBB.out];exact(Zyx hop).symm
     have HOP:=Za hop;have x1:=AX.out.box.c 1 _ rfl;have r0:=(HX.out.trans S2.out.x).cell RC.out;clear hop HXX HBB;go_wp2_with fail;refine(Zvn S2.out (by omega) HOP.out).mono ?_;rintro e w5 ⟨⟨p,bb,rfl⟩,X',ws',L',v',hl,hx⟩;have HL:=Za hl;clear hl hx x1 r0;go_wp2;go_roundw
     case rel=>exact⟨i+1,X',ws',L',v',gl,by omega,by go_num,HL⟩
     case measure=>simp[intOf];omega
  ·go_wp2_with fail;refine(AW.out _ (HX.out.trans S.out.x)).ze fun w4 h2=>?_;go_wp2;go_ret;exact⟨rfl,(HX.out.trans S.out.x).trans h2⟩
end
section
open Go.ChangeShapes Go.WideShapes Go.ChangeAt Go.RowKit Go.Deep
theorem Zot:prog.cellsOf 25=6:=by kernel_rfl
theorem Zou:prog.cellsOf 81=4:=by kernel_rfl
theorem Zju:prog.cellsOf 22=1:=by kernel_rfl
theorem Zjv:prog.cellsOf 23=1:=by kernel_rfl
theorem Gc:prog.cellsOf 3=1:=by kernel_rfl
theorem Zfb{n:Nat}{Q:Nat→Ten→Prop}(h:∀i,i<n→∃t,Q i t):∃ts:List Ten,ts.length=n∧∀i,i<n→Q i (Vg ts i):=by
 induction n with
 | zero=>exact⟨[],rfl,fun i hi=>absurd hi (Zzb _)⟩
 | succ n ih=>
  obtain⟨ts,hl,hq⟩:=ih fun i hi=>h i (by omega)
  obtain⟨t,ht⟩:=h n (by omega);refine⟨ts++[t],by simp[hl],fun i hi=>?_⟩;rcases Nat.lt_or_ge i n with c|c
  ·have:Vg (ts++[t]) i=Vg ts i:=by simp[Vg,List.getD,List.getElem?_append,hl,c]
   rw[this];exact hq i c
  ·obtain rfl:i=n:=by omega
   have:Vg (ts++[t]) i=t:=by simp[Vg,List.getD,←hl]
   rw[this];exact ht
theorem Zcg{w:World}{a:Addr}{v:Value}(h:w.cell? a=some v):a.spot=none:=by
 obtain⟨b,o,s⟩:=a;cases s with
 | none=>rfl
 | some s=>
  simp[World.cell?] at h;split at h<;>cases h
theorem Zov{H:Type}{enc:TypeId × Value→H}{w:World}{base n:Nat}{c0:Value}{y:DataW H × List MemPlace}(h:DataW.trod enc prog w base (fun _=>true) true n 23 [c0]=some y) :
  ∃ta len tc ts,c0=.slice ta len tc∧ts.length=len∧La w ta ts∧len≤tc∧tc≤maxLen:=by
 rcases open_slice underlying23 h with ⟨h0,_⟩|⟨a,len,cap,m,n',D,Pl,hcs,_,hl,hm,hmm,_,hi⟩
 ·simp at h0;exact⟨none,0,0,[],h0,rfl,fun i hi=>absurd hi (Zzb _),Zy1 _,by decide⟩
 ·simp at hcs hmm;subst hmm;have key:∀i,i<len→∃t:Ten,w.cell? (a.add (i*4))=some (.int .i64 t.q)∧w.cell? ((a.add (i*4)).add 1)=some (.int .i64 t.tr)∧w.cell? ((a.add (i*4)).add 2)=some (.int .i64 t.cp)∧w.cell? ((a.add (i*4)).add 3)=some (.int .i64 t.sst):=by
   intro i hi';obtain⟨cs',hc,ht⟩:=hi i (by omega);rw[Zou] at hc;obtain⟨_,hcl,hat⟩:=World.cells?_some hc;obtain⟨xs,n2,_,_,_,hlen,hg⟩:=DataW.trod_struct underlying81 ht
   match cs',hcl with
   | [e0,e1,e2,e3],_=>
    match xs,hlen with
    | [y0,y1,y2,y3],_=>
     have g0:=hg 0 _ rfl;have g1:=hg 1 _ rfl;have g2:=hg 2 _ rfl;have g3:=hg 3 _ rfl;simp[Gc] at g0 g1 g2 g3;obtain⟨q0,r0,_,_⟩:=DataW.trod_int underlying3 g0;obtain⟨q1,r1,_,_⟩:=DataW.trod_int underlying3 g1;obtain⟨q2,r2,_,_⟩:=DataW.trod_int underlying3 g2;obtain⟨q3,r3,_,_⟩:=DataW.trod_int underlying3 g3;have k0:=hat 0 (by omega);have k1:=hat 1 (by omega);have k2:=hat 2 (by omega);have k3:=hat 3 (by omega);simp at r0 r1 r2 r3 k0 k1 k2 k3;refine⟨⟨q0,q1,q2,q3⟩,?_,?_,?_,?_⟩
     ·simpa [r0,Addr.add] using k0
     ·rw[k1,r1]
     ·rw[k2,r2]
     ·rw[k3,r3]
  obtain⟨ts,hts,hq⟩:=Zfb key;refine⟨some a,len,_,ts,hcs,hts,?_,hl,hm⟩;intro i hi';have hs:a.spot=none:=by
   have:=(hq 0 (by omega)).1;exact Zcg (by simpa [Addr.add] using this)
  obtain⟨b,o,s⟩:=a;cases hs;obtain⟨u0,u1,u2,u3⟩:=hq i (by omega);rw[Addr.add_lit] at u0 u1 u2 u3;rw[Addr.add_lit] at u1 u2 u3;exact⟨b,o,rfl,u0,u1,u2,u3⟩
theorem open_cfg{H:Type}{enc:TypeId × Value→H}{w:World}{base b0:Nat}{v:Value}{d:DataW H}{p:List MemPlace}
  (hv:Value.okWide prog w .any b0 25 v) (h:DataW.Trod enc prog w base (fun _=>true) true 25 v d p) :
  ∃ca ta cc tc c,v=.agg #[.slice ca c.cl.length cc,c.page,.slice ta c.ts.length tc,c.wk,c.gr,c.gens]∧Y7 w ca ta cc tc c:=by
 obtain⟨cs,rfl,hsz⟩:=okWide_struct underlying25 hv;obtain⟨l⟩:=cs;have hl6:l.length=6:=by rw[Zot] at hsz;simpa using hsz
 obtain⟨fuel,hf⟩:=h;obtain⟨xs,n,_,_,_,hlen,hg⟩:=DataW.trod_struct underlying25 hf
 match l,hl6 with
 | [c0,c1,c2,c3,c4,c5],_=>
  match xs,hlen with
  | [y0,y1,y2,y3,y4,y5],_=>
   have g0:=hg 0 _ rfl;have g1:=hg 1 _ rfl;have g2:=hg 2 _ rfl;have g3:=hg 3 _ rfl;have g4:=hg 4 _ rfl;have g5:=hg 5 _ rfl;simp[Value.cells,Zju,Zjv,Gc] at g0 g1 g2 g3 g4 g5;obtain⟨q1,r1,_,_⟩:=DataW.trod_int underlying3 g1;obtain⟨q3,r3,_,_⟩:=DataW.trod_int underlying3 g3;obtain⟨q4,r4,_,_⟩:=DataW.trod_int underlying3 g4;obtain⟨q5,r5,_,_⟩:=DataW.trod_int underlying3 g5;simp at r1 r3 r4 r5;subst r1 r3 r4 r5;obtain⟨ta,tl,tc,ts,rfl,hts,hta,ht1,ht2⟩:=Zov g2;rcases open_ints underlying22 underlying3 Gc g0 with ⟨h0,_⟩|⟨x,cl,cc,zs,hcs,_,hl,hm,hz,_,hcell,hwz⟩
   ·simp at h0;subst h0 hts;exact⟨none,ta,0,tc,⟨[],q1,ts,q3,q4,q5⟩,rfl,At.nil,hta,Nat.zero_le _,by show ts.length≤_;omega,Zy1 _,ht1,Nat.zero_le _,ht2⟩
   ·simp at hcs;subst hcs hts;obtain⟨k1,k2,k3,_⟩:=At.of_row (k:=.i64) (w:=w) (a:=some x) (len:=cl) (cap:=cc) (zs:=zs) (.inr ⟨x,rfl,hl,hm,by simpa using hz,hcell,hwz⟩);refine⟨some x,ta,cc,tc,⟨zs.take cl,q1,ts,q3,q4,q5⟩,by simp only[k2],k1,hta,by show(zs.take cl).length≤_;omega,by show ts.length≤_;omega,by show(zs.take cl).length≤_;omega,ht1,hm,ht2⟩
end
section
open Go.ChangeShapes Go.WideShapes Go.ChangeAt Go.RowKit
def Zyl{H:Type}(k:IntKind)(zs:List Int):DataW H:=.agg (zs.map fun z=>.lit (.int k z))
theorem Zgu{P:Program}{name:String}{k:IntKind}{zs:List Int}{W:World}{t e:TypeId}{n g:Nat}(h:laidMetH P [(name,Zyl k zs)] W)
  (hg:P.globalNamed name=some g) (ht:(P.globals[g]?).map (·.type)=some t) (hu:P.underlying t=some (.array n e)) (he:P.underlying e=some (.int k)) (hc:P.cellsOf e=1) (hn:zs.length=n) :
  ∀i,i<n→W.cell? ⟨g,i,none⟩=some (.int k (nth zs i)):=by
 rw[MakeChecks.laidMetH_plain _ _ _ (by rfl)] at h;obtain⟨ps,⟨g0,t0,cs0,f0,p0,q0,hg0,ht0,hv0,hd0,_,_⟩,_,_⟩:=h;obtain rfl:=Zzc (hg.symm.trans hg0);obtain rfl:=Zzc (ht.symm.trans ht0);obtain⟨xs,m,rfl,hx,hlen,hn3,hel⟩:=DataW.trod_array hu hd0;simp only[Prod.mk.injEq,Zyl,DataW.agg.injEq] at hx;intro i hi;have hi':=hel i hi;rw[hc,Nat.mul_one] at hi';have hxi:i<xs.length:=by omega
 rw[List.getElem?_eq_getElem hxi] at hi';obtain⟨z,e1,e2,_⟩:=DataW.trod_int he hi';have hz:z=nth zs i:=by
  have h1:=congrArg (fun l=>l[i]?) hx.1;simp only[List.getElem?_map,List.getElem?_eq_getElem hxi,List.getElem?_eq_getElem (show i<zs.length by omega),Option.map_some,Option.some.injEq] at h1;rw[e2] at h1;have:zs[i]=z:=by simpa using h1
  rw[←this];simp[nth,List.getD,show i<zs.length by omega]
 rw[World.var?_cell hg0 hv0 i,←hz];obtain⟨l⟩:=cs0;have e3:(l.drop i).take 1=[.int k z]:=e1;have e4:(l.drop i).head?=some (.int k z):=by
  cases hd:l.drop i with
  | nil=>rw[hd] at e3;cases e3
  | cons a r=>rw[hd] at e3;simp at e3;simp[e3]
 rw[List.head?_drop] at e4;simpa using e4
end
section
open Go.ChangeShapes Go.WideShapes Go.ChangeAt Go.RowKit Go.Deep
theorem Zs1{P:Program}{a b:String × DataW Unit}{W:World}(h:laidMetH P [a,b] W)(ha:a.2.handleName?.isNone=true)(hb:b.2.handleName?.isNone=true):laidMetH P [a] W∧laidMetH P [b] W:=by
 rw[MakeChecks.laidMetH_plain _ _ _ (by simp[ha,hb])] at h;rw[MakeChecks.laidMetH_plain _ _ _ (by simp[ha]),MakeChecks.laidMetH_plain _ _ _ (by simp[hb])];obtain⟨ps,⟨g,t,cs,f,p,q,h1,h2,h3,h4,h5,h6⟩,nd,hc⟩:=h;rw[h6] at nd hc;refine⟨⟨_,⟨g,t,cs,f,p,[],h1,h2,h3,h4,rfl,rfl⟩,?_,fun x o hm=>hc x o (List.mem_append.2 (.inl (by simpa using hm)))⟩,⟨q,h5,(List.nodup_append.1 nd).2.1,fun x o hm=>hc x o (List.mem_append.2 (.inr hm))⟩⟩;rw[List.append_nil];exact(List.nodup_append.1 nd).1
theorem laid_top{W:World}(h:laidMetH prog [("math/bits.deBruijn64tab",Rows.laid_math_bits_deBruijn64tab),("commonage/head.widths",Rows.laid_commonage_head_widths)] W) :
  Wid W∧Tab W∧(0<W.heap.size∧2<W.heap.size):=by
 obtain⟨h1,h2⟩:=Zs1 h rfl rfl;have k:=Zgu (k:=.i64) (zs:=Zjw) (t:=303) (e:=3) (n:=5) (g:=0) h2 (by kernel_rfl) (by kernel_rfl) underlying303 underlying3 (by kernel_rfl) rfl;have q:=Zgu (k:=.u8) (zs:=Lib.deBruijn64tab.map Int.ofNat) (t:=410) (e:=5) (n:=64) (g:=2) h1 (by kernel_rfl) (by kernel_rfl) underlying410 underlying5 (by kernel_rfl) rfl;refine⟨⟨k 0 (by decide),k 1 (by decide),k 2 (by decide),k 3 (by decide),k 4 (by decide)⟩,fun j hj=>?_,Zj (k 0 (by decide)),Zj (q 0 (by decide))⟩;rw[q j hj];have hl:Lib.deBruijn64tab.length=64:=rfl;have e:nth (Lib.deBruijn64tab.map Int.ofNat) j=((Lib.deBruijn64tab.getD j 0:Nat):Int):=by
  simp[nth,List.getD,hl,hj]
 rw[e]
theorem open_row{H:Type}{enc:TypeId × Value→H}{w:World}{base b0:Nat}{v:Value}{d:DataW H}{p:List MemPlace}
  (hv:Value.okWide prog w .any b0 26 v) (h:DataW.Trod enc prog w base (fun _=>true) true 26 v d p) :
  ∃la lc ss,v=.slice la ss.length lc∧LAt w la lc ss:=by
 obtain⟨a,len,cap,rfl⟩:=okWide_slice underlying26 hv;obtain⟨fuel,hf⟩:=h;rcases open_strings underlying26 underlying9 (by kernel_rfl) hf with ⟨hcs,_⟩|⟨x,l,c,ss,hcs,_,hl,hm,hz,_,hcell,hsz⟩
 ·simp[Value.cells] at hcs;obtain⟨rfl,rfl,rfl⟩:=hcs;exact⟨none,0,[],rfl,fun i hi=>absurd hi (Zzb _),⟨Zy1 _,by decide⟩,fun i hi=>absurd hi (Zzb _)⟩
 ·simp[Value.cells] at hcs;obtain⟨rfl,rfl,rfl⟩:=hcs;have hz':ss.length=cap:=by simpa using hz
  have tl:(ss.take len).length=len:=by rw[List.length_take];omega
  have tn:∀i,i<len→Zo1 (ss.take len) i=ss.getD i ByteArray.empty:=fun i hi=>by
   unfold Zo1;simp[List.getD,hi]
  refine⟨some x,cap,ss.take len,by rw[tl],fun i hi=>?_,⟨by rw[tl];exact hl,hm⟩,fun i hi=>?_⟩
  ·rw[tl] at hi;have k:=hcell i (by omega);have hs:x.spot=none:=by
    have k0:=hcell 0 (by omega);exact Zcg (by simpa [Addr.add] using k0)
   obtain⟨b,o,s⟩:=x;cases hs;rw[Addr.add_lit] at k;exact⟨b,o,rfl,by rw[tn i hi];exact k⟩
  ·rw[tl] at hi;rw[tn i hi];refine hsz _ ?_;rw[show ss.getD i ByteArray.empty=ss[i]'(by omega) from by simp[List.getD,show i<ss.length by omega]];exact List.getElem_mem _
end
section
variable{w:World}{ca ta la:Option Addr}{cc tc lc:Nat}{c:Zh}{ss:List ByteArray}
theorem top_cycles(h:Y7 w ca ta cc tc c)(hl:LAt w la lc ss)(hL:Wid w∧Tab w∧(0<w.heap.size∧2<w.heap.size)) :
  Calls prog 3 #[.agg #[.slice ca c.cl.length cc,c.page,.slice ta c.ts.length tc,c.wk,c.gr,c.gens],.slice la ss.length lc] w fun e w'=>e=.returned (.bool true)∧Ext w w':=by
 cases hf:Zo2 c ss 80 with
 | true=>exact Ab h hl hL.1 hL.2.1 hL.2.2 hf
 | false=>exact Gw h hl hL.1 hL.2.1 hL.2.2 hf
end
end Go.Proofs.YtfcldaembdedjaaGreatDoor
