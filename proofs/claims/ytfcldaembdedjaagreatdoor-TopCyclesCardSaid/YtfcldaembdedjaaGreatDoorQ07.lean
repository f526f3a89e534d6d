/-
  Parts of the proof of TopCycles: Body, Body2, Class, TopJ, Tab, Tab2, Body3, Body4, Body5, Pins5, MkA, Mk1.
-/
import Derived.Test.YtfcldaembdedjaaGreatDoorQ06
set_option linter.unusedVariables false
set_option linter.unusedSimpArgs false
set_option maxRecDepth 100000
set_option maxHeartbeats 16000000
namespace Go.Proofs.YtfcldaembdedjaaGreatDoor
open Go.RowKit Tryz
section
variable{w w':World}{bb mb gw gb pb gp:Nat}{c:Zh}{t:Nat}{ws ws':List Int}{s k:Int}{h:Hd}
structure Zy(w:World)(bb mb gw gb pb gp:Nat)(c:Zh)(t:Nat)(ws:List Int):Prop where
 box:Zn w bb [mb,.int .i64 t,pb]
 mem:Yo w mb gw gb c ws
 plan:Zt w pb gp c t
 wid:Wid w
 ok:WOk ws
 ne:bb≠gw∧pb≠gw∧gp≠gw∧0≠gw
theorem Zy.ext(h:Zy w bb mb gw gb pb gp c t ws)(hx:Ext w w'):Zy w' bb mb gw gb pb gp c t ws:=
 ⟨h.box.ext hx,h.mem.ext hx,h.plan.ext hx,h.wid.ext hx,h.ok,h.ne⟩
theorem Zy.ko(h:Zy w bb mb gw gb pb gp c t ws):KOk c:=h.plan.ok
theorem Zy.ti(h:Zy w bb mb gw gb pb gp c t ws):t<c.ts.length:=h.plan.ti
theorem Zy.lt(h:Zy w bb mb gw gb pb gp c t ws):bb<w.heap.size∧gw<w.heap.size:=⟨h.box.lt,h.mem.lt.2.1⟩
theorem Za4(h:Zy w bb mb gw gb pb gp c t ws):Calls prog 193 #[bb] w fun e w'=>e=.returned (.bool false)∧w=w':=by
 obtain⟨b0,b1,b2⟩:=h.box.k3;clear h;go_enter func193,ntmps193;go_wp2;go_ret;exact⟨rfl,rfl⟩
def Vk(c:Zh)(t:Nat)(s:Int):Int × Int × Int:=if bIn c t s then (bAd c t s,bSz c t s,0) else (0,0,2)
theorem Yv{a n:Int}(h:Zy w bb mb gw gb pb gp c t ws)(hr:Vk c t s=(a,n,k)) :
  Calls prog 156 #[bb,.int .i64 s] w fun e w'=>e=.returned (.tuple #[.int .i64 a,.int .i64 n,.int .i64 k])∧Ext w w':=by
 have H:=Za h;unfold Vk at hr;by_cases hi:bIn c t s
 ·rw[if_pos hi] at hr;have sb:=Xt h.ko h.ti hi;have SB:=Za sb.at_;have EA:=Za (show bAd c t s=On c t s (kOf c t s) from rfl);have ES:=Za (show bSz c t s=nth c.cl (kOf c t s) from rfl);cases hr;clear h sb hi;go_enter func156,ntmps156;go_wp2_with fail;refine(Za4 H.out).zz ?_;obtain⟨b0,b1,b2⟩:=H.out.box.k3;go_wp2_with fail;clear b0 b1 b2;refine(Zhl (bAd c t s) EA.out.symm H.out.plan SB.out).ze fun w2 x2=>?_;replace H:=Za (H.out.ext x2);obtain⟨b0,b1,b2⟩:=H.out.box.k3;go_wp2_with fail;clear b0 b1 b2;refine(Fi (bSz c t s) ES.out.symm H.out.plan SB.out).ze fun w3 x3=>?_;go_wp2
  go_ret3
  exact⟨rfl,x2.trans x3⟩
 ·rw[if_neg hi] at hr;have HO:=Za (Zko h.ko h.ti hi);cases hr;clear h hi;go_enter func156,ntmps156;go_wp2_with fail;refine(Za4 H.out).zz ?_;obtain⟨b0,b1,b2⟩:=H.out.box.k3;go_wp2_with fail;clear b0 b1 b2;refine(Ki H.out.plan HO.out).ze fun w2 x2=>?_;go_wp2
  go_ret3
  exact⟨rfl,x2⟩
theorem Pk{S:Int}(r:Bool)(h:Zy w bb mb gw gb pb gp c t ws)(hd:Hd)(hi:bIn c t s)(hS:bSz c t s=S)(hr:decide (Lg c t s hd)=r) :
  Calls prog 159 #[bb,.int .i64 s,.int .i64 S,.agg #[hd.c,hd.r,hd.w]] w fun e w'=>e=.returned (.bool r)∧Ext w w':=by
 have sb:=Xt h.ko h.ti hi;have SB:=Za sb.at_;obtain⟨hx,h1⟩:=Zd w (.cells #[hd.c,hd.r,hd.w] 78);have H:=Za (h.ext hx);obtain⟨K,hK⟩:=Zb (kOf c t s);have s2:=sb.s2;have s64:=sb.s64;rw[hS] at s2 s64;rw[hK] at SB;have HR:Hid ((Rt hd∧hd.c=(K:Int)∧hd.r+hd.w+1≤S) ↔ r=true):=Za (by rw[←hr,decide_eq_true_iff];unfold Lg;rw[hK,hS]);have k0:(0:Int)≤(K:Int):=Int.natCast_nonneg _;clear h sb hi hS hK hr;by_cases hk:Rt hd
 ·have HN:=Za (show Xg hd=(hd.r+hd.w+1,0) by unfold Xg;rw[if_pos hk]);have HK:=Za hk;obtain⟨⟨k1,k2⟩,k3,k4,k5,k6⟩:=hk;go_enter func159,ntmps159;go_wp2_with fail;refine(I4 hd _ _ HN.out).ze fun w1 h2=>?_;replace h1:=h1.trans h2;replace H:=Za (H.out.ext h2);clear h2;obtain⟨b0,b1,b2⟩:=H.out.box.k3;go_wp2_with fail;clear b0 b1 b2;refine(Fg H.out.plan SB.out).ze fun w2 h2=>?_;replace h1:=h1.trans h2;clear h2;obtain⟨b0,b1,b2⟩:=Zjz h1;by_cases hc:hd.c=(K:Int)
  ·by_cases hn:hd.r+hd.w+1≤S
   ·obtain rfl:r=true:=HR.out.1 ⟨HK.out,hc,hn⟩;go_wp2;go_ret;exact⟨rfl,hx.trans h1⟩
   ·obtain rfl:r=false:=by
     cases r
     ·rfl
     ·exact absurd (HR.out.2 rfl).2.2 hn
    go_wp2;go_ret;exact⟨Yg (Zyx (by omega)),hx.trans h1⟩
  ·obtain rfl:r=false:=by
    cases r
    ·rfl
    ·exact absurd (HR.out.2 rfl).2.1 hc
   go_wp2;go_ret;exact⟨rfl,hx.trans h1⟩
 ·have HN:=Za (show Xg hd=(0,2) by unfold Xg;rw[if_neg hk]);obtain rfl:r=false:=by
   cases r
   ·rfl
   ·exact absurd (HR.out.2 rfl).1 hk
  clear hk;go_enter func159,ntmps159;go_wp2_with fail;refine(I4 hd _ _ HN.out).ze fun w1 h2=>?_;replace h1:=h1.trans h2;replace H:=Za (H.out.ext h2);clear h2;obtain⟨b0,b1,b2⟩:=H.out.box.k3;go_wp2_with fail;clear b0 b1 b2;refine(Fg H.out.plan SB.out).ze fun w2 h2=>?_;replace h1:=h1.trans h2;clear h2;go_wp2;go_ret;exact⟨rfl,hx.trans h1⟩
theorem Zn.set3{z:Nat}{u0 u1 u2:Value}(h:Zn w z [u0,u1,u2])(v0 v1 v2:Value) :
  Zn (((w.setCell z v0).setCell ⟨z,1,none⟩ v1).setCell ⟨z,2,none⟩ v2) z [v0,v1,v2]:=
 ((h.set (i:=0) (by simp) v0).set (i:=1) (by simp) v1).set (i:=2) (by simp) v2
theorem Xf{hd:Hd}(h:Zy w bb mb gw gb pb gp c t ws)(hr:Zz c t ws s=(hd,k)) :
  Calls prog 115 #[bb,.int .i64 s] w fun e w'=>e=.returned (.tuple #[.agg #[hd.c,hd.r,hd.w],.int .i64 k])∧Ext w w':=by
 have H:=Za h;unfold Zz at hr;by_cases hi:bIn c t s
 ·rw[if_pos hi] at hr;have sb:=Xt h.ko h.ti hi;have HP:=Za (show Vk c t s=(bAd c t s,bSz c t s,0) by unfold Vk;rw[if_pos hi]);have HI:=Za hi;have L:=Za (sb.load (ws:=ws) h.ti (i:=0) (by have:=sb.s2;omega));have A64:=Za (sb.is64 h.ko h.ti);obtain⟨u,hu⟩:=Zb (bwd c t ws s 0);have UB:=Za (show 0≤u∧u<18446744073709551616 by rw[←hu];exact h.ok _);rw[hu] at hr L;obtain⟨A,hA⟩:=Zb (bAd c t s);obtain⟨S,hS⟩:=Zb (bSz c t s);rw[hA] at HP L A64;rw[hS] at HP;have HS:=Za hS;have L':=Za (show Zc1 c ws t A=(u,0) by have:=L.out;simpa using this);clear L hA hS hu;have HR:=Za hr;obtain⟨z,hz⟩:=Zb (w.heap.size);obtain⟨W0,hW0⟩:∃W,w.alloc (.cells #[(0:Int),(0:Int),(0:Int)] 78)=W:=⟨_,rfl⟩;have R:=Za (show Zn W0 z [(0:Int),(0:Int),(0:Int)] by rw[←hW0];exact Zn.new w _ _ hz);have X:=Za (show Ext w W0 by rw[←hW0];exact(Zy2 w).alloc _);have ZL:=Za (show w.heap.size≤z by omega);replace H:=Za (H.out.ext X.out);clear h sb hi hr;go_enter func115,ntmps115;go_wp2_with fail;clear hW0 hz;refine(Yv H.out HP.out).ze fun w1 x1=>?_;replace H:=Za (H.out.ext x1);replace R:=Za (R.out.ext x1);replace X:=Za (X.out.trans x1);clear x1
  go_upto_region 4 with fail
  obtain⟨b0,b1,b2⟩:=H.out.box.k3;have d0:=fun d os=>cell_regrown b0 d os;have d1:=fun d os=>cell_regrown b1 d os
  clear b0 b1 b2;refine wp_region_quiet_below (by kernel_rfl) (by kernel_rfl) ?_
  repeat (any_goals (first|go_big_quiet_step ((go_at_call 157;exact reg (Dr u 0 (H.out.mem.ext (Zk _ _ _)) ⟨A64.out.1,by have:=A64.out.2;omega⟩ L'.out)))|quiet_step ((go_at_call 157;exact reg (Dr u 0 (H.out.mem.ext (Zk _ _ _)) ⟨A64.out.1,by have:=A64.out.2;omega⟩ L'.out)))))
  refine Zc fun WQ xq=>?_;clear d0 d1;replace H:=Za (H.out.ext xq);replace R:=Za (R.out.ext xq);replace X:=Za (X.out.trans xq);clear xq;obtain⟨g,q,hg⟩:∃g q,Zgx u=(g,q):=⟨_,_,rfl⟩;have HG:=Za hg;clear hg;go_wp2_with fail;refine(Zqq u g q HG.out UB.out.1 UB.out.2 H.out.wid).ze fun w3 x3=>?_;replace H:=Za (H.out.ext x3);replace R:=Za (R.out.ext x3);replace X:=Za (X.out.trans x3);clear x3
  go_upto_region 6 with fail
  obtain⟨y,hy⟩:=Zb (w3.heap.size);obtain⟨W5,hW5⟩:∃W,w3.alloc (.cells #[g.c,g.r,g.w] 78)=W:=⟨_,rfl⟩;have Y:=Za (show Zn W5 y [g.c,g.r,g.w] by rw[←hW5];exact Zn.new w3 _ _ hy);have x5:Ext w3 W5:=by rw[←hW5];exact(Zy2 _).alloc _
  rw[hW5,hy];replace H:=Za (H.out.ext x5);replace R:=Za (R.out.ext x5);replace X:=Za (X.out.trans x5);clear x5 hW5 hy;obtain⟨y0,y1,y2⟩:=Y.out.k3;have yl:=Y.out.lt;by_cases hu:Zjx u
  ·obtain⟨e1,e2⟩:Mz u=g∧0=q:=by
    have:=HG.out;rw[Ae hu] at this
    injection this with e1 e2
    exact⟨e1,e2⟩
   subst e2;have hr:=HR.out;rw[e1] at hr;clear e1;by_cases hl:Lg c t s g
   ·rw[if_pos ⟨hu,hl⟩] at hr;obtain⟨rfl,rfl⟩:g=hd∧0=k:=by injection hr with e1 e2;exact⟨e1,e2⟩
    have HL:=Za (Zyy hl);clear hu hl hr;go_wp2_with fail;refine(Pk true H.out g HI.out HS.out HL.out).ze fun w4 x4=>?_;replace H:=Za (H.out.ext x4);replace R:=Za (R.out.ext x4);replace X:=Za (X.out.trans x4);replace Y:=Za (Y.out.ext x4);clear x4 y0 y1 y2 yl;obtain⟨y0,y1,y2⟩:=Y.out.k3;have yl:=Y.out.lt;obtain⟨f0,f1,f2⟩:=R.out.g3;obtain⟨r0,r1,r2⟩:=R.out.k3;have rl:=R.out.lt;go_wp2_with fail;have RB:=R.out.set3 (.int .i64 g.c) (.int .i64 g.r) (.int .i64 g.w);obtain⟨q0,q1,q2⟩:=RB.k3;refine bodyPost_ret (v:=.tuple #[.agg #[g.c,g.r,g.w],(0:Int)]) (by simp[results,results115,go_sem,q0,q1,q2]) rfl ⟨rfl,((X.out.setCell (p:=⟨z,0,none⟩) ZL.out _).setCell (p:=⟨z,1,none⟩) ZL.out _).setCell (p:=⟨z,2,none⟩) ZL.out _⟩
   ·rw[if_neg (fun q=>hl q.2)] at hr;obtain⟨rfl,rfl⟩:Sw=hd∧5=k:=by injection hr with e1 e2;exact⟨e1,e2⟩
    have HL:=Za (Zyx hl);clear hu hl hr;go_wp2_with fail;refine(Pk false H.out g HI.out HS.out HL.out).ze fun w4 x4=>?_;replace H:=Za (H.out.ext x4);replace R:=Za (R.out.ext x4);replace X:=Za (X.out.trans x4);replace Y:=Za (Y.out.ext x4);clear x4 y0 y1 y2 yl;obtain⟨y0,y1,y2⟩:=Y.out.k3;have yl:=Y.out.lt;obtain⟨f0,f1,f2⟩:=R.out.g3;obtain⟨r0,r1,r2⟩:=R.out.k3;have rl:=R.out.lt;go_wp2_with fail;have RB:=R.out.set3 (.int .i64 0) (.int .i64 0) (.int .i64 0);obtain⟨q0,q1,q2⟩:=RB.k3;refine bodyPost_ret (v:=.tuple #[.agg #[(0:Int),(0:Int),(0:Int)],(5:Int)]) (by simp[results,results115,go_sem,q0,q1,q2]) rfl ⟨rfl,((X.out.setCell (p:=⟨z,0,none⟩) ZL.out _).setCell (p:=⟨z,1,none⟩) ZL.out _).setCell (p:=⟨z,2,none⟩) ZL.out _⟩
  ·obtain⟨e1,e2⟩:Sw=g∧5=q:=by
    have:=HG.out;rw[Jb hu] at this
    injection this with e1 e2
    exact⟨e1,e2⟩
   subst e2;have hr:=HR.out;rw[if_neg (fun q=>hu q.1)] at hr;obtain⟨rfl,rfl⟩:Sw=hd∧5=k:=by injection hr with e1 e2;exact⟨e1,e2⟩
   clear hu e1 hr;obtain⟨f0,f1,f2⟩:=R.out.g3;obtain⟨r0,r1,r2⟩:=R.out.k3;have rl:=R.out.lt;go_wp2_with fail;have RB:=R.out.set3 (.int .i64 0) (.int .i64 0) (.int .i64 0);obtain⟨q0,q1,q2⟩:=RB.k3;refine bodyPost_ret (v:=.tuple #[.agg #[(0:Int),(0:Int),(0:Int)],(5:Int)]) (by simp[results,results115,go_sem,q0,q1,q2]) rfl ⟨rfl,((X.out.setCell (p:=⟨z,0,none⟩) ZL.out _).setCell (p:=⟨z,1,none⟩) ZL.out _).setCell (p:=⟨z,2,none⟩) ZL.out _⟩
 ·rw[if_neg hi] at hr;have HP:=Za (show Vk c t s=(0,0,2) by unfold Vk;rw[if_neg hi]);obtain⟨rfl,rfl⟩:Sw=hd∧2=k:=by injection hr with e1 e2;exact⟨e1,e2⟩
  obtain⟨z,hz⟩:=Zb (w.heap.size);obtain⟨W0,hW0⟩:∃W,w.alloc (.cells #[(0:Int),(0:Int),(0:Int)] 78)=W:=⟨_,rfl⟩;have R:=Za (show Zn W0 z [(0:Int),(0:Int),(0:Int)] by rw[←hW0];exact Zn.new w _ _ hz);have X:=Za (show Ext w W0 by rw[←hW0];exact(Zy2 w).alloc _);have ZL:=Za (show w.heap.size≤z by omega);replace H:=Za (H.out.ext X.out);clear h hi hr;go_enter func115,ntmps115;go_wp2_with fail;clear hW0 hz;refine(Yv H.out HP.out).ze fun w1 x1=>?_;replace H:=Za (H.out.ext x1);replace R:=Za (R.out.ext x1);replace X:=Za (X.out.trans x1);clear x1;obtain⟨f0,f1,f2⟩:=R.out.g3;obtain⟨r0,r1,r2⟩:=R.out.k3;have rl:=R.out.lt;go_wp2_with fail;have RB:=R.out.set3 (.int .i64 0) (.int .i64 0) (.int .i64 0);obtain⟨q0,q1,q2⟩:=RB.k3;refine bodyPost_ret (v:=.tuple #[.agg #[(0:Int),(0:Int),(0:Int)],(2:Int)]) (by simp[results,results115,go_sem,q0,q1,q2]) rfl ⟨rfl,((X.out.setCell (p:=⟨z,0,none⟩) ZL.out _).setCell (p:=⟨z,1,none⟩) ZL.out _).setCell (p:=⟨z,2,none⟩) ZL.out _⟩
theorem Zy.turn(h:Zy w bb mb gw gb pb gp c t ws)(hc:Chg (isB gw) w w')(hm:Yo w' mb gw gb c ws')(ho:WOk ws'):Zy w' bb mb gw gb pb gp c t ws':=by
 have ne:=h.ne;refine⟨h.box.chg hc ne.1,hm,h.plan.chg hc ne.2.1 ne.2.2.1,?_,ho,ne⟩;obtain⟨h0,h1,h2,h3,h4⟩:=h.wid;have n:¬isB gw 0:=ne.2.2.2;exact⟨hc.cell n h0,hc.cell n h1,hc.cell n h2,hc.cell n h3,hc.cell n h4⟩
theorem Za5{W:World}{a n:Int}(h:Zy w bb mb gw gb pb gp c t ws)(hx:Ext w W)(ha:is64 a)(hn:is64 n)(hr:Zg6 c ws t a n=(ws',k))(ho:WOk ws') :
  Calls prog 312 #[mb,.int .i64 t,.int .i64 a,.int .i64 n] W fun e w'=>e=.returned (.int .i64 k)∧Zy w' bb mb gw gb pb gp c t ws'∧Chg (isB gw) w w':=
 (Zpf (h.mem.ext hx) ha hn hr).mono fun _ _ ⟨e,hc,hm⟩=>⟨e,(h.ext hx).turn hc hm ho,(Zy3 hx).trans hc⟩
theorem Fw{W:World}{a x:Int}(h:Zy w bb mb gw gb pb gp c t ws)(hx:Ext w W)(ha:is64 a)(hr:Ke c ws t a x=(ws',k))(ho:WOk ws') :
  Calls prog 321 #[mb,.int .i64 t,.int .i64 a,.int .u64 x] W fun e w'=>e=.returned (.int .i64 k)∧Zy w' bb mb gw gb pb gp c t ws'∧Chg (isB gw) w w':=
 (Zkf (h.mem.ext hx) ha hr).mono fun _ _ ⟨e,hc,hm⟩=>⟨e,(h.ext hx).turn hc hm ho,(Zy3 hx).trans hc⟩
theorem Zmi(h:Zy w bb mb gw gb pb gp c t ws)(hr:Uu c t ws s=(ws',k)) :
  Calls prog 271 #[bb,.int .i64 s] w fun e w'=>e=.returned (.int .i64 k)∧Zy w' bb mb gw gb pb gp c t ws'∧Chg (isB gw) w w':=by
 have H:=Za h;have OK:=Za (show WOk ws' by have:=Jg (s:=s) h.ok h.mem.len h.ko h.ti;rw[hr] at this;exact this);unfold Uu at hr;by_cases hi:bIn c t s
 ·rw[if_pos hi] at hr;have sb:=Xt h.ko h.ti hi;have HP:=Za (show Vk c t s=(bAd c t s,bSz c t s,0) by unfold Vk;rw[if_pos hi]);have Z:=Za (sb.zero (ws:=ws) h.ti);rw[hr] at Z;have A64:=Za (sb.is64 h.ko h.ti);have s2:=sb.s2;have s64:=sb.s64;obtain rfl:0=k:=by injection hr
  obtain⟨A,hA⟩:=Zb (bAd c t s);obtain⟨S,hS⟩:=Zb (bSz c t s);rw[hA,hS] at HP Z;rw[hA] at A64;rw[hS] at s2 s64;clear hA hS hr h sb hi;go_enter func271,ntmps271;go_wp2_with fail;refine(Yv H.out HP.out).ze fun w1 x1=>?_;replace H:=Za (H.out.ext x1)
  go_upto_region 4 with fail
  obtain⟨b0,b1,b2⟩:=H.out.box.k3
  go_region_with ((go_at_call 312;refine(Za5 H.out ?_ ⟨A64.out.1,by have:=A64.out.2;omega⟩ ⟨by omega,by omega⟩ Z.out OK.out).mono ?_;(repeat (first|with_reducible exact Zy2 _|with_reducible refine Ext.drew ?_|with_reducible refine Ext.drewN ?_ _|with_reducible refine Ext.alloc ?_ _));rintro e w2 ⟨rfl,hb,hc⟩))
  all_goals
   have HB:=Za hb;have HC:=Za hc;clear hb hc b0 b1 b2;go_wp2;go_ret;exact⟨rfl,HB.out,(Zy3 x1).trans HC.out⟩
 ·rw[if_neg hi] at hr;have HP:=Za (show Vk c t s=(0,0,2) by unfold Vk;rw[if_neg hi]);cases hr;clear h hi;go_enter func271,ntmps271;go_wp2_with fail;refine(Yv H.out HP.out).ze fun w1 x1=>?_;go_wp2;go_ret;exact⟨rfl,H.out.ext x1,Zy3 x1⟩
theorem Zfw{h:Hd}(ho:WOk ws)(hl:ws.length=Zo c)(ko:KOk c)(ht:t<c.ts.length):WOk (Ug c t ws s h).1:=by
 unfold Ug;split
 ·rename_i h1;split
  ·exact ho
  ·have q:=Jg (s:=s) ho hl ko ht;unfold Uu at q;rw[if_pos h1.1] at q;exact q.set _ (Zj8 h1.2.1)
 ·exact ho
theorem Zmj{h:Hd}(hl:ws.length=Zo c)(ko:KOk c)(ht:t<c.ts.length):(Ug c t ws s h).1.length=Zo c:=by
 unfold Ug;split
 ·rename_i h1;split
  ·exact hl
  ·have q:=Ib (s:=s) hl ko ht;unfold Uu at q;rw[if_pos h1.1] at q;rw[List.length_set];exact q
 ·exact hl
theorem Zmk(hd:Hd)(h:Zy w bb mb gw gb pb gp c t ws)(hr:Ug c t ws s hd=(ws',k)) :
  Calls prog 278 #[bb,.int .i64 s,.agg #[hd.c,hd.r,hd.w]] w fun e w'=>e=.returned (.int .i64 k)∧Zy w' bb mb gw gb pb gp c t ws'∧Chg (isB gw) w w':=by
 have H:=Za h;have OK:=Za (show WOk ws' by have:=Zfw (s:=s) (h:=hd) h.ok h.mem.len h.ko h.ti;rw[hr] at this;exact this);unfold Ug at hr;by_cases hi:bIn c t s
 ·have sb:=Xt h.ko h.ti hi;have HP:=Za (show Vk c t s=(bAd c t s,bSz c t s,0) by unfold Vk;rw[if_pos hi]);have HI:=Za hi;have HB:=Za sb;have A64:=Za (sb.is64 h.ko h.ti);have s2:=sb.s2;have s64:=sb.s64;have W0':=Za (Jg (s:=s) h.ok h.mem.len h.ko h.ti);have WL:=Za (Ib (s:=s) h.mem.len h.ko h.ti);have E0:=Za (show(Uu c t ws s).1=Sg ws (bAt c t s 0) (bSz c t s).toNat by unfold Uu;rw[if_pos hi]);have Z:=Za (sb.zero (ws:=ws) h.ti);have ST:=Za (sb.store (ws:=Sg ws (bAt c t s 0) (bSz c t s).toNat) h.ti (i:=0) (by omega) (Uq hd));have HT:=Za h.ti;obtain⟨ws1,hw1⟩:=Zb (Sg ws (bAt c t s 0) (bSz c t s).toNat);rw[hw1] at hr Z ST E0;obtain⟨A,hA⟩:=Zb (bAd c t s);obtain⟨S,hS⟩:=Zb (bSz c t s);rw[hA,hS] at HP Z;rw[hA] at A64 ST;have ST':=Za (show Ke c ws1 t A (Uq hd)=(ws1.set (bAt c t s 0) (Uq hd),0) by have:=ST.out;simpa using this);have HS:=Za hS;rw[hS] at s2 s64;clear hA hS sb ST hw1;by_cases hl:Lg c t s hd
  ·rw[if_pos ⟨hi,hl⟩] at hr;have HL:=Za (Zyy hl);have HK:=Za hl.1;obtain⟨g,q,hg⟩:∃g q,Zz c t ws s=(g,q):=⟨_,_,rfl⟩;rw[hg] at hr;have HG:=Za hg;clear h hi hl hg;by_cases hq:q=0
   ·subst hq;rw[if_pos rfl] at hr;cases hr;obtain⟨y,hy⟩:=Zb (w.heap.size);obtain⟨W0,hW0⟩:∃W,w.alloc (.cells #[hd.c,hd.r,hd.w] 78)=W:=⟨_,rfl⟩;have Y:=Za (show Zn W0 y [hd.c,hd.r,hd.w] by rw[←hW0];exact Zn.new w _ _ hy);have X:=Za (show Ext w W0 by rw[←hW0];exact(Zy2 w).alloc _);replace H:=Za (H.out.ext X.out);go_enter func278,ntmps278;go_wp2_with fail;clear hW0 hy;refine(Yv H.out HP.out).ze fun w1 x1=>?_;replace H:=Za (H.out.ext x1);replace Y:=Za (Y.out.ext x1);replace X:=Za (X.out.trans x1);clear x1;obtain⟨y0,y1,y2⟩:=Y.out.k3;have yl:=Y.out.lt;go_wp2_with fail;clear y0 y1 y2 yl;refine(Pk true H.out hd HI.out HS.out HL.out).ze fun w2 x2=>?_;replace H:=Za (H.out.ext x2);replace Y:=Za (Y.out.ext x2);replace X:=Za (X.out.trans x2);clear x2;go_wp2_with fail;refine(Xf H.out HG.out).ze fun w3 x3=>?_;replace H:=Za (H.out.ext x3);replace Y:=Za (Y.out.ext x3);replace X:=Za (X.out.trans x3);clear x3;go_wp2;go_ret;exact⟨rfl,H.out.ext ((Zy2 _).alloc _),Zy3 (X.out.alloc _)⟩
   ·rw[if_neg (show ¬(g,q).2=0 from hq)] at hr;cases hr;have HU:=Za (Ad HK.out);obtain⟨y,hy⟩:=Zb (w.heap.size);obtain⟨W0,hW0⟩:∃W,w.alloc (.cells #[hd.c,hd.r,hd.w] 78)=W:=⟨_,rfl⟩;have Y:=Za (show Zn W0 y [hd.c,hd.r,hd.w] by rw[←hW0];exact Zn.new w _ _ hy);have X:=Za (show Ext w W0 by rw[←hW0];exact(Zy2 w).alloc _);replace H:=Za (H.out.ext X.out);go_enter func278,ntmps278;go_wp2_with fail;clear hW0 hy;refine(Yv H.out HP.out).ze fun w1 x1=>?_;replace H:=Za (H.out.ext x1);replace Y:=Za (Y.out.ext x1);replace X:=Za (X.out.trans x1);clear x1;obtain⟨y0,y1,y2⟩:=Y.out.k3;have yl:=Y.out.lt;go_wp2_with fail;clear y0 y1 y2 yl;refine(Pk true H.out hd HI.out HS.out HL.out).ze fun w2 x2=>?_;replace H:=Za (H.out.ext x2);replace Y:=Za (Y.out.ext x2);replace X:=Za (X.out.trans x2);clear x2;go_wp2_with fail;refine(Xf H.out HG.out).ze fun w3 x3=>?_;replace H:=Za (H.out.ext x3);replace Y:=Za (Y.out.ext x3);replace X:=Za (X.out.trans x3);clear x3;have tq:(q==0)=false:=by simpa using hq
    go_upto_region 9 with fail
    obtain⟨W5,hW5⟩:∃W,w3.alloc (.cells #[g.c,g.r,g.w] 78)=W:=⟨_,rfl⟩;have x5:Ext w3 W5:=by rw[←hW5];exact(Zy2 _).alloc _
    rw[hW5];clear hW5;replace H:=Za (H.out.ext x5);replace Y:=Za (Y.out.ext x5);replace X:=Za (X.out.trans x5);clear x5;obtain⟨y0,y1,y2⟩:=Y.out.k3;have yl:=Y.out.lt;go_wp2_with fail;clear y0 y1 y2 yl;refine(Zqo hd _ _ HU.out H.out.wid).ze fun w4 x4=>?_;replace H:=Za (H.out.ext x4);replace Y:=Za (Y.out.ext x4);replace X:=Za (X.out.trans x4);clear x4
    go_upto_region 10 with fail
    obtain⟨b0,b1,b2⟩:=H.out.box.k3
    go_region_with ((go_at_call 312;refine(Za5 H.out ?_ ⟨A64.out.1,by have:=A64.out.2;omega⟩ ⟨by omega,by omega⟩ Z.out (by have:=W0'.out;rw[E0.out] at this;exact this)).mono ?_;(repeat (first|with_reducible exact Zy2 _|with_reducible refine Ext.drew ?_|with_reducible refine Ext.drewN ?_ _|with_reducible refine Ext.alloc ?_ _));rintro e w5 ⟨rfl,hb,hc⟩))
    all_goals
     have HB:=Za hb;have C:=Za ((Zy3 X.out).trans hc);clear hb hc b0 b1 b2
     go_upto_region 11 with fail
     obtain⟨b0,b1,b2⟩:=HB.out.box.k3
     go_region_with ((go_at_call 321;refine(Fw HB.out ?_ ⟨A64.out.1,by have:=A64.out.2;omega⟩ ST'.out OK.out).mono ?_;(repeat (first|with_reducible exact Zy2 _|with_reducible refine Ext.drew ?_|with_reducible refine Ext.drewN ?_ _|with_reducible refine Ext.alloc ?_ _));rintro e w6 ⟨rfl,hb,hc⟩))
     all_goals
      have HB6:=Za hb;have HC:=Za hc;clear hb hc b0 b1 b2;go_wp2;go_ret;exact⟨rfl,HB6.out,C.out.trans HC.out⟩
  ·rw[if_neg (fun q=>hl q.2)] at hr;cases hr;have HL:=Za (Zyx hl);clear h hi hl;obtain⟨y,hy⟩:=Zb (w.heap.size);obtain⟨W0,hW0⟩:∃W,w.alloc (.cells #[hd.c,hd.r,hd.w] 78)=W:=⟨_,rfl⟩;have Y:=Za (show Zn W0 y [hd.c,hd.r,hd.w] by rw[←hW0];exact Zn.new w _ _ hy);have X:=Za (show Ext w W0 by rw[←hW0];exact(Zy2 w).alloc _);replace H:=Za (H.out.ext X.out);go_enter func278,ntmps278;go_wp2_with fail;clear hW0 hy;refine(Yv H.out HP.out).ze fun w1 x1=>?_;replace H:=Za (H.out.ext x1);replace Y:=Za (Y.out.ext x1);replace X:=Za (X.out.trans x1);clear x1;obtain⟨y0,y1,y2⟩:=Y.out.k3;have yl:=Y.out.lt;go_wp2_with fail;clear y0 y1 y2 yl;refine(Pk false H.out hd HI.out HS.out HL.out).ze fun w2 x2=>?_;replace H:=Za (H.out.ext x2);replace Y:=Za (Y.out.ext x2);replace X:=Za (X.out.trans x2);clear x2;go_wp2;go_ret;exact⟨rfl,H.out,Zy3 X.out⟩
 ·rw[if_neg (fun q=>hi q.1)] at hr;have HP:=Za (show Vk c t s=(0,0,2) by unfold Vk;rw[if_neg hi]);cases hr;clear h hi;obtain⟨y,hy⟩:=Zb (w.heap.size);obtain⟨W0,hW0⟩:∃W,w.alloc (.cells #[hd.c,hd.r,hd.w] 78)=W:=⟨_,rfl⟩;have Y:=Za (show Zn W0 y [hd.c,hd.r,hd.w] by rw[←hW0];exact Zn.new w _ _ hy);have X:=Za (show Ext w W0 by rw[←hW0];exact(Zy2 w).alloc _);replace H:=Za (H.out.ext X.out);go_enter func278,ntmps278;go_wp2_with fail;clear hW0 hy;refine(Yv H.out HP.out).ze fun w1 x1=>?_;replace H:=Za (H.out.ext x1);replace Y:=Za (Y.out.ext x1);replace X:=Za (X.out.trans x1);clear x1;go_wp2;go_ret;exact⟨rfl,H.out,Zy3 X.out⟩
end
theorem Zih:Zi prog 213:=Zi.mk func213 (by kernel_rfl) rfl
theorem Zml(i:Nat)(pl pw:Addr)(a:Option Addr)(cap:Nat)(xs:List Int)(words:Int)(w:World)
  (hpl:w.cell? pl=some (.slice a xs.length cap)) (hpw:w.cell? pw=some (.int .i64 words)) (h:At .i64 w a xs) (hl:xs.length≤maxLen) (hi:i<xs.length) :
  Calls prog 213 #[.int .i64 i,.pointer (some pl),.pointer (some pw)] w fun e w'=>e=.returned (.bool (decide (words≤nth xs i)))∧Ext w w':=by
 unfold maxLen at hl;obtain⟨b,o,rfl,hc⟩:=h.pos (by omega);have hci:=hc i hi;clear hc h;go_enter func213,ntmps213
 go_wp2
 go_quiet (fail)
 go_wp2
 go_ret;exact⟨rfl,Ext.drewN (Zy2 w) _⟩
theorem Zwi{xs:List Int}{w:Int}(h:Ya xs≠0):cof xs w=(0,Ya xs):=by unfold cof;rw[if_pos h]
theorem Zfx{xs:List Int}{w:Int}(h:Ya xs=0)(h1:below xs w=xs.length∨w<1):cof xs w=(0,50):=by
 unfold cof;rw[if_neg (by omega),if_pos h1]
theorem Zui{xs:List Int}{w:Int}(h:Ya xs=0)(h1:¬(below xs w=xs.length∨w<1)):cof xs w=((below xs w:Int),0):=by
 unfold cof;rw[if_neg (by omega),if_neg h1]
theorem Zqr(a:Option Addr)(cap:Nat)(xs:List Int)(words:Int)(w:World)(h:At .i64 w a xs)(hl:xs.length≤maxLen) :
  Calls prog 165 #[.slice a xs.length cap,.int .i64 words] w fun e w'=>e=.returned (.tuple #[.int .i64 (cof xs words).1,.int .i64 (cof xs words).2])∧Ext w w':=by
 have hx1:Ext w ((w.alloc (.cells #[.slice a xs.length cap] 22)).alloc (.cells #[.int .i64 words] 3)):=((Zy2 w).alloc _).alloc _;have CC:=Za (Jz a cap xs _ (h.ext hx1) hl);by_cases h0:Ya xs=0
 ·have hb:=Zfc xs words;have hok:=Qu h0;have h8:=hok.most;rw[h0] at CC;have hans:Zka prog 213 #[w.heap.size,.pointer (some ⟨w.heap.size+1,0,none⟩)] xs.length (fun i=>decide (words≤nth xs i))
    ((w.alloc (.cells #[.slice a xs.length cap] 22)).alloc (.cells #[.int .i64 words] 3)):=by
   intro i w' hi hw';exact Zml i _ _ a cap xs words w' (hw'.cell (Xd (Zr _ _ _) _)) (hw'.cell (by simp)) (h.ext (hx1.trans hw')) hl hi
  have SS:=Za (J0 _ _ xs.length (below xs words) _ _ (by omega) hans hb
   (fun i hi=>by have:=Zpd xs words i hi;simp;omega)
   (fun i h1 h2=>by
    have h3:=Df xs words (by omega);rcases Nat.lt_or_ge (below xs words) i with h4|h4
    ·have:=hok.inc _ i h4 h2;simp;omega
    ·obtain rfl:i=below xs words:=by omega
     simp;exact h3) Zih)
  clear hans hok
  generalize hr:below xs words=r at *
  have HR:=Za hr;clear hr;have H0:=Za h0;clear h0;go_enter func165,ntmps165;go_wp2_with fail;refine CC.out.zz ?_;go_wp2_with fail;refine SS.out.ze fun w1 hw1=>?_;have hc1:=hw1.cell (Xd (Zr w (.slice a xs.length cap) 22) (.cells #[.int .i64 words] 3));have hc2:w1.cell? ⟨w.heap.size+1,0,none⟩=some (.int .i64 words):=hw1.cell (by simp);go_wp2
  ·go_ret2;exact⟨by rw[Zfx H0.out (by rw[HR.out];grind)];rfl,hx1.trans hw1⟩
  ·go_ret2;exact⟨by rw[Zfx H0.out (by rw[HR.out];grind)];rfl,hx1.trans hw1⟩
  ·go_ret2;exact⟨by rw[Zui H0.out (by rw[HR.out];grind),HR.out];rfl,hx1.trans hw1⟩
 ·have E:=Za (Zwi (w:=words) h0);have hne:(Ya xs != 0)=true:=by simpa using h0
  clear h0;go_enter func165,ntmps165;go_wp2_with fail;refine CC.out.zz ?_;go_wp2;go_ret2;exact⟨by rw[E.out];rfl,hx1⟩
theorem Zth{xs:List Int}{w:Int}(h:(cof xs w).2=0):cof xs w=((below xs w:Int),0)∧below xs w<xs.length∧Ya xs=0∧1≤w:=by
 unfold cof at *;split at h
 ·exact absurd h ‹_›
 ·rename_i h0;split at h
  ·cases h
  ·rename_i h1;have:=Zfc xs w;rw[if_neg h0,if_neg h1];exact⟨rfl,by omega,by omega,by omega⟩
theorem Zmm{a:Option Addr}{cap:Nat}(xs:List Int)(n:Nat)(words p q:Int){w:World}(hn:xs.length=n)(hpq:cof xs words=(p,q))(h:At .i64 w a xs)(hl:xs.length≤maxLen) :
  Calls prog 165 #[.slice a n cap,.int .i64 words] w fun e w'=>e=.returned (.tuple #[.int .i64 p,.int .i64 q])∧Ext w w':=by
 have:=Zqr a cap xs words w h hl;rw[hpq,hn] at this;exact this
section
variable{c:Zh}{t n:Nat}{gens wk:Int}{L:Nat→Prop}{a d F:Nat}{x:HP}
theorem Yq{l:List Ent}{i j:Nat}{v:Ent}(h:i<l.length):Zx (l.set i v) j=if j=i then v else Zx l j:=by
 unfold Zx;by_cases e:j=i
 ·subst e;simp[h]
 ·rw[if_neg e];simp[List.getD,List.getElem?_set,Ne.symm e]
theorem Zmn(ho:KOk c)(ht:t<c.ts.length){bs:List Bool}{k:Nat}(hk:k<c.cl.length):Zhp c t bs (k:Int) (Qo c t bs k).1 (Qo c t bs k).2.1 (Qo c t bs k).2.2:=by
 unfold Qo;split
 ·rename_i s hs;unfold Zub at hs;rw[List.find?_range_eq_some] at hs;obtain⟨h1,h2,h3⟩:=hs;simp only[Bool.and_eq_true,decide_eq_true_eq,Bool.not_eq_true'] at h1;refine .inr ⟨k,rfl,hk,.inl ⟨s,h1.1,h1.2,fun i hi hlt=>?_,rfl,rfl,rfl⟩⟩;have:=h3 i hlt;unfold Rz at hi;cases hb:Zu bs i
  ·rw[Zyy hi,hb] at this;simp at this
  ·rfl
 ·rename_i hs;unfold Zub at hs;rw[List.find?_eq_none] at hs;refine .inr ⟨k,rfl,hk,.inr ⟨fun i hi=>?_,rfl,rfl,rfl⟩⟩;have:=hs i (by rw[List.mem_range];exact Ll ho ht hk hi);unfold Rz at hi;cases hb:Zu bs i
  ·rw[Zyy hi,hb] at this;simp at this
  ·rfl
structure Zxt(c:Zh)(t n:Nat)(gens wk:Int)(a d k:Nat)(x:HP)(hd:Hd)(s:Nat):Prop where
 tk:Qo c t x.y.bs k=(x.y.bs.set s true,(s:Int),0)
 fst:(T7 c t x k hd).2=(s:Int)
 ok:HOk c t n gens wk a d (T7 c t x k hd).1
 lt:s<nS c t
 free:Zu x.y.bs s=false
 bs:(T7 c t x k hd).1.y.bs=x.y.bs.set s true
 l:(T7 c t x k hd).1.y.l=x.y.l
 ph:(T7 c t x k hd).1.y.ph=x.y.ph
 steps:(T7 c t x k hd).1.y.steps=x.y.steps
 work:(T7 c t x k hd).1.work=x.work
 p:(T7 c t x k hd).1.p=x.p
 lies:Lg c t (s:Int) hd
 made:(Zz c t x.y.ws (s:Int)).2≠0
 gar:∀L,Gar c t x.y L→Gar c t (T7 c t x k hd).1.y L
theorem Zfy{k:Nat}{hd:Hd}(h:HOk c t n gens wk a d x)(hk:k<c.cl.length)(h1:Rt hd)(h2:hd.c=(k:Int))(h3:hd.r+hd.w+1≤nth c.cl k)(hf:Qc c t (nth c.cl k) x.y=true):∃s:Nat,Zxt c t n gens wk a d k x hd s:=by
 have ko:=h.y.ko;have ti:=h.y.ti;have bl:=h.y.bl;have tr:=Zmn ko ti (bs:=x.y.bs) hk;have e0:=Zl7 ko ti hk tr (by unfold Qc quo at hf;exact Zy7 hf);obtain⟨j,s,hj,_,hs,hsl,hs0,_,_⟩:=Zhp.ok ko ti bl (by rw[←e0];exact tr);have hsn:s<nS c t:=by omega
 have tk:Qo c t x.y.bs k=(x.y.bs.set s true,(s:Int),0):=by
  rcases tr with ⟨q,_⟩|⟨j',_,_,⟨s',_,_,_,q1,q2,q3⟩|⟨_,_,_,q3⟩⟩
  ·omega
  ·have:s'=s:=by omega
   subst this;exact Prod.ext q1 (Prod.ext q2 q3)
  ·omega
 have kof:kOf c t (s:Int)=k:=by
  rcases tr with ⟨q,_⟩|⟨j',e1,_,⟨s',q0,_,_,_,q2,_⟩|⟨_,_,_,q3⟩⟩
  ·omega
  ·have e2:s'=s:=by omega
   have e3:j'=k:=by omega
   subst e2;subst e3;exact(Zkx ko ti hk hsn).2 q0
  ·omega
 have li:Lg c t (s:Int) hd:=⟨h1,by rw[kof];exact h2,by unfold bSz;rw[kof];exact h3⟩;have hin:bIn c t (s:Int):=⟨by omega,by omega⟩;have hh:=h.y.fh s hsn hs0;have mk:(Ug c t x.y.ws (s:Int) hd).1=(Sg x.y.ws (bAt c t s 0) (bSz c t s).toNat).set (bAt c t s 0) (Uq hd):=by
  unfold Ug;rw[if_pos ⟨hin,li⟩,if_neg hh]
 obtain⟨m',em,mt,ms⟩:=Zdq (c:=c) (t:=t) (n:=n) (y:={ x.y with bs:=x.y.bs.set s true,ws:=(Ug c t x.y.ws (s:Int) hd).1 }) h.y.m (s:Int);have ez:(T7 c t x k hd).1={ x with y:={ x.y with bs:=x.y.bs.set s true,ws:=(Ug c t x.y.ws (s:Int) hd).1,m:=m' } }:=by
  unfold T7;rw[tk];(try simp only);rw[em]
 have fh:∀s':Nat,s'<nS c t→Zu (x.y.bs.set s true) s'=false→(Zz c t (Ug c t x.y.ws (s:Int) hd).1 s').2≠0:=by
  intro s' hs' hb;rw[Z8 hsl] at hb;split at hb
  ·cases hb
  ·rename_i q;rw[Fr ko ti h.y.wl hs' q];exact h.y.fh s' hs' hb
 have dm:∀s':Nat,Zu x.y.s.d s'=true→Zu (x.y.bs.set s true) s'=true∧(Zz c t (Ug c t x.y.ws (s:Int) hd).1 s').2≠0:=by
  intro s' hs';obtain⟨d1,d2,d3⟩:=h.y.dm s' hs';have ne:s'≠s:=by rintro rfl;rw[hs0] at d2;cases d2
  exact⟨by rw[Z8 hsl,if_neg ne];exact d2,by rw[Fr ko ti h.y.wl d1 ne];exact d3⟩
 have yk:=h.y.turn (ws':=(Ug c t x.y.ws (s:Int) hd).1) (bs':=x.y.bs.set s true) (l':=x.y.l) (ms':=x.y.ms) (m':=m') (Zmj h.y.wl ko ti) (Zfw h.y.wo h.y.wl ko ti) (by rw[List.length_set];exact bl) h.y.ml mt rfl h.y.live h.y.gen fh dm (h.y.ro.make ko ti h.y.wl);refine⟨s,tk,by unfold T7;rw[tk],?_,hsn,hs0,by rw[ez],by rw[ez],by rw[ez],by rw[ez],by rw[ez],by rw[ez],li,hh,fun L hg=>?_⟩
 ·rw[ez];exact⟨yk,h.pa,h.tr,h.ss,h.si,h.to,h.de,h.na,h.cy,by (try simp only);rw[mt.fl];exact h.fl⟩
 ·rw[ez];have nl:¬L s:=fun q=>by have:=(hg.tk s q).2;rw[hs0] at this;cases this
  refine⟨fun s' hs'=>⟨(hg.tk s' hs').1,by (try simp only);rw[Z8 hsl];split;rfl;exact(hg.tk s' hs').2⟩,⟨fun s' hs' hn i h1 h2=>?_,hg.clo.live,hg.clo.pin⟩,ms L (by simpa using nl) hg.ms,hg.sw,hg.ph⟩
  try simp only at h1 h2 ⊢
  rcases Zqi ko ti h.y.wl (a:=s) (hd:=hd) hs' i with q|q|q
  ·rw[q] at h1 h2 ⊢;exact hg.clo.ref s' hs' hn i h1 h2
  ·exact absurd h1 q
  ·omega
theorem Zqs{y:CY}(h:Xz y=true):∃i,Cj y.l=some i∧i<y.l.length∧(Zx y.l i).st=0:=by
 unfold Xz Oo at h;simp only[decide_eq_true_eq] at h;cases q:Cj y.l with
 | some i=>
  unfold Cj at q;rw[List.find?_range_eq_some] at q;exact⟨i,rfl,by simpa using q.2.1,by simpa using q.1⟩
 | none=>
  exfalso
  unfold Cj at q;rw[List.find?_eq_none] at q;obtain⟨e,he⟩:=List.exists_mem_of_length_pos h;rw[List.mem_filter] at he;obtain⟨i,hi,e2⟩:=List.mem_iff_getElem.1 he.1;have:=q i (by simpa using hi);have e3:Zx y.l i=e:=by unfold Zx;simp[List.getD,hi,e2]
  rw[e3] at this;exact this he.2
structure Zxu(c:Zh)(t n:Nat)(gens wk:Int)(a d:Nat)(x z:HP)(s:Int):Prop where
 ok:HOk c t n gens wk a d z
 len:z.y.l.length=x.y.l.length
 bs:z.y.bs=x.y.bs
 ph:z.y.ph=x.y.ph
 steps:z.y.steps=x.y.steps
 work:z.work=x.work
 p:z.p=x.p
 gar:∀L:Nat→Prop,¬L s.toNat→Gar c t x.y L→Gar c t z.y L
theorem Cu(l:List Ent)(i:Int):(Ux l i).2=true→∃j:Nat,i=j∧j<l.length∧(Zx l j).st=1∧(Ux l i).1=(Zx l j).s:=by
 unfold Ux;split
 ·rename_i q;intro _;exact⟨i.toNat,by omega,by omega,q.2.2,rfl⟩
 ·intro h;cases h
theorem Oc{l:List Ent}{j:Nat}(hj:j<l.length)(h:(Zx l j).st=1):Ux l (j:Int)=((Zx l j).s,true):=by
 unfold Ux;rw[if_pos ⟨by omega,by omega,by simpa using h⟩];simp
theorem Cv{s:Int}(h:HOk c t n gens wk a d x)(hf:Xz x.y=true)(hs:0≤s∧s<(nS c t:Int)):Zxu c t n gens wk a d x (Qq t x s).1 s:=by
 obtain⟨i,e1,e2,e3⟩:=Zqs hf;have em:(Lq x.y.l s).1=x.y.l.set i ⟨1,s,(Zx x.y.l i).g⟩:=by unfold Lq;rw[if_neg (by omega),e1]
 unfold Qq
 try simp only
 rw[em];have gi:=h.y.gen i e2;have yk:=h.y.turn (ws':=x.y.ws) (bs':=x.y.bs) (l':=x.y.l.set i ⟨1,s,(Zx x.y.l i).g⟩) (ms':=x.y.ms) (m':=x.y.m) h.y.wl h.y.wo h.y.bl h.y.ml (Ph.refl _ _) (by simp)
  (fun j hj=>by
   rw[Yq e2] at hj ⊢;split
   ·exact hs
   ·rename_i q;rw[if_neg q] at hj;exact h.y.live j hj)
  (fun j hj=>by
   rw[List.length_set] at hj;rw[Yq e2];split
   ·exact⟨gi.1,gi.2.1,by simp⟩
   ·exact h.y.gen j hj) h.y.fh (fun s hs=>(h.y.dm s hs).2) h.y.ro
 refine⟨⟨yk,h.pa,h.tr,h.ss,h.si,h.to,h.de,h.na,h.cy,h.fl⟩,by simp,rfl,rfl,rfl,rfl,rfl,fun L hn hg=>⟨hg.tk,⟨hg.clo.ref,fun j hj=>?_,hg.clo.pin⟩,hg.ms,hg.sw,hg.ph⟩⟩;obtain⟨m,rfl,m2,m3,m4⟩:=Cu _ _ hj;rw[List.length_set] at m2;rw[m4,Yq e2];rw[Yq e2] at m3;split
 ·exact hn
 ·rename_i q;rw[if_neg q] at m3;have:=hg.clo.live m (by rw[Oc m2 m3]);rw[Oc m2 m3] at this;exact this
structure OpF(c:Zh)(t n:Nat)(gens wk:Int)(a d:Nat)(code:Int)(x:HP)(r:HP × Sn):Prop where
 ok:HOk c t n gens wk (a+1) (d+4) r.1
 len:r.1.y.l.length=x.y.l.length
 work:r.1.work≤2*Z7 c t x.y.l
 gar:∀L,Gar c t x.y L→(r.1.p.cyc=x.p.cyc∧Gar c t r.1.y L)∨(x.p.cyc<r.1.p.cyc∧∀s:Nat,L s→Zu r.1.y.bs s=false∨(code=1∧r.2.e=0∧r.2.addr=Ve c t s))
 begun:code=1→r.2.e=0→r.1.p.act=true→r.1.p.since=0→r.1.y.ph=1∧∀L:Nat→Prop,(∀s,L s→s<nS c t∧Zu r.1.y.bs s=true)→Clo c t r.1.y.ws r.1.y.l r.1.y.ms L→Gar c t r.1.y L
theorem HOk.up{a':Nat}(h:HOk c t n gens wk a d x)(q:a≤a'):HOk c t n gens wk a' d x:=
 ⟨h.y,h.pa,h.tr,h.ss,⟨h.si.1,by have:=h.si.2;omega⟩,⟨h.to.1,by have:=h.to.2;omega⟩,⟨h.de.1,by have:=h.de.2;omega⟩,h.na,h.cy,h.fl⟩
theorem OpF.plain{code:Int}{r:HP × Sn}(hx:x.work=0)(h:HOk c t n gens wk a d r.1)(l:r.1.y.l.length=x.y.l.length)(w:r.1.work=x.work)(p:r.1.p=x.p)(g:∀L,Gar c t x.y L→Gar c t r.1.y L)(hc:code≠1∨r.2.e≠0):OpF c t n gens wk a d code x r:=
 ⟨(h.mono (by omega)).up (by omega),l,by rw[w,hx];omega,fun L hg=>.inl ⟨by rw[p],g L hg⟩,fun q1 q2=>by rcases hc with q|q;exact absurd q1 q;exact absurd q2 q⟩
theorem OpF.room{code:Int}{z:HP}{s:Sn}(hx:x.work=0)(h:Zwf c t n gens wk a d x z)(hs:code≠1∨s.e≠0):OpF c t n gens wk a d code x (z,s):=by
 refine⟨(h.ok.mono (by omega)).up (by omega),h.len,?_,fun L hg=>?_,fun q1 q2=>by rcases hs with q|q;exact absurd q1 q;exact absurd q2 q⟩
 ·rcases h.or with q|q
  ·rw[q,hx];omega
  ·have:=q.2.2.1;(try simp only);omega
 ·rcases h.or with q|q
  ·left;(try simp only);rw[q];exact⟨rfl,hg⟩
  ·right;exact⟨q.2.1,fun s hs=>.inl (q.2.2.2 L hg s hs)⟩
theorem Zmo{p q:Int}(h:HOk c t n gens wk a d x)(hx:x.work=0)(hF:Z7 c t x.y.l<F):OpF c t n gens wk a d 1 x (Ys c t n gens F x p q):=by
 unfold Ys;split
 ·exact OpF.plain hx h rfl rfl rfl (fun _ hg=>hg) (.inr (by simp[Z9]))
 ·rename_i h1;split
  ·exact OpF.plain hx h rfl rfl rfl (fun _ hg=>hg) (.inr (by simp[Z9]))
  ·rename_i h2;have h2':(cof c.cl (Xg ⟨0,p,q⟩).1).2=0:=Decidable.byContradiction h2;obtain⟨c1,c2,c3,c4⟩:=Zth h2';have ck:(cof c.cl (Xg ⟨0,p,q⟩).1).1=(below c.cl (Xg ⟨0,p,q⟩).1:Int):=by rw[c1]
   rw[ck];simp only[Zy4]
   generalize hk:below c.cl (Xg ⟨0,p,q⟩).1=k at *
   have h1':Rt ⟨0,p,q⟩∧(Xg ⟨0,p,q⟩).1=p+q+1:=by
    unfold Xg at h1 ⊢;by_cases z:Rt ⟨0,p,q⟩
    ·rw[if_pos z];exact⟨z,rfl⟩
    ·rw[if_neg z] at h1;exact absurd (by simp) h1
   have hb:=Df c.cl (Xg ⟨0,p,q⟩).1 (by rw[hk];exact c2);rw[hk,h1'.2] at hb;have bd:=h.y.ko.bounds h.y.ti c2;have m8:=h.y.ko.cl.most;have b2:=bd.c2;have b64:=bd.c64;have rm:=Cr (fun y=>Qc c t (nth c.cl k) y&&Xz y) h hF
   generalize T6 c t n gens F (fun y=>Qc c t (nth c.cl k) y&&Xz y) x=x1 at rm ⊢
   split
   ·exact OpF.room hx rm (.inr (by simp[Z9]))
   ·rename_i h3;split
    ·exact OpF.room hx rm (.inr (by simp[Z9]))
    ·rename_i h4;have h3':Qc c t (nth c.cl k) x1.y=true:=by simpa using h3
     have h4':Xz x1.y=true:=by simpa using h4
     obtain⟨⟨z1,z2⟩,z3,z4,z5,z6⟩:=h1'.1;have hdk:Rt ⟨(k:Int),p,q⟩:=⟨⟨by simp,by show(k:Int)<8;omega⟩,z3,z4,z5,z6⟩;obtain⟨s,ma⟩:=Zfy (hd:=⟨(k:Int),p,q⟩) rm.ok c2 hdk rfl (by show p+q+1≤_;omega) h3';have fr2:Xz (T7 c t x1 k ⟨(k:Int),p,q⟩).1.y=true:=by unfold Xz;rw[ma.l];exact h4'
     have mi:=Cv (s:=(s:Int)) ma.ok fr2 ⟨by omega,by have:=ma.lt;omega⟩;rw[ma.fst];have ll:(Qq t (T7 c t x1 k ⟨(k:Int),p,q⟩).1 (s:Int)).1.y.l.length=x.y.l.length:=by rw[mi.len,ma.l,rm.len]
     have ym:Z7 c t (Qq t (T7 c t x1 k ⟨(k:Int),p,q⟩).1 (s:Int)).1.y.l=Z7 c t x.y.l:=by unfold Z7;rw[ll]
     have pa:=Zl5 (k:=nth c.cl k) mi.ok ⟨by omega,by omega⟩ (by rw[ym];exact hF);refine⟨pa.ok,by rw[pa.len,ll],?_,fun L hg=>?_,fun _ _ g1 g2=>pa.begun g1 g2⟩
     ·have w1:=pa.work.1;have w2:=pa.work.2;rw[ym,mi.work,ma.work,mi.steps,ma.steps] at w2;rw[mi.ph,ma.ph,mi.work,ma.work] at w1
      try simp only
      rcases rm.or with r|r
      ·have e1:x1.work=0:=by rw[r];exact hx
       omega
      ·rw[w1 r.1];have:=r.2.2.1;omega
     ·rcases rm.or with r|r
      ·have g1:Gar c t x1.y L:=by rw[r];exact hg
       have nl:¬L s:=fun z=>by have:=(g1.tk s z).2;rw[ma.free] at this;cases this
       rcases pa.gar L (mi.gar L (by simpa using nl) (ma.gar L g1)) with ⟨u1,u2⟩|⟨u1,u2⟩
       ·left;refine⟨?_,u2⟩
        simp only at u1 ⊢;rw[u1,mi.p,ma.p,r]
       ·right;refine⟨?_,fun s' hs'=>.inl (u2 s' hs')⟩
        have e1:x1.p.cyc=x.p.cyc:=by rw[r]
        rw[mi.p,ma.p,e1] at u1;exact u1
      ·right
       refine⟨?_,fun s' hs'=>?_⟩
       ·have:=pa.cyc;rw[mi.p,ma.p] at this;have:=r.2.1;(try simp only);omega
       ·have f0:=r.2.2.2 L hg s' hs';by_cases e:s'=s
        ·right;subst e;exact⟨rfl,rfl,rfl⟩
        ·left
         refine pa.bs s' ?_;rw[mi.bs,ma.bs,Z8 (by rw[rm.ok.y.bl];exact ma.lt),if_neg e];exact f0
end
section
variable{w w':World}{b g cap:Nat}{gens:Int}{l:List Ent}
def tbs(g cap:Nat)(gens:Int)(l:List Ent):List Value:=[.slice (some ⟨g,0,none⟩) l.length cap,.int .i64 gens,.int .i64 (Oo l 0),.int .i64 (Oo l 1),.int .i64 (Oo l 2),.int .i64 (Oo l 3)]
structure Zmp(w:World)(g i:Nat)(e:Ent):Prop where
 st:w.cell? ⟨g,i*3,none⟩=some (.int .i64 (e.st:Int))
 s:w.cell? ⟨g,i*3+1,none⟩=some (.int .i64 e.s)
 g:w.cell? ⟨g,i*3+2,none⟩=some (.int .u32 e.g)
structure Si(w:World)(b g cap:Nat)(gens:Int)(l:List Ent):Prop where
 box:Zn w b (tbs g cap gens l)
 row:∀i,i<l.length→Zmp w g i (Zx l i)
 fz:∀o,w.frozen? ⟨g,o,none⟩=false
 ne:b≠g
 len:1≤l.length∧l.length≤1024
 cap:l.length≤cap∧cap≤maxLen
 gn:1≤gens∧gens≤2147483648
 ok:∀i,i<l.length→1≤(Zx l i).g∧(Zx l i).g≤gens∧(Zx l i).st≤3
def taB(b g k:Nat):Prop:=k=b∨k=g
theorem Zmp.chg{P:Nat→Prop}{i:Nat}{e:Ent}(h:Zmp w g i e)(hx:Chg P w w')(hg:¬P g):Zmp w' g i e:=⟨hx.cell hg h.st,hx.cell hg h.s,hx.cell hg h.g⟩
theorem Si.lt(h:Si w b g cap gens l):b<w.heap.size∧g<w.heap.size:=⟨h.box.lt,Zj (h.row 0 h.len.1).st⟩
theorem Si.chg{P:Nat→Prop}(h:Si w b g cap gens l)(hx:Chg P w w')(hb:¬P b)(hg:¬P g):Si w' b g cap gens l:=
 ⟨h.box.chg hx hb,fun i hi=>(h.row i hi).chg hx hg,fun o=>by rw[hx.frozen (p:=⟨g,o,none⟩) h.lt.2 hg];exact h.fz o,h.ne,h.len,h.cap,h.gn,h.ok⟩
theorem Si.ext(h:Si w b g cap gens l)(hx:Ext w w'):Si w' b g cap gens l:=h.chg (P:=fun _=>False) (Zy3 hx) (fun a=>a) (fun a=>a)
theorem Vv(h:Si w b g cap gens l):Calls prog 46 #[b] w fun e w'=>e=.returned (.bool false)∧w=w':=by
 have c0:=h.box.c 0 _ rfl;have n1:=h.len.1;obtain⟨n,hn⟩:=Zb (l.length);rw[hn] at c0 n1;have t1:((n:Int)==0)=false:=by simp;omega
 clear h hn;go_enter func46,ntmps46;go_wp2;go_ret;exact⟨rfl,rfl⟩
theorem I5{n:Nat}(h:Si w b g cap gens l)(hn:l.length=n):Calls prog 18 #[b] w fun e w'=>e=.returned (.int .i64 n)∧w=w':=by
 have c0:=h.box.c 0 _ rfl;rw[hn] at c0;have H:=Za h;clear h hn;go_enter func18,ntmps18;go_wp2_with fail;refine(Vv H.out).zz ?_;go_wp2;go_ret;exact⟨rfl,rfl⟩
theorem Zqt{k:Nat}(h:Si w b g cap gens l)(hk:Oo l 0=k):Calls prog 315 #[b] w fun e w'=>e=.returned (.int .i64 k)∧w=w':=by
 have key:Calls prog 349 #[b,(0:Int)] w fun e w'=>e=.returned (.int .i64 k)∧w=w':=by
  have c2:w.cell? ⟨b,2,none⟩=some (.int .i64 (k:Int)):=by rw[←hk];exact h.box.c 2 _ rfl
  have H:=Za h;clear h hk;go_enter func349,ntmps349;go_wp2_with fail;refine(Vv H.out).zz ?_;go_wp2;go_ret;exact⟨rfl,rfl⟩
 have K:=Za key;clear key h hk;go_enter func315,ntmps315;go_wp2_with fail;refine(K.out).zz ?_;go_wp2;go_ret;exact⟨rfl,rfl⟩
theorem Zfz{i s:Int}{r:Bool}(h:Si w b g cap gens l)(hr:Ux l i=(s,r)):Calls prog 86 #[b,.int .i64 i] w fun e w'=>e=.returned (.tuple #[.int .i64 s,r])∧w=w':=by
 have c0:=h.box.c 0 _ rfl;have H:=Za h;unfold Ux at hr;by_cases h0:i<0
 ·rw[if_neg (by omega)] at hr;cases hr;clear h;go_enter func86,ntmps86;go_wp2_with fail;refine(Vv H.out).zz ?_;go_wp2;go_ret2;exact⟨rfl,rfl⟩
 ·by_cases h1:(l.length:Int)≤i
  ·rw[if_neg (by omega)] at hr;cases hr;have h2:0≤i:=by omega
   clear h h0;go_enter func86,ntmps86;go_wp2_with fail;refine(Vv H.out).zz ?_;go_wp2;go_ret2;exact⟨rfl,rfl⟩
  ·obtain⟨n,rfl⟩:=Int.eq_ofNat_of_zero_le (show 0≤i by omega);have hn:n<l.length:=by omega
   obtain⟨e0,e1,e2⟩:=h.row n hn;rw[Zy4] at hr;have cp:=h.cap.1;by_cases q:(Zx l n).st=1
   ·rw[if_pos ⟨by omega,by omega,q⟩] at hr;cases hr;rw[q] at e0;clear h h0 h1 q;go_enter func86,ntmps86;go_wp2_with fail;refine(Vv H.out).zz ?_;go_wp2;go_ret2;exact⟨rfl,rfl⟩
   ·rw[if_neg (fun z=>q z.2.2)] at hr;cases hr;have t1:(((Zx l n).st:Int) != 1)=true:=by simp;omega
    obtain⟨m,hm⟩:=Zb ((Zx l n).st);rw[hm] at e0 t1;clear h h0 h1 q hm;go_enter func86,ntmps86;go_wp2_with fail;refine(Vv H.out).zz ?_;go_wp2;go_ret2;exact⟨rfl,rfl⟩
theorem Za6{l:List Ent}{i g:Int}(h:Gh l i g):∃j:Nat,i=j∧j<l.length∧(Zx l j).st=1∧(Zx l j).g=g:=by
 obtain⟨j,rfl⟩:∃j:Nat,i=j:=⟨i.toNat,by have:=h.1;omega⟩;exact⟨j,rfl,by have:=h.2.1;omega,by simpa using h.2.2.1,by simpa using h.2.2.2⟩
def Ko(g:Nat)(l:List Ent)(i gn:Int):Option Addr:=if Gh l i gn then some ⟨g,i.toNat*3,none⟩ else none
theorem I6{i gn:Int}{p:Option Addr}(h:Si w b g cap gens l)(hr:Ko g l i gn=p):Calls prog 293 #[b,.int .i64 i,.int .u32 gn] w fun e w'=>e=.returned (.pointer p)∧w=w':=by
 have c0:=h.box.c 0 _ rfl;have H:=Za h;unfold Ko at hr;by_cases h0:i<0
 ·rw[if_neg (fun z=>by have:=z.1;omega)] at hr;cases hr;clear h;go_enter func293,ntmps293;go_wp2;go_ret;exact⟨rfl,rfl⟩
 ·by_cases h1:(l.length:Int)≤i
  ·rw[if_neg (fun z=>by have:=z.2.1;omega)] at hr;cases hr;have h2:0≤i:=by omega
   clear h h0;go_enter func293,ntmps293;go_wp2;go_ret;exact⟨rfl,rfl⟩
  ·obtain⟨n,rfl⟩:=Int.eq_ofNat_of_zero_le (show 0≤i by omega);have hn:n<l.length:=by omega
   obtain⟨e0,e1,e2⟩:=h.row n hn;have cp:=h.cap.1;by_cases q:(Zx l n).st=1
   ·rw[q] at e0;by_cases q2:(Zx l n).g=gn
    ·rw[if_pos ⟨by omega,by omega,q,q2⟩,Zy4] at hr;cases hr;rw[q2] at e2;clear h h0 h1 q q2 e1;go_enter func293,ntmps293;go_wp2;go_ret;exact⟨rfl,rfl⟩
    ·rw[if_neg (fun z=>q2 (by simpa using z.2.2.2))] at hr;cases hr;have t1:((Zx l n).g != gn)=true:=by simp;omega
     obtain⟨m,hm⟩:=Zb ((Zx l n).g);rw[hm] at e2 t1;clear h h0 h1 q hm e1 q2;go_enter func293,ntmps293;go_wp2;go_ret;exact⟨rfl,rfl⟩
   ·rw[if_neg (fun z=>q (by simpa using z.2.2.1))] at hr;cases hr;have t1:(((Zx l n).st:Int) != 1)=true:=by simp;omega
    obtain⟨m,hm⟩:=Zb ((Zx l n).st);rw[hm] at e0 t1;clear h h0 h1 q hm e1;go_enter func293,ntmps293;go_wp2;go_ret;exact⟨rfl,rfl⟩
theorem Cw{i gn s k:Int}(h:Si w b g cap gens l)(hr:Nb l i gn=(s,k)):Calls prog 240 #[b,.int .i64 i,.int .u32 gn] w fun e w'=>e=.returned (.tuple #[.int .i64 s,.int .i64 k])∧w=w':=by
 have H:=Za h;unfold Nb at hr;by_cases q:Gh l i gn
 ·rw[if_pos q] at hr;cases hr;obtain⟨n,rfl,n1,n2,n3⟩:=Za6 q;obtain⟨e0,e1,e2⟩:=h.row n n1;rw[Zy4];have NP:Hid (Ko g l (n:Int) gn=some ⟨g,n*3,none⟩):=Za (by unfold Ko;rw[if_pos q];simp);clear h q e0 e2;go_enter func240,ntmps240;go_wp2_with fail;refine(Vv H.out).zz ?_;go_wp2_with fail;refine(I6 H.out NP.out).zz ?_;go_wp2;go_ret2;exact⟨rfl,rfl⟩
 ·rw[if_neg q] at hr;cases hr;have NP:Hid (Ko g l i gn=none):=Za (by unfold Ko;rw[if_neg q]);clear h q;go_enter func240,ntmps240;go_wp2_with fail;refine(Vv H.out).zz ?_;go_wp2_with fail;refine(I6 H.out NP.out).zz ?_;go_wp2;go_ret2;exact⟨rfl,rfl⟩
theorem Od{l:List Ent}{i:Nat}{v:Ent}(k:Nat)(h:i<l.length):Oo (l.set i v) k+(if (Zx l i).st=k then 1 else 0)=Oo l k+(if v.st=k then 1 else 0):=by
 induction l generalizing i with
 | nil=>simp at h
 | cons y r ih=>
  cases i with
  | zero=>
   simp only[List.set_cons_zero,Oo,List.filter_cons];have e:Zx (y :: r) 0=y:=rfl;rw[e];by_cases q1:y.st=k<;>by_cases q2:v.st=k<;>simp[q1,q2]
  | succ i=>
   have:=ih (i:=i) (by simpa using h);simp only[List.set_cons_succ,Oo,List.filter_cons] at this ⊢;have e:Zx (y :: r) (i+1)=Zx r i:=rfl;rw[e];by_cases q1:y.st=k
   ·simp only[q1,decide_true,if_true,List.length_cons];omega
   ·simp only[q1,decide_false,Bool.false_eq_true,if_false];exact this
theorem Si.turned{w2:World}{i:Nat}{v:Ent}(h:Si w b g cap gens l)(hi:i<l.length)(hs:v.s=(Zx l i).s)(hg:v.g=(Zx l i).g)(hv:v.st≤3)(hb:Zn w2 b (tbs g cap gens (l.set i v)))(hx:Chg (fun k=>k=b) w w2) :
  Si (w2.setCell ⟨g,i*3,none⟩ (.int .i64 (v.st:Int))) b g cap gens (l.set i v)∧Chg (taB b g) w (w2.setCell ⟨g,i*3,none⟩ (.int .i64 (v.st:Int))):=by
 have ne:=h.ne;have ng:¬(fun k=>k=b) g:=fun e=>ne e.symm
 refine⟨⟨hb.far (by exact ne.symm) _,fun j hj=>?_,fun o=>by rw[World.frozen?_setCell,hx.frozen (p:=⟨g,o,none⟩) h.lt.2 ng];exact h.fz o,ne,by rw[List.length_set];exact h.len,by rw[List.length_set];exact h.cap,h.gn,fun j hj=>?_⟩,(hx.mono fun k e=>.inl e).setCell (.inl (.inr rfl)) _⟩
 ·rw[List.length_set] at hj;have r:=(h.row j hj).chg hx ng;rw[Yq hi];have oth:∀o v',o≠i*3→w2.cell? ⟨g,o,none⟩=some v'→(w2.setCell ⟨g,i*3,none⟩ (.int .i64 (v.st:Int))).cell? ⟨g,o,none⟩=some v':=fun o v' ho hc=>by
   rw[Zy0 _ _ _ _ (by intro e;cases e;exact ho rfl)];exact hc
  split
  ·rename_i e;subst e;exact⟨Zyz _ _ _ r.st,by rw[hs];exact oth _ _ (by omega) r.s,by rw[hg];exact oth _ _ (by omega) r.g⟩
  ·exact⟨oth _ _ (by omega) r.st,oth _ _ (by omega) r.s,oth _ _ (by omega) r.g⟩
 ·rw[List.length_set] at hj;rw[Yq hi];split
  ·rename_i e;subst e;rw[hg];exact⟨(h.ok j hi).1,(h.ok j hi).2.1,hv⟩
  ·exact h.ok j hj
def Zmq(a z:Nat):Prop:=(a=0∧z=1)∨(a=1∧z=2)∨(a=2∧z=3)∨(a=2∧z=0)
theorem Cx(l:List Ent)(k:Nat):Oo l k≤l.length:=List.length_filter_le _ _
theorem Zqu{l:List Ent}{i:Nat}(h:i<l.length):1≤Oo l (Zx l i).st:=by
 have:=Od (v:=⟨(Zx l i).st+1,0,0⟩) (Zx l i).st h;simp at this;omega
theorem Zqv{i a z:Nat}{s gn:Int}(hi:i<l.length)(ha:(Zx l i).st=a)(hz:Zmq a z) :
  ((tbs g cap gens l).set (2+a) (.int .i64 ((Oo l a:Int)-1))).set (2+z) (.int .i64 ((Oo l z:Int)+1))=tbs g cap gens (l.set i ⟨z,s,gn⟩):=by
 have lp:=Zqu hi;have s0:=Od (v:=⟨z,s,gn⟩) 0 hi;have s1:=Od (v:=⟨z,s,gn⟩) 1 hi;have s2:=Od (v:=⟨z,s,gn⟩) 2 hi;have s3:=Od (v:=⟨z,s,gn⟩) 3 hi;rw[ha] at s0 s1 s2 s3 lp;rcases hz with ⟨rfl,rfl⟩|⟨rfl,rfl⟩|⟨rfl,rfl⟩|⟨rfl,rfl⟩
 all_goals
  simp at s0 s1 s2 s3;simp[tbs];omega
theorem Zuj{i a z:Nat}(h:Si w b g cap gens l)(hi:i<l.length)(ha:(Zx l i).st=a)(hz:Zmq a z) :
  Si (((w.setCell ⟨b,2+a,none⟩ (.int .i64 ((Oo l a:Int)-1))).drew.setCell ⟨b,2+z,none⟩ (.int .i64 ((Oo l z:Int)+1))).drew.setCell ⟨g,i*3,none⟩ (.int .i64 (z:Int))) b g cap gens (l.set i ⟨z,(Zx l i).s,(Zx l i).g⟩) ∧
  Chg (taB b g) w (((w.setCell ⟨b,2+a,none⟩ (.int .i64 ((Oo l a:Int)-1))).drew.setCell ⟨b,2+z,none⟩ (.int .i64 ((Oo l z:Int)+1))).drew.setCell ⟨g,i*3,none⟩ (.int .i64 (z:Int))):=by
 have la:2+a<6∧2+z<6:=by rcases hz with ⟨rfl,rfl⟩|⟨rfl,rfl⟩|⟨rfl,rfl⟩|⟨rfl,rfl⟩<;>omega
 have B:=(((h.box.set (i:=2+a) (by simp[tbs];omega) (.int .i64 ((Oo l a:Int)-1))).ext (Zy2 _).drew).set (i:=2+z) (by simp[tbs];omega) (.int .i64 ((Oo l z:Int)+1))).ext (Zy2 _).drew;rw[Zqv (s:=(Zx l i).s) (gn:=(Zx l i).g) hi ha hz] at B;refine h.turned (v:=⟨z,(Zx l i).s,(Zx l i).g⟩) hi rfl rfl (by show z≤3;omega) B ?_;exact(Chg.setCell (P:=fun k=>k=b) (p:=⟨b,2+z,none⟩) (Chg.drew (Chg.setCell (P:=fun k=>k=b) (p:=⟨b,2+a,none⟩) (Chg.refl _ w) (.inl rfl) _)) (.inl rfl) _).drew
theorem Jo{i z:Nat}(h:Si w b g cap gens l)(hi:i<l.length)(hz:Zmq (Zx l i).st z) :
  Calls prog 334 #[b,.pointer (some ⟨g,i*3,none⟩),.int .i64 z] w fun e w'=>e=.returned (.tuple #[])∧Si w' b g cap gens (l.set i ⟨z,(Zx l i).s,(Zx l i).g⟩)∧Chg (taB b g) w w':=by
 have e0:=(h.row i hi).st;have hf:=h.fz (i*3);have c2:=h.box.c 2 _ rfl;have c3:=h.box.c 3 _ rfl;have c4:=h.box.c 4 _ rfl;have c5:=h.box.c 5 _ rfl;have f2:=h.box.f 2;have f3:=h.box.f 3;have f4:=h.box.f 4;have f5:=h.box.f 5;have l0:=Cx l 0;have l1:=Cx l 1;have l2:=Cx l 2;have l3:=Cx l 3;have ln:=h.len;obtain⟨a,ha⟩:=Zb ((Zx l i).st);have FIN:=Za (Zuj h hi ha (by rw[←ha];exact hz));rw[ha] at hz e0;have ne:=h.ne;clear h hi ha;rcases hz with ⟨rfl,rfl⟩|⟨rfl,rfl⟩|⟨rfl,rfl⟩|⟨rfl,rfl⟩
 all_goals
  go_enter func334,ntmps334;go_wp2_with fail
  go_region
  go_wp2_with fail
  go_region
  go_wp2
  go_end0
  exact⟨rfl,FIN.out⟩
theorem Zqw{i gn s k:Int}{l':List Ent}(h:Si w b g cap gens l)(hr:Gi l i gn=(l',s,k)):Calls prog 289 #[b,.int .i64 i,.int .u32 gn] w fun e w'=>e=.returned (.tuple #[.int .i64 s,.int .i64 k])∧Si w' b g cap gens l'∧Chg (taB b g) w w':=by
 have H:=Za h;unfold Gi at hr;by_cases q:Gh l i gn
 ·rw[if_pos q] at hr;cases hr;obtain⟨n,rfl,n1,n2,n3⟩:=Za6 q;rw[Zy4];have LK:Hid (Nb l (n:Int) gn=((Zx l n).s,0)):=Za (by unfold Nb;rw[if_pos q];simp);have NP:Hid (Ko g l (n:Int) gn=some ⟨g,n*3,none⟩):=Za (by unfold Ko;rw[if_pos q];simp);have TU:=Za (Jo (z:=2) h n1 (.inr (.inl ⟨n2,rfl⟩)));clear h q;go_enter func289,ntmps289;go_wp2_with fail;refine(Cw H.out LK.out).zz ?_;go_wp2_with fail;refine(I6 H.out NP.out).zz ?_;go_wp2_with fail;refine TU.out.mono ?_;rintro e w1 ⟨rfl,t1,t2⟩;go_wp2;go_ret2;exact⟨rfl,t1,t2⟩
 ·rw[if_neg q] at hr;cases hr;have LK:Hid (Nb l i gn=(0,130)):=Za (by unfold Nb;rw[if_neg q]);clear h q;go_enter func289,ntmps289;go_wp2_with fail;refine(Cw H.out LK.out).zz ?_;go_wp2;go_ret2;exact⟨rfl,H.out,Chg.refl _ _⟩
end
section
variable{w w':World}{bb mb gw gb pb gp:Nat}{c:Zh}{t:Nat}{ws ws':List Int}{s i k u:Int}{h:Hd}
theorem hd3(g:Hd)(w:World){y:Nat}(hy:w.heap.size=y):∃W,w.alloc (.cells #[g.c,g.r,g.w] 78)=W∧Zn W y [g.c,g.r,g.w]∧Ext w W:=
 ⟨_,rfl,Zn.new w _ _ hy,(Zy2 w).alloc _⟩
def Mk(S:World→World→Prop)(k:Int)(w w':World):Prop:=∃W,Ext w W∧((k=0∧S W w')∨(k≠0∧W=w'))
theorem Mk.did{S:World→World→Prop}{W:World}(hx:Ext w W)(h:S W w'):Mk S 0 w w':=⟨W,hx,.inl ⟨rfl,h⟩⟩
theorem Mk.not{S:World→World→Prop}(hk:k≠0)(hx:Ext w w'):Mk S k w w':=⟨w',hx,.inr ⟨hk,rfl⟩⟩
theorem Zmr{g:Nat}{cs:Array Value}{S:World→World→Prop}(ref:Bool)(h:Zy w bb mb gw gb pb gp c t ws)(hk:Zi prog g)(hr:Wq c t ws s i ref=k)
  (hg:k=0→∀W,Ext w W→Calls prog g (#[.int .i64 (bAd c t s+1+i)]++cs) W fun e w'=>e=.returned (.tuple #[])∧S W w') :
  Calls prog 200 #[bb,ref,.int .i64 s,.int .i64 i,.func (.func g) #[] cs] w
   fun e w'=>e=.returned (.int .i64 k)∧Mk S k w w':=by
 unfold Zi at hk;have H:=Za h;have KO:=Za h.ko;have TI:=Za h.ti;have HR:=Za hr;unfold Wq at hr;obtain⟨hd,q,hh⟩:∃hd q,Zz c t ws s=(hd,q):=⟨_,_,rfl⟩;have HH:=Za hh;have HG:=Za hg;have X:=Za (Zy2 w);rw[hh] at hr;clear h hg hh;by_cases hq:q=0
 ·subst hq;rw[if_pos rfl] at hr;obtain⟨f,e2,hf⟩:∃f e2,U5 hd i=(f,e2):=⟨_,_,rfl⟩;have HF:=Za hf;change (if U5 hd i=(ref,0) then (0:Int) else 110)=k at hr;rw[hf] at hr;go_enter func200,ntmps200;go_wp2_with fail;refine(Xf H.out HH.out).ze fun w1 x1=>?_;replace H:=Za (H.out.ext x1);replace X:=Za (X.out.trans x1);clear x1
  go_upto_region 4 with fail
  obtain⟨y,hy⟩:=Zb (w1.heap.size);obtain⟨W2,hW2,hY,x2⟩:=hd3 hd w1 hy;have Y:=Za hY;rw[hW2,hy];replace H:=Za (H.out.ext x2);replace X:=Za (X.out.trans x2);clear hW2 hy hY x2;obtain⟨y0,y1,y2⟩:=Y.out.k3;have yl:=Y.out.lt;go_wp2_with fail;clear y0 y1 y2 yl;refine(Fv hd i f e2 HF.out).ze fun w3 x3=>?_;replace H:=Za (H.out.ext x3);replace X:=Za (X.out.trans x3);clear x3;by_cases hfe:e2=0∧f=ref
  ·obtain⟨rfl,rfl⟩:=hfe;rw[if_pos rfl] at hr;subst hr;obtain⟨hi,j,hj,_⟩:=Ws HR.out;have HP:=Za (show Vk c t s=(bAd c t s,bSz c t s,0) by unfold Vk;rw[if_pos hi]);have sb:=Xt KO.out TI.out hi;have a64:=sb.is64 KO.out TI.out;have ib:=(Uh hf).2;have hb:=(Uh hf).1.2;obtain⟨A,hA⟩:=Zb (bAd c t s);rw[hA] at HP HG a64;have i0:0≤i:=ib.1;have i1:i<64:=by omega
   have w1':IntKind.i64.wrap (A+1)=A+1:=IntWalk.i64_in _ (by omega);have w2':IntKind.i64.wrap (A+1+i)=A+1+i:=IntWalk.i64_in _ (by omega);have tf:(f != f)=false:=by simp
   clear hi hj sb ib hb hf hA;go_wp2_with fail;refine(Yv H.out HP.out).ze fun w4 x4=>?_;replace X:=Za (X.out.trans x4);clear x4 H;go_wp2_with fail;refine(HG.out (by first|trivial|rfl) _ X.out).ze fun w5 hs=>?_;go_wp2;go_ret;exact⟨rfl,Mk.did X.out hs⟩
  ·rw[if_neg (fun e=>hfe (by injection e with e1 e3;exact⟨e3,e1⟩))] at hr;subst hr;by_cases he:e2=0
   ·have hf2:(f != ref)=true:=by
     simp only[bne_iff_ne];exact fun e=>hfe ⟨he,e⟩
    have hf3:(!f==ref)=true:=by
     have:f≠ref:=fun e=>hfe ⟨he,e⟩
     cases f<;>cases ref<;>first|rfl|exact absurd rfl this
    subst he;clear hfe hf;go_wp2;go_ret;exact⟨rfl,Mk.not (by decide) X.out⟩
   ·have he2:(e2==0)=false:=by simpa using he
    clear hfe hf;go_wp2;go_ret;exact⟨rfl,Mk.not (by decide) X.out⟩
 ·rw[if_neg (show ¬(hd,q).2=0 from hq)] at hr;change q=k at hr;subst hr;go_enter func200,ntmps200;go_wp2_with fail;refine(Xf H.out HH.out).ze fun w1 x1=>?_;replace X:=Za (X.out.trans x1);clear x1;go_wp2;go_ret;exact⟨rfl,Mk.not hq (X.out.alloc _)⟩
end
section
variable{w w':World}{bb mb gw gb pb gp:Nat}{c:Zh}{t:Nat}{ws ws':List Int}{s i k u x:Int}{h:Hd}
theorem Cy:Zi prog 201:=Zi.mk func201 (by kernel_rfl) rfl
theorem Gl:Zi prog 362:=Zi.mk func362 (by kernel_rfl) rfl
theorem Zii{a:Int}{p y:Nat}{v0:Value}(h:Zy w bb mb gw gb pb gp c t ws)(hr:Zc1 c ws t a=(u,0))(ha:is64 a)
  (c0:w.cell? p=some (bb:Value)) (c1:w.cell? y=some v0) (f1:w.frozen? y=false) :
  Calls prog 201 #[.int .i64 a,p,y] w fun e w'=>e=.returned (.tuple #[])∧Chg (fun k=>k=y) w w'∧w'.cell? y=some (.int .u64 u)∧w'.frozen? y=false:=by
 have H:=Za h;have HA:=Za ha;have HR:=Za hr;have C1:=Za c1;have F1:=Za f1;clear h ha hr c1 f1;go_enter func201,ntmps201
 go_upto_region 0 with fail
 obtain⟨b0,b1,b2⟩:=H.out.box.k3
 go_region_with ((go_at_call 157;refine(Dr u 0 (H.out.mem.ext ?_) HA.out HR.out).mono ?_;(repeat (first|with_reducible exact Zy2 _|with_reducible refine Ext.drew ?_|with_reducible refine Ext.drewN ?_ _|with_reducible refine Ext.alloc ?_ _));rintro e w2 ⟨rfl,x2⟩;have d1:=x2.cell (((Zy2 w).drew).cell C1.out);have g1:=x2.frozenAt (((Zy2 w).drew).cell C1.out) (((Zy2 w).drew).frozenAt C1.out F1.out)))
 all_goals
  go_wp2
  go_end0
  exact⟨rfl,Chg.setCell (P:=fun k=>k=y) (p:=⟨y,0,none⟩) (Zy3 (((Zy2 w).drew).trans x2)) (.inl rfl) _,Zyz _ _ _ d1,by simpa using g1⟩
theorem Cz(w:World)(v0 v1:Value)(t0 t1:TypeId){z:Nat}(hz:w.heap.size=z):∃W,(w.alloc (.cells #[v0] t0)).alloc (.cells #[v1] t1)=W ∧
  (W.cell? z=some v0∧W.frozen? z=false)∧(W.cell? ⟨z+1,0,none⟩=some v1∧W.frozen? ⟨z+1,0,none⟩=false)∧Ext w W:=
 ⟨_,rfl,Kd (U6 w v0 t0 hz) ((Zy2 _).alloc _),U6 _ v1 t1 (by simp[hz]),((Zy2 w).alloc _).alloc _⟩
theorem Ml(ref:Bool)(h:Zy w bb mb gw gb pb gp c t ws)(hr:Ra c t ws s i ref=(u,k)) :
  Calls prog 160 #[bb,ref,.int .i64 s,.int .i64 i] w fun e w'=>e=.returned (.tuple #[.int .u64 u,.int .i64 k])∧Ext w w':=by
 have hmf:=Ze
 obtain⟨z,hz⟩:=Zb (w.heap.size);obtain⟨W0,hW0,⟨b0,g0⟩,⟨b1,g1⟩,X0⟩:=Cz w (bb:Value) (.int .u64 0) 112 34 hz;have ZL:w.heap.size≤z+1:=by omega
 obtain⟨q,hq⟩:=Zb (Wq c t ws s i ref);have HQ:=Za hq;unfold Ra at hr;rw[hq] at hr;have CA:=Za (Zmr (cs:=#[(z:Value),.pointer (some ⟨z+1,0,none⟩)]) (S:=fun W w'=>Chg (fun k=>k=z+1) W w'∧w'.cell? ⟨z+1,0,none⟩=some (.int .u64 (bwd c t ws s (1+i.toNat)))∧w'.frozen? ⟨z+1,0,none⟩=false) ref (h.ext X0) Cy hq (fun h0 W hx=>by
  obtain⟨hi,j,hji,hj⟩:=Ws (hq.trans h0);have sb:=Xt h.ko h.ti hi;have a64:=sb.is64 h.ko h.ti;have s64:=sb.s64;have L:=sb.load (ws:=ws) h.ti (i:=1+j) (by omega);rw[show bAd c t s+((1+j:Nat):Int)=bAd c t s+1+i by omega,show 1+j=1+i.toNat by omega] at L;exact(Zii (p:=z) (y:=z+1) (h.ext (X0.trans hx)) L ⟨by omega,by omega⟩ (hx.cell b0) (hx.cell b1) (hx.frozenAt b1 g1))))
 have B1:=Za b1;have G1:=Za g1;have XH:=Za X0;have HZ:=Za ZL;have bz:=Zj b0;clear h hq g0 b1 g1 X0 ZL;go_enter func160,ntmps160;go_wp2_with fail;clear hW0 hz b0 bz;refine CA.out.mono ?_;rintro e w1 ⟨rfl,W1,x1,h1⟩;by_cases h0:q=0
 ·rcases h1 with ⟨_,hc,c1,f1⟩|⟨hn,_⟩
  ·subst h0;rw[if_pos rfl] at hr;obtain⟨rfl,rfl⟩:bwd c t ws s (1+i.toNat)=u∧0=k:=by injection hr with e1 e2;exact⟨e1,e2⟩
   have C:=Za hc;have X1:=Za x1;clear hr hc x1;have l1:=Zj c1;go_wp2_with fail;have d3:=Zyz w1 ⟨z+1,0,none⟩ (.int .u64 (bwd c t ws s (1+i.toNat))) c1;refine bodyPost_ret (v:=.tuple #[.int .u64 (bwd c t ws s (1+i.toNat)),(0:Int)]) (by simp[results,results160,go_sem,d3]) rfl ⟨rfl,?_⟩;exact(Chg.setCell (P:=fun k=>k=z+1) (p:=⟨z+1,0,none⟩) C.out (.inl rfl) _).over (XH.out.trans X1.out) fun k hk=>by subst hk;exact HZ.out
  ·exact absurd h0 hn
 ·rcases h1 with ⟨hn,_⟩|⟨_,rfl⟩
  ·exact absurd hn h0
  ·rw[if_neg h0] at hr;obtain⟨rfl,rfl⟩:0=u∧q=k:=by injection hr with e1 e2;exact⟨e1,e2⟩
   have c1:=x1.cell B1.out;have f1:=x1.frozenAt B1.out G1.out;have X1:=Za x1;clear hr x1;have l1:=Zj c1;go_wp2_with fail;have d3:=Zyz W1 ⟨z+1,0,none⟩ (.int .u64 0) c1;refine bodyPost_ret (v:=.tuple #[.int .u64 0,.int .i64 q]) (by simp[results,results160,go_sem,d3]) rfl ⟨rfl,?_⟩;exact(XH.out.trans X1.out).setCell (p:=⟨z+1,0,none⟩) HZ.out _
theorem Za7(h:Zy w bb mb gw gb pb gp c t ws)(hr:Zhh c t ws s i=(u,k)) :
  Calls prog 283 #[bb,.int .i64 s,.int .i64 i] w fun e w'=>e=.returned (.tuple #[.int .u64 u,.int .i64 k])∧Ext w w':=by
 have H:=Za h;have HR:=Za hr;clear h hr;go_enter func283,ntmps283;go_wp2_with fail;refine(Ml false H.out HR.out).ze fun w1 x1=>?_;go_wp2;go_ret2;exact⟨rfl,x1⟩
theorem Jp(h:Zy w bb mb gw gb pb gp c t ws)(hr:U2 c t ws s i=(u,k)) :
  Calls prog 117 #[bb,.int .i64 s,.int .i64 i] w fun e w'=>e=.returned (.tuple #[.int .i64 u,.int .i64 k])∧Ext w w':=by
 have H:=Za h;unfold U2 at hr;obtain⟨v,q,hv⟩:∃v q,Ra c t ws s i true=(v,q):=⟨_,_,rfl⟩;have HV:=Za hv;have vb:0≤v∧v<18446744073709551616:=by
  unfold Ra at hv;split at hv
  ·injection hv with e1 e2;rw[←e1];exact h.ok _
  ·injection hv with e1 e2;omega
 have ns:=h.ko.nS_eq h.ti;have nl:=h.ko.nS_le h.ti;rw[hv] at hr;obtain⟨N,hN⟩:=Zb (nS c t);rw[hN] at ns nl hr;have HN:=Za ns.symm;clear h hv hN;change (if q=0 then (if (N:Int)<v then ((0:Int),(5:Int)) else (v-1,0)) else (0,q))=(u,k) at hr;have wn:IntKind.u64.wrap (N:Int)=N:=IntWalk.u64_in _ (by omega);by_cases h0:q=0
 ·subst h0;rw[if_pos rfl] at hr;by_cases hlt:(N:Int)<v
  ·rw[if_pos hlt] at hr;cases hr;have tl:decide ((N:Int)<v)=true:=Zyy hlt;clear ns;go_enter func117,ntmps117;go_wp2_with fail;refine(Ml true H.out HV.out).ze fun w1 x1=>?_;replace H:=Za (H.out.ext x1);obtain⟨b0,b1,b2⟩:=H.out.box.k3;go_wp2_with fail;clear b0 b1 b2;refine(Yx (N:Int) HN.out H.out.plan).zz ?_;go_wp2;go_ret2;exact⟨rfl,x1⟩
  ·rw[if_neg hlt] at hr;obtain⟨rfl,rfl⟩:v-1=u∧0=k:=by injection hr with e1 e2;exact⟨e1,e2⟩
   have tl:decide ((N:Int)<v)=false:=Zyx hlt;have wv:IntKind.i64.wrap v=v:=IntWalk.i64_in _ (by omega);have wv1:IntKind.i64.wrap (v-1)=v-1:=IntWalk.i64_in _ (by omega);clear ns hr;go_enter func117,ntmps117;go_wp2_with fail;refine(Ml true H.out HV.out).ze fun w1 x1=>?_;replace H:=Za (H.out.ext x1);obtain⟨b0,b1,b2⟩:=H.out.box.k3;go_wp2_with fail;clear b0 b1 b2;refine(Yx (N:Int) HN.out H.out.plan).zz ?_;go_wp2;go_ret2;exact⟨rfl,x1⟩
 ·rw[if_neg h0] at hr;obtain⟨rfl,rfl⟩:0=u∧q=k:=by injection hr with e1 e2;exact⟨e1,e2⟩
  clear ns hr;go_enter func117,ntmps117;go_wp2_with fail;refine(Ml true H.out HV.out).ze fun w1 x1=>?_;go_wp2;go_ret2;exact⟨rfl,x1⟩
theorem Zdu{a:Int}{p y:Nat}(h:Zy w bb mb gw gb pb gp c t ws)(hr:Ke c ws t a x=(ws',0))(ha:is64 a)(ho:WOk ws')
  (c0:w.cell? p=some (bb:Value)) (c1:w.cell? y=some (.int .u64 x)) :
  Calls prog 362 #[.int .i64 a,p,y] w fun e w'=>e=.returned (.tuple #[])∧Zy w' bb mb gw gb pb gp c t ws'∧Chg (isB gw) w w':=by
 have H:=Za h;have HA:=Za ha;have HR:=Za hr;have HO:=Za ho;clear h ha hr ho;go_enter func362,ntmps362
 go_upto_region 0 with fail
 obtain⟨b0,b1,b2⟩:=H.out.box.k3
 go_region_with ((go_at_call 321;refine(Fw H.out ?_ HA.out HR.out HO.out).mono ?_;(repeat (first|with_reducible exact Zy2 _|with_reducible refine Ext.drew ?_|with_reducible refine Ext.drewN ?_ _|with_reducible refine Ext.alloc ?_ _));rintro e w2 ⟨rfl,hb,hc⟩))
 all_goals
  have HB:=Za hb;have HC:=Za hc;clear hb hc b0 b1 b2;go_wp2
  go_end0
  exact⟨rfl,HB.out,HC.out⟩
theorem Fx(ref:Bool)(h:Zy w bb mb gw gb pb gp c t ws)(hx64:0≤x∧x<18446744073709551616)(hr:Wk c t ws s i ref x=(ws',k)) :
  Calls prog 330 #[bb,ref,.int .i64 s,.int .i64 i,.int .u64 x] w fun e w'=>e=.returned (.int .i64 k)∧Zy w' bb mb gw gb pb gp c t ws'∧Chg (isB gw) w w':=by
 have hmf:=Ze
 obtain⟨z,hz⟩:=Zb (w.heap.size);obtain⟨W0,hW0,⟨b0,g0⟩,⟨b1,g1⟩,X0⟩:=Cz w (bb:Value) (.int .u64 x) 112 34 hz;obtain⟨q,hq⟩:=Zb (Wq c t ws s i ref);have OK:WOk ws':=by have:=Ay (c:=c) (t:=t) (s:=s) (i:=i) (r:=ref) h.ok hx64;rw[hr] at this;exact this
 unfold Wk at hr;rw[hq] at hr;have CA:=Za (Zmr (cs:=#[(z:Value),.pointer (some ⟨z+1,0,none⟩)]) (S:=fun W w'=>Zy w' bb mb gw gb pb gp c t ws'∧Chg (isB gw) W w') ref (h.ext X0) Gl hq (fun h0 W hx=>by
  rw[if_pos h0] at hr;obtain⟨hi,j,hji,hj⟩:=Ws (hq.trans h0);have sb:=Xt h.ko h.ti hi;have a64:=sb.is64 h.ko h.ti;have s64:=sb.s64;have L:=sb.store (ws:=ws) h.ti (i:=1+j) (by omega) x;rw[show bAd c t s+((1+j:Nat):Int)=bAd c t s+1+i by omega,show 1+j=1+i.toNat by omega] at L;have e1:ws.set (bAt c t s (1+i.toNat)) x=ws':=by injection hr
  rw[e1] at L;exact(Zdu (p:=z) (y:=z+1) (h.ext (X0.trans hx)) L ⟨by omega,by omega⟩ OK (hx.cell b0) (hx.cell b1))))
 have XH:=Za X0;have H:=Za h;have bz:=Zj b0;clear h hq g0 b1 g1 X0 OK;go_enter func330,ntmps330;go_wp2_with fail;clear hW0 hz b0 bz;refine CA.out.mono ?_;rintro e w1 ⟨rfl,W1,x1,h1⟩;by_cases h0:q=0
 ·rcases h1 with ⟨_,hb,hc⟩|⟨hn,_⟩
  ·subst h0;rw[if_pos rfl] at hr;obtain rfl:0=k:=by injection hr
   have C:=Za hc;have B:=Za hb;have X1:=Za x1;clear hr hc x1 hb;go_wp2;go_ret;exact⟨rfl,B.out,(Zy3 (XH.out.trans X1.out)).trans C.out⟩
  ·exact absurd h0 hn
 ·rcases h1 with ⟨hn,_⟩|⟨_,rfl⟩
  ·exact absurd hn h0
  ·rw[if_neg h0] at hr;obtain⟨rfl,rfl⟩:ws=ws'∧q=k:=by injection hr with e1 e2;exact⟨e1,e2⟩
   have X1:=Za x1;clear hr x1;go_wp2;go_ret;exact⟨rfl,H.out.ext (XH.out.trans X1.out),Zy3 (XH.out.trans X1.out)⟩
theorem Za8(h:Zy w bb mb gw gb pb gp c t ws)(hx64:0≤x∧x<18446744073709551616)(hr:Jf c t ws s i x=(ws',k)) :
  Calls prog 285 #[bb,.int .i64 s,.int .i64 i,.int .u64 x] w fun e w'=>e=.returned (.int .i64 k)∧Zy w' bb mb gw gb pb gp c t ws'∧Chg (isB gw) w w':=by
 have H:=Za h;have HR:=Za hr;have HX:=Za hx64;clear h hr hx64;go_enter func285,ntmps285;go_wp2_with fail;refine(Fx false H.out HX.out HR.out).mono ?_;rintro e w1 ⟨rfl,hb,hc⟩;have B:=Za hb;have C:=Za hc;clear hb hc;go_wp2;go_ret;exact⟨rfl,B.out,C.out⟩
theorem Zdv{to:Int}(h:Zy w bb mb gw gb pb gp c t ws)(hr:Ry c t ws s i to=(ws',k)) :
  Calls prog 286 #[bb,.int .i64 s,.int .i64 i,.int .i64 to] w fun e w'=>e=.returned (.int .i64 k)∧Zy w' bb mb gw gb pb gp c t ws'∧Chg (isB gw) w w':=by
 have H:=Za h;unfold Ry at hr;have ns:=h.ko.nS_eq h.ti;have nl:=h.ko.nS_le h.ti;by_cases hi:bIn c t s
 ·have HP:=Za (show Vk c t s=(bAd c t s,bSz c t s,0) by unfold Vk;rw[if_pos hi]);obtain⟨N,hN⟩:=Zb (nS c t);rw[hN] at ns nl hr;have HN:=Za ns.symm;by_cases ht:-1≤to∧to<(N:Int)
  ·rw[if_pos ⟨hi,ht⟩] at hr;have HR:=Za hr;obtain⟨t0,t1⟩:=ht;have wt:IntKind.i64.wrap (to+1)=to+1:=IntWalk.i64_in _ (by omega);have wu:IntKind.u64.wrap (to+1)=to+1:=IntWalk.u64_in _ (by omega);have d0:decide (to < -1)=false:=Zyx (by omega);have d1:decide ((N:Int)≤to)=false:=Zyx (by omega);have XB:=Za (show 0≤to+1∧to+1<18446744073709551616 by omega);clear h hi hr hN ns;go_enter func286,ntmps286;go_wp2_with fail;refine(Yv H.out HP.out).ze fun w1 x1=>?_;replace H:=Za (H.out.ext x1);obtain⟨b0,b1,b2⟩:=H.out.box.k3;go_wp2_with fail;clear b0 b1 b2;refine(Yx (N:Int) HN.out H.out.plan).zz ?_;go_wp2_with fail;refine(Fx true H.out XB.out HR.out).mono ?_;rintro e w3 ⟨rfl,hb,hc⟩;have B:=Za hb;have C:=Za ((Zy3 x1).trans hc);clear hb hc x1;go_wp2;go_ret;exact⟨rfl,B.out,C.out⟩
  ·rw[if_neg (fun q=>ht q.2)] at hr;obtain⟨rfl,rfl⟩:ws=ws'∧2=k:=by injection hr with e1 e2;exact⟨e1,e2⟩
   clear h hi hr hN ns;by_cases h1:to < -1
   ·have d0:decide (to < -1)=true:=Zyy h1;clear ht;go_enter func286,ntmps286;go_wp2_with fail;refine(Yv H.out HP.out).ze fun w1 x1=>?_;replace H:=Za (H.out.ext x1);go_wp2;go_ret;exact⟨rfl,H.out,Zy3 x1⟩
   ·have d0:decide (to < -1)=false:=Zyx h1;have d1:decide ((N:Int)≤to)=true:=Zyy (by omega);clear ht;go_enter func286,ntmps286;go_wp2_with fail;refine(Yv H.out HP.out).ze fun w1 x1=>?_;replace H:=Za (H.out.ext x1);obtain⟨b0,b1,b2⟩:=H.out.box.k3;go_wp2_with fail;clear b0 b1 b2;refine(Yx (N:Int) HN.out H.out.plan).zz ?_;go_wp2;go_ret;exact⟨rfl,H.out,Zy3 x1⟩
 ·rw[if_neg (fun q=>hi q.1)] at hr;have HP:=Za (show Vk c t s=(0,0,2) by unfold Vk;rw[if_neg hi]);obtain⟨rfl,rfl⟩:ws=ws'∧2=k:=by injection hr with e1 e2;exact⟨e1,e2⟩
  clear h hi hr ns;go_enter func286,ntmps286;go_wp2_with fail;refine(Yv H.out HP.out).ze fun w1 x1=>?_;replace H:=Za (H.out.ext x1);go_wp2;go_ret;exact⟨rfl,H.out,Zy3 x1⟩
end
section
variable{w w':World}{bb mb gw gb pb gp:Nat}{c:Zh}{t:Nat}{ws ws':List Int}{s i k u x from_:Int}{h:Hd}{xs:List Int}{m:Nat}
theorem Zij:Zi prog 117:=Zi.mk func117 (by kernel_rfl) rfl
theorem Zdw:Zi prog 283:=Zi.mk func283 (by kernel_rfl) rfl
theorem Za9{F:Nat→Int × Int}(h:Zy w bb mb gw gb pb gp c t ws)(hF:∀j,j<m→U2 c t ws s (from_+j)=F j)(hf:0≤from_∧from_≤100)(hm:m≤100)(hr:U3 F m=(xs,k)) :
  Calls prog 116 #[.int .i64 s,.int .i64 from_,.int .i64 m,.func (.func 117) #[bb] #[]] w
   fun e w'=>∃a cap,e=.returned (.tuple #[.slice a xs.length cap,.int .i64 k])∧At .i64 w' a xs∧Ext w w':=by
 have hk:=Zij;unfold Zi at hk;obtain⟨i0,hi0,hz0,hz1,hz2⟩:=info_parts Dq;have H:=Za h;have HF:=Za hF;have HR:=Za hr;obtain⟨B,hB⟩:=Zb (w.heap.size);have HB:=Za hB;clear h hF hr hB;go_enter func116,ntmps116
 go_upto_region 3 with fail
 go_loopw [10,15] (fun sv iv wr=>∃(j:Nat) (ys:List Int),j≤m∧iv=.int .i64 j∧Hid (U3 F j=(ys,0))∧ys.length=j∧Hid (wr.ownsRow B 3 1 sv j (ncs .i64 ys))∧Hid (Ext w wr)) (fun _ iv _=>m-(intOf iv).toNat)
 case atStart=>exact⟨0,[],Nat.zero_le _,rfl,Za rfl,rfl,Za (World.ownsRow_nil _ _ _ _),Za (Zy2 _)⟩
 case round=>
  obtain⟨j,ys,hj,rfl,HY,hl,HO,X⟩:=hrel;have j0:(0:Int)≤(j:Int):=Int.natCast_nonneg _;by_cases hlt:j<m
  ·obtain⟨v,q,hv⟩:∃v q,F j=(v,q):=⟨_,_,rfl⟩;have HV:=Za (show U2 c t ws s (from_+j)=(v,q) by rw[HF.out j hlt];exact hv);have wf:IntKind.i64.wrap (from_+(j:Int))=from_+j:=IntWalk.i64_in _ (by omega);have HN:=Za hv;clear hv;go_wp2_with fail;refine(Jp (H.out.ext X.out) HV.out).ze fun w1 x1=>?_;replace X:=Za (X.out.trans x1);replace HO:=Za (Xe HO.out x1);clear x1;by_cases hq:q=0
   ·subst hq;have BL:=Za (show B≤w1.heap.size by have:=X.out.size;have:=HB.out;omega)
    go_wp2_with (at_builtin;refine wpList_append_own _ rfl (.tmp 30) (.tmp 32) 22 rfl B 3 i0 (.int .i64 0) 1 8 underlying22 hi0 hz0 hz1 hz2 rfl (by decide) u10 j (ncs .i64 ys) rfl (Xe HO.out ((Zy2 w1).alloc _)) ⟨w1.heap.size,0,none⟩ 1 1 [.int .i64 v] rfl rfl (Oy _ _ _) (Zcu rfl) (by unfold maxLen;omega) (by omega) (by have:=BL.out;simp;omega) ?_;intro v' w2 hown hgrow Ce;rw[Rv] at hown;have HO2:=Za hown;have X2:=Za ((X.out.alloc (.cells #[.int .i64 v] 3)).grown hgrow (fun k e=>by have:=(HO.out.lt k e).1;have:=HB.out;omega));clear hown hgrow Ce)
    go_roundw
    case rel=>exact⟨j+1,ys++[v],by omega,by go_num,Za (Az HY.out HN.out),by simp[hl],HO2,X2⟩
    case measure=>simp[intOf];omega
   ·have tq:(q==0)=false:=by simpa using hq
    have hr:=HR.out;rw[Zaa HY.out HN.out hq hlt] at hr;obtain⟨rfl,rfl⟩:[]=xs∧q=k:=by injection hr with e1 e2;exact⟨e1,e2⟩
    clear hr;go_wp2;go_ret2;exact⟨none,0,rfl,(fun i hi=>absurd hi (Zzb _)),X.out⟩
  ·have t1:decide (j<m)=false:=Zyx hlt;have t1':decide ((j:Int)<(m:Int))=false:=Zyx (by omega);have hr:=HR.out;rw[show m=j by omega,HY.out] at hr;obtain⟨rfl,rfl⟩:ys=xs∧0=k:=by injection hr with e1 e2;exact⟨e1,e2⟩
   clear hr;obtain⟨a,cap,rfl,hn⟩:=S8 (by rw[HB.out,hl];exact HO.out:wr.ownsRow w.heap.size 3 1 u10 ys.length (ncs .i64 ys));have N:=Za hn.row;have HL:=Za hl;clear hn HO hlt hl;go_wp2;go_ret2;exact⟨a,cap,by rw[HL.out];rfl,N.out,X.out⟩
theorem Zms(h:Zy w bb mb gw gb pb gp c t ws)(hr:Zab c t ws s=(xs,k)) :
  Calls prog 83 #[bb,.int .i64 s] w
   fun e w'=>∃a cap,e=.returned (.tuple #[.slice a xs.length cap,.int .i64 k])∧At .i64 w' a xs∧Ext w w':=by
 have hmf:=Ze
 have H:=Za h;have X:=Za (Zy2 w);unfold Zab at hr;obtain⟨hd,q,hh⟩:∃hd q,Zz c t ws s=(hd,q):=⟨_,_,rfl⟩;have HH:=Za hh;rw[hh] at hr;clear h;by_cases hq:q=0
 ·subst hq;rw[if_pos rfl] at hr;have ok:Lg c t s hd:=by
   have:=(Yd (c:=c) (t:=t) (ws:=ws) (s:=s) (by rw[hh])).2.2.1;rw[hh] at this;exact this
  obtain⟨R,hR⟩:∃R:Nat,hd.r=R:=⟨hd.r.toNat,by have:=ok.1.2.1;omega⟩;obtain⟨M,hM⟩:∃M:Nat,hd.w=M:=⟨hd.w.toNat,by have:=ok.1.2.2.1;omega⟩;have r63:R≤63:=by have:=ok.1.2.2.2.1;omega
  have m63:M≤63:=by have:=ok.1.2.2.2.2;omega
  obtain⟨C,Rr,Ww⟩:=hd;change Rr=(R:Int) at hR;change Ww=(M:Int) at hM;subst hR hM;simp only[Zy4] at hr;have HR:=Za hr;clear hh ok hr;go_enter func83,ntmps83;go_wp2_with fail;refine(Xf H.out HH.out).ze fun w1 x1=>?_;replace H:=Za (H.out.ext x1);replace X:=Za (X.out.trans x1);clear x1
  go_upto_region 4 with fail
  obtain⟨y,hy⟩:=Zb (w1.heap.size);obtain⟨W2,hW2,hY,x2⟩:=hd3 ⟨C,(R:Int),(M:Int)⟩ w1 hy;have Y:=Za hY;rw[hW2,hy];replace H:=Za (H.out.ext x2);replace X:=Za (X.out.trans x2);clear hW2 hy hY x2;obtain⟨y0,y1,y2⟩:=Y.out.k3;have yl:=Y.out.lt;go_wp2_with fail;clear y0 y1 y2 yl;refine(Za9 (from_:=0) (m:=R) H.out (fun j _=>by simp) (by omega) (by omega) HR.out).mono ?_;rintro e w3 ⟨a,cap,rfl,hn,x3⟩;have N:=Za hn;replace X:=Za (X.out.trans x3);clear hn x3;go_wp2;go_ret2;exact⟨a,cap,rfl,N.out,X.out⟩
 ·rw[if_neg (show ¬(hd,q).2=0 from hq)] at hr;obtain⟨rfl,rfl⟩:[]=xs∧q=k:=by injection hr with e1 e2;exact⟨e1,e2⟩
  clear hr hh;go_enter func83,ntmps83;go_wp2_with fail;refine(Xf H.out HH.out).ze fun w1 x1=>?_;go_wp2;go_ret2;exact⟨none,0,rfl,(fun i hi=>absurd hi (Zzb _)),x1.alloc _⟩
end
theorem Zqx{b rb rg g:Nat}{i:Int}(ms ms':List Int)(q:Int){w:World}(h:Xw w b rb rg g ms)(hr:Ty false ms i=(ms',q)) :
  Calls prog 287 #[b,.int .i64 i] w (Jj b rb rg g ms ms' q w):=by
 have H:=Za h;have HR:=Za hr;clear h hr;go_enter func287,ntmps287;go_wp2_with fail;refine(Gf ms ms' q H.out HR.out).mono ?_;rintro e w1 ⟨rfl,h1,h2⟩;have P1:=Za h1;have C1:=Za h2;clear h1 h2;go_wp2;go_ret;exact⟨rfl,P1.out,C1.out⟩
theorem Zik{b rb rg g:Nat}{i:Int}(ms ms':List Int)(q:Int){w:World}(h:Xw w b rb rg g ms)(hr:Ty true ms i=(ms',q)) :
  Calls prog 288 #[b,.int .i64 i] w (Jj b rb rg g ms ms' q w):=by
 have H:=Za h;have HR:=Za hr;clear h hr;go_enter func288,ntmps288;go_wp2_with fail;refine(Gg ms ms' q H.out HR.out).mono ?_;rintro e w1 ⟨rfl,h1,h2⟩;have P1:=Za h1;have C1:=Za h2;clear h1 h2;go_wp2;go_ret;exact⟨rfl,P1.out,C1.out⟩
section
structure CB where
 mb:Nat
 gw:Nat
 gm:Nat
 yb:Nat
 a0:Nat
 pb:Nat
 gp:Nat
 a1:Nat
 bb:Nat
 a2:Nat
 ab:Nat
 ar:Nat
 ag:Nat
 a3:Nat
 tb:Nat
 tg:Nat
 tcap:Nat
 a4:Nat
 nb:Nat
 nr:Nat
 nrg:Nat
 ng:Nat
 a5:Nat
 gb:Nat
 ob:Nat
 og:Nat
 db:Nat
 dg:Nat
 rg:Nat
 a6:Nat
 cb:Nat
 cg:Nat
 a7:Nat
 hd:Nat
 hcap:Nat
 kb:Nat
 a8:Nat
 sb:Nat
 sr:Nat
 sg:Nat
 a9:Nat
structure CB.Ord(B:CB):Prop where
 m:B.mb<B.yb∧B.gw<B.yb∧B.gm<B.yb∧B.mb≠B.gw∧B.gm≠B.gw
 g:0<B.yb∧2<B.yb∧0≠B.gw∧2≠B.gw
 p:B.yb<B.a0∧B.a0≤B.pb∧B.pb<B.a1∧B.a0≤B.gp∧B.gp<B.a1
 b:B.a1≤B.bb∧B.bb<B.a2
 a:B.a2≤B.ab∧B.ab<B.a3∧B.a2≤B.ar∧B.ar<B.a3∧B.a2≤B.ag∧B.ag<B.a3
 t:B.a3≤B.tb∧B.tb<B.a4∧B.a3≤B.tg∧B.tg<B.a4
 n:B.a4≤B.nb∧B.nb<B.a5∧B.a4≤B.nr∧B.nr<B.a5∧B.a4≤B.nrg∧B.nrg<B.a5∧B.a4≤B.ng∧B.ng<B.a5
 k:B.a5≤B.gb∧B.gb<B.a6∧B.a5≤B.ob∧B.ob<B.a6∧B.a5≤B.og∧B.og<B.a6∧B.a5≤B.db∧B.db<B.a6∧B.a5≤B.dg∧B.dg<B.a6∧B.a5≤B.rg∧B.rg<B.a6
 c:B.a6≤B.cb∧B.cb<B.a7∧B.a6≤B.cg∧B.cg<B.a7
 h:B.a7≤B.hd∧B.hd<B.kb∧B.kb<B.a8
def CB.mkP(B:CB)(k:Nat):Prop:=B.a5≤k∧k<B.a8
section
variable{P:Nat→Prop}{w w':World}
theorem Wid.chg(h:Wid w)(hx:Chg P w w')(hg:¬P 0):Wid w':=by
 obtain⟨h0,h1,h2,h3,h4⟩:=h;exact⟨hx.cell hg h0,hx.cell hg h1,hx.cell hg h2,hx.cell hg h3,hx.cell hg h4⟩
theorem Tab.chgT(h:Tab w)(hx:Chg P w w')(hq:¬P 2):Tab w':=fun j hj=>hx.cell hq (h j hj)
theorem Zy.chgB{bb mb gw gb pb gp:Nat}{c:Zh}{t:Nat}{ws:List Int}(h:Zy w bb mb gw gb pb gp c t ws)(hx:Chg P w w')(h1:¬P bb)(h2:¬P mb∧¬P gw∧¬P gb)(h3:¬P pb∧¬P gp)(h4:¬P 0):Zy w' bb mb gw gb pb gp c t ws:=
 ⟨h.box.chg hx h1,h.mem.chg hx h2.1 h2.2.1 h2.2.2,h.plan.chg hx h3.1 h3.2,h.wid.chg hx h4,h.ok,h.ne⟩
theorem Xw.chgP{b rb rg g:Nat}{ms:List Int}(h:Xw w b rb rg g ms)(hx:Chg P w w')(h1:¬P b)(h2:¬P rb∧¬P rg)(h3:¬P g):Xw w' b rb rg g ms:=by
 obtain⟨a,cap,e1,e2,e3,e4,e5⟩:=h.ex;refine⟨hx.cell h1 h.head,⟨a,cap,hx.cell h1 e1,e2.chg hx fun b' o e hp=>?_,e3,e4,fun hp=>⟨(e5 hp).1,fun o=>?_⟩⟩,h.row.chg hx h2.1 fun _=>h2.2,h.small,h.apart,h.two⟩
 ·rw[(e5 hp).1] at e;cases e;exact h3
 ·obtain⟨x,o',e,hc⟩:=e2 0 hp;rw[(e5 hp).1] at e;cases e;rw[hx.frozen (p:=⟨g,o,none⟩) (show g<w.heap.size from Zj hc) h3];exact(e5 hp).2 o
end
structure Yr(w:World)(g:Nat)(hs:List Pe):Prop where
 slot:∀k,k<hs.length→w.cell? ⟨g,k*3,none⟩=some (.int .i64 (Zq hs k).slot)
 fld:∀k,k<hs.length→w.cell? ⟨g,k*3+1,none⟩=some (.int .i64 (Zq hs k).fld)
 is:∀k,k<hs.length→w.cell? ⟨g,k*3+2,none⟩=some (.bool (Zq hs k).is)
 fz:∀o,w.frozen? ⟨g,o,none⟩=false
section
variable{P:Nat→Prop}{w w':World}{g:Nat}{hs:List Pe}
theorem Yr.lt(h:Yr w g hs)(hp:0<hs.length):g<w.heap.size:=Zj (h.slot 0 hp)
theorem Yr.chg(h:Yr w g hs)(hp:0<hs.length)(hx:Chg P w w')(hg:¬P g):Yr w' g hs:=
 ⟨fun k hk=>hx.cell hg (h.slot k hk),fun k hk=>hx.cell hg (h.fld k hk),fun k hk=>hx.cell hg (h.is k hk),fun o=>by rw[hx.frozen (p:=⟨g,o,none⟩) (h.lt hp) hg];exact h.fz o⟩
theorem Yr.set(h:Yr w g hs){k:Nat}(hk:k<hs.length)(v:Pe):Yr (((w.setCell ⟨g,k*3,none⟩ (.int .i64 v.slot)).setCell ⟨g,k*3+1,none⟩ (.int .i64 v.fld)).setCell ⟨g,k*3+2,none⟩ (.bool v.is)) g (hs.set k v):=by
 have oth:∀(W:World) (i o:Nat) (u x:Value),i≠o→W.cell? ⟨g,o,none⟩=some x→(W.setCell ⟨g,i,none⟩ u).cell? ⟨g,o,none⟩=some x:=fun W i o u x hio hc=>by
  rw[Zy0 _ _ _ _ (by intro e;cases e;exact hio rfl)];exact hc
 refine⟨fun j hj=>?_,fun j hj=>?_,fun j hj=>?_,fun o=>by simp only[World.frozen?_setCell];exact h.fz o⟩<;>rw[List.length_set] at hj<;>rw[Rg hk]
 ·refine oth _ _ _ _ _ (by omega) (oth _ _ _ _ _ (by omega) ?_);split
  ·rename_i e;subst e;exact Zyz _ _ _ (h.slot j hj)
  ·exact oth _ _ _ _ _ (by omega) (h.slot j hj)
 ·refine oth _ _ _ _ _ (by omega) ?_;split
  ·rename_i e;subst e;exact Zyz _ _ _ (oth _ _ _ _ _ (by omega) (h.fld j hj))
  ·exact oth _ _ _ _ _ (by omega) (oth _ _ _ _ _ (by omega) (h.fld j hj))
 ·split
  ·rename_i e;subst e;exact Zyz _ _ _ (oth _ _ _ _ _ (by omega) (oth _ _ _ _ _ (by omega) (h.is j hj)))
  ·exact oth _ _ _ _ _ (by omega) (oth _ _ _ _ _ (by omega) (oth _ _ _ _ _ (by omega) (h.is j hj)))
theorem Yr.setFld(h:Yr w g hs){k:Nat}(hk:k<hs.length)(f:Int):Yr (w.setCell ⟨g,k*3+1,none⟩ (.int .i64 f)) g (hs.set k ⟨(Zq hs k).slot,f,(Zq hs k).is⟩):=by
 have oth:∀(W:World) (i o:Nat) (u x:Value),i≠o→W.cell? ⟨g,o,none⟩=some x→(W.setCell ⟨g,i,none⟩ u).cell? ⟨g,o,none⟩=some x:=fun W i o u x hio hc=>by
  rw[Zy0 _ _ _ _ (by intro e;cases e;exact hio rfl)];exact hc
 refine⟨fun j hj=>?_,fun j hj=>?_,fun j hj=>?_,fun o=>by simp only[World.frozen?_setCell];exact h.fz o⟩<;>rw[List.length_set] at hj<;>rw[Rg hk]
 ·refine oth _ _ _ _ _ (by omega) ?_;split
  ·rename_i e;subst e;exact h.slot j hj
  ·exact h.slot j hj
 ·split
  ·rename_i e;subst e;exact Zyz _ _ _ (h.fld j hj)
  ·exact oth _ _ _ _ _ (by omega) (h.fld j hj)
 ·refine oth _ _ _ _ _ (by omega) ?_;split
  ·rename_i e;subst e;exact h.is j hj
  ·exact h.is j hj
end
def mcs(B:CB)(m:MK):List Value:=[(B.bb:Value),(B.pb:Value),(B.tb:Value),(B.nb:Value),(B.cb:Value),(B.gb:Value),.slice (some ⟨B.hd,0,none⟩) m.hs.length B.hcap,.int .i64 (m.root:Int),.bool m.act,.int .i64 (m.steps:Int)]
structure Ye(w:World)(B:CB)(c:Zh)(t n:Nat)(gens:Int)(ws:List Int)(l:List Ent)(ms:List Int)(m:MK):Prop where
 ord:B.Ord
 body:Zy w B.bb B.mb B.gw B.gm B.pb B.gp c t ws
 tab:Si w B.tb B.tg B.tcap gens l
 pin:Xw w B.nb B.nr B.nrg B.ng ms
 pl:ms.length=nS c t
 box:Zn w B.kb (mcs B m)
 hands:Yr w B.hd m.hs
 hl:1≤m.hs.length∧m.hs.length≤9∧m.hs.length≤B.hcap∧B.hcap≤maxLen
 tint:Uy w B.cb B.cg m.fl m.col
 grey:Ri w B.gb B.pb B.gp B.ob B.og B.db B.dg B.rg c t n m.g
 dbr:Tab w
 ok:MOk c t n l m
 st:m.steps<1099511627776
 top:B.a8≤w.heap.size
variable{w w':World}{B:CB}{c:Zh}{t n:Nat}{gens:Int}{ws:List Int}{l:List Ent}{ms:List Int}{m m':MK}
theorem Ye.ko(h:Ye w B c t n gens ws l ms m):KOk c:=h.body.plan.ok
theorem Ye.ti(h:Ye w B c t n gens ws l ms m):t<c.ts.length:=h.body.plan.ti
theorem Ri.chgG{P:Nat→Prop}{b pb gp ob og db dg rg:Nat}{g:GS}(h:Ri w b pb gp ob og db dg rg c t n g)(hx:Chg P w w')(hb:¬P b)(hp:¬P pb∧¬P gp)(ho:¬P ob∧¬P og)(hd:¬P db∧¬P dg)(hr:¬P rg):Ri w' b pb gp ob og db dg rg c t n g:=by
 obtain⟨f,h⟩:=h;exact⟨f,h.chg hx hb hp ho hd hr⟩
theorem Ye.turn{P:Nat→Prop}(h:Ye w B c t n gens ws l ms m)(hx:Chg P w w')(hP:∀k,P k→B.mkP k)
  (box:Zn w' B.kb (mcs B m')) (hands:Yr w' B.hd m'.hs) (hl:m'.hs.length=m.hs.length) (tint:Uy w' B.cb B.cg m'.fl m'.col) (grey:Ri w' B.gb B.pb B.gp B.ob B.og B.db B.dg B.rg c t n m'.g)
  (ok:MOk c t n l m') (st:m'.steps<1099511627776):Ye w' B c t n gens ws l ms m':=by
 obtain⟨o1,o2,o3,o4,o5,o6,o7,o8,o9,o10⟩:=h.ord;have hQ:∀k,(k<B.a5∨B.a8≤k)→¬P k:=fun k hk q=>by have:=hP k q;unfold CB.mkP at this;omega
 exact⟨h.ord,h.body.chgB hx (hQ _ (by omega)) ⟨hQ _ (by omega),hQ _ (by omega),hQ _ (by omega)⟩ ⟨hQ _ (by omega),hQ _ (by omega)⟩ (hQ _ (by omega)),h.tab.chg hx (hQ _ (by omega)) (hQ _ (by omega)),
  h.pin.chgP hx (hQ _ (by omega)) ⟨hQ _ (by omega),hQ _ (by omega)⟩ (hQ _ (by omega)),h.pl,box,hands,by rw[hl];exact h.hl,tint,grey,h.dbr.chgT hx (hQ _ (by omega)),ok,st,Zy6 h.top hx.size⟩
theorem Ye.chg{P:Nat→Prop}(h:Ye w B c t n gens ws l ms m)(hx:Chg P w w')(hP:∀k,k<B.a8→¬P k):Ye w' B c t n gens ws l ms m:=by
 obtain⟨o1,o2,o3,o4,o5,o6,o7,o8,o9,o10⟩:=h.ord;exact⟨h.ord,h.body.chgB hx (hP _ (by omega)) ⟨hP _ (by omega),hP _ (by omega),hP _ (by omega)⟩ ⟨hP _ (by omega),hP _ (by omega)⟩ (hP _ (by omega)),h.tab.chg hx (hP _ (by omega)) (hP _ (by omega)),
  h.pin.chgP hx (hP _ (by omega)) ⟨hP _ (by omega),hP _ (by omega)⟩ (hP _ (by omega)),h.pl,h.box.chg hx (hP _ (by omega)),h.hands.chg h.hl.1 hx (hP _ (by omega)),h.hl,h.tint.chg hx (hP _ (by omega)) (hP _ (by omega)),
  h.grey.chgG hx (hP _ (by omega)) ⟨hP _ (by omega),hP _ (by omega)⟩ ⟨hP _ (by omega),hP _ (by omega)⟩ ⟨hP _ (by omega),hP _ (by omega)⟩ (hP _ (by omega)),h.dbr.chgT hx (hP _ (by omega)),h.ok,h.st,Zy6 h.top hx.size⟩
theorem Ye.lt(h:Ye w B c t n gens ws l ms m):B.kb<w.heap.size:=h.box.lt
theorem Ye.ext(h:Ye w B c t n gens ws l ms m)(hx:Ext w w'):Ye w' B c t n gens ws l ms m:=h.chg (P:=fun _=>False) (Zy3 hx) (fun _ _ a=>a)
end
section
variable{w w':World}{B:CB}{c:Zh}{t n:Nat}{gens:Int}{ws:List Int}{l:List Ent}{ms:List Int}{m m':MK}
theorem Ye.tintTo{col':List Nat}{fl':Nat}(h:Ye w B c t n gens ws l ms m)(ht:Uy w' B.cb B.cg fl' col')(hx:Chg (tiB B.cb B.cg) w w')(hl:col'.length=nS c t):Ye w' B c t n gens ws l ms { m with col:=col',fl:=fl' }∧Chg B.mkP w w':=by
 obtain⟨o1,o2,o3,o4,o5,o6,o7,o8,o9,o10⟩:=h.ord;have hP:∀k,tiB B.cb B.cg k→B.mkP k:=fun k q=>by unfold tiB at q;unfold CB.mkP;omega
 have hQ:∀k,k<B.a6∨B.a7≤k→¬tiB B.cb B.cg k:=fun k hk q=>by unfold tiB at q;omega
 exact⟨h.turn hx hP (h.box.chg hx (hQ _ (by omega))) (h.hands.chg h.hl.1 hx (hQ _ (by omega))) rfl ht
  (h.grey.chgG hx (hQ _ (by omega)) ⟨hQ _ (by omega),hQ _ (by omega)⟩ ⟨hQ _ (by omega),hQ _ (by omega)⟩ ⟨hQ _ (by omega),hQ _ (by omega)⟩ (hQ _ (by omega))) ⟨hl,h.ok.g,h.ok.d,h.ok.hd,h.ok.rt⟩ h.st,hx.mono hP⟩
theorem Ye.greyTo{g':GS}(h:Ye w B c t n gens ws l ms m)(hg:Ri w' B.gb B.pb B.gp B.ob B.og B.db B.dg B.rg c t n g')(hx:Chg (grB B.gb B.og B.dg B.rg) w w')(h1:GOk c t n g')(h2:DOk c t g'):Ye w' B c t n gens ws l ms { m with g:=g' }∧Chg B.mkP w w':=by
 obtain⟨o1,o2,o3,o4,o5,o6,o7,o8,o9,o10⟩:=h.ord;have hP:∀k,grB B.gb B.og B.dg B.rg k→B.mkP k:=fun k q=>by unfold grB at q;unfold CB.mkP;omega
 have hQ:∀k,k<B.a5∨B.a6≤k→¬grB B.gb B.og B.dg B.rg k:=fun k hk q=>by unfold grB at q;omega
 exact⟨h.turn hx hP (h.box.chg hx (hQ _ (by omega))) (h.hands.chg h.hl.1 hx (hQ _ (by omega))) rfl (h.tint.chg hx (hQ _ (by omega)) (hQ _ (by omega))) hg ⟨h.ok.cl,h1,h2,h.ok.hd,h.ok.rt⟩ h.st,hx.mono hP⟩
theorem Ye.handsTo{hs':List Pe}(h:Ye w B c t n gens ws l ms m)(hh:Yr w' B.hd hs')(hx:Chg (fun k=>k=B.hd) w w')(hl:hs'.length=m.hs.length)(hd:∀k,Ztd c t (Zq hs' k)):Ye w' B c t n gens ws l ms { m with hs:=hs' }∧Chg B.mkP w w':=by
 obtain⟨o1,o2,o3,o4,o5,o6,o7,o8,o9,o10⟩:=h.ord;have hP:∀k,(fun k=>k=B.hd) k→B.mkP k:=fun k q=>by simp only at q;unfold CB.mkP;omega
 have hQ:∀k,k<B.a7∨B.kb≤k→¬(fun k=>k=B.hd) k:=fun k hk q=>by simp only at q;omega
 refine⟨h.turn (m':={ m with hs:=hs' }) hx hP ?_ hh hl (h.tint.chg hx (hQ _ (by omega)) (hQ _ (by omega)))
  (h.grey.chgG hx (hQ _ (by omega)) ⟨hQ _ (by omega),hQ _ (by omega)⟩ ⟨hQ _ (by omega),hQ _ (by omega)⟩ ⟨hQ _ (by omega),hQ _ (by omega)⟩ (hQ _ (by omega))) ⟨h.ok.cl,h.ok.g,h.ok.d,hd,h.ok.rt⟩ h.st,hx.mono hP⟩
 have:=h.box.chg hx (hQ _ (by omega));unfold mcs at this ⊢;simp only[hl];exact this
theorem Ye.boxTo(h:Ye w B c t n gens ws l ms m){r s:Nat}{a:Bool}(hb:Zn w' B.kb (mcs B { m with root:=r,act:=a,steps:=s }))(hx:Chg (fun k=>k=B.kb) w w')(hr:r≤Xy c t l)(hs:s<1099511627776):Ye w' B c t n gens ws l ms { m with root:=r,act:=a,steps:=s }∧Chg B.mkP w w':=by
 obtain⟨o1,o2,o3,o4,o5,o6,o7,o8,o9,o10⟩:=h.ord;have hP:∀k,(fun k=>k=B.kb) k→B.mkP k:=fun k q=>by simp only at q;unfold CB.mkP;omega
 have hQ:∀k,k<B.kb→¬(fun k=>k=B.kb) k:=fun k hk q=>by simp only at q;omega
 exact⟨h.turn (m':={ m with root:=r,act:=a,steps:=s }) hx hP hb (h.hands.chg h.hl.1 hx (hQ _ (by omega))) rfl (h.tint.chg hx (hQ _ (by omega)) (hQ _ (by omega)))
  (h.grey.chgG hx (hQ _ (by omega)) ⟨hQ _ (by omega),hQ _ (by omega)⟩ ⟨hQ _ (by omega),hQ _ (by omega)⟩ ⟨hQ _ (by omega),hQ _ (by omega)⟩ (hQ _ (by omega))) ⟨h.ok.cl,h.ok.g,h.ok.d,h.ok.hd,hr⟩ hs,hx.mono hP⟩
theorem Mm(h:Ye w B c t n gens ws l ms m):Calls prog 222 #[B.kb] w fun e w'=>e=.returned (.bool false)∧w=w':=by
 have c5:=h.box.c 5 _ rfl;clear h;go_enter func222,ntmps222;go_wp2;go_ret;exact⟨rfl,rfl⟩
theorem X8{a:Bool}(h:Ye w B c t n gens ws l ms m)(ha:m.act=a):Calls prog 265 #[B.kb] w fun e w'=>e=.returned (.bool a)∧w=w':=by
 have c8:w.cell? ⟨B.kb,8,none⟩=some (.bool a):=by rw[←ha];exact h.box.c 8 _ rfl
 have H:=Za h;clear h ha;go_enter func265,ntmps265;go_wp2_with fail;refine(Mm H.out).zz ?_;go_wp2;go_ret;exact⟨rfl,rfl⟩
theorem I7{s p k:Int}(h:Ye w B c t n gens ws l ms m)(hr:Iv m.col s=(p,k)):Calls prog 185 #[B.kb,.int .i64 s] w fun e w'=>e=.returned (.tuple #[.int .u8 p,.int .i64 k])∧w=w':=by
 obtain⟨xs,ht⟩:=h.tint;have c4:=h.box.c 4 _ rfl;have H:=Za h;have OF:=Za (Cp ht hr);clear h ht hr;go_enter func185,ntmps185;go_wp2_with fail;refine(Mm H.out).zz ?_;go_wp2_with fail;refine(OF.out).zz ?_;go_wp2;go_ret2;exact⟨rfl,rfl⟩
theorem Fy{r:Nat}(h:Ye w B c t n gens ws l ms m)(hr:Xy c t l=r):Calls prog 301 #[B.kb] w fun e w'=>e=.returned (.int .i64 r)∧Ext w w':=by
 have c2:=h.box.c 2 _ rfl;have c1:=h.box.c 1 _ rfl;obtain⟨a,ha⟩:=Zb (l.length);obtain⟨b,hb⟩:∃a,nS c t=a:=⟨_,rfl⟩;have sn:=h.ko.nS_eq h.ti;have sl:=h.ko.nS_le h.ti;have tl:=h.tab.len;unfold Xy at hr;rw[ha,hb] at hr;rw[hb] at sn sl;rw[ha] at tl;have LN:=Za (fun W (x:Ext w W)=>I5 (h.tab.ext x) ha);have SL:=Za (fun W (x:Ext w W)=>Yx (b:Int) sn.symm (h.body.plan.ext x));clear h ha hb sn;subst hr;have k2:=fun d os=>cell_regrown c2 d os;have k1:=fun d os=>cell_regrown c1 d os
 go_enter func301,ntmps301;go_wp2_with fail;refine wp_region_quiet_below (by kernel_rfl) (by kernel_rfl) ?_
 repeat (any_goals (first|go_big_quiet_step (first|(go_at_call 18;with_reducible exact Vp (LN.out _ (Zk _ _ _)))|(go_at_call 81;with_reducible exact Vp (SL.out _ (Zk _ _ _))))|quiet_step (first|(go_at_call 18;with_reducible exact Vp (LN.out _ (Zk _ _ _)))|(go_at_call 81;with_reducible exact Vp (SL.out _ (Zk _ _ _))))))
 refine Zc fun WQ xq=>?_;go_wp2;go_ret;exact⟨rfl,xq⟩
theorem Zqy{g:GS}(h:Ye w B c t n gens ws l ms m)(s:Int)(hg:m.g=g):GOk c t n (Zck c t n g s).1∧DOk c t (Zck c t n g s).1:=by
 subst hg;exact⟨Zdc h.ok.g s,Zfq h.ko h.ti h.ok.g h.ok.d s⟩
theorem Lw{s:Int}(h:Ye w B c t n gens ws l ms m):Calls prog 339 #[B.kb,.int .i64 s] w fun e w'=>e=.returned (.tuple #[])∧Ye w' B c t n gens ws l ms (Xi c t n m s)∧Chg B.mkP w w':=by
 obtain⟨xs,ht⟩:=h.tint;have c4:=h.box.c 4 _ rfl;have c5:=h.box.c 5 _ rfl;have H:=Za h;have tl:=ht.len;have ol:=h.ok.cl;unfold Xi;by_cases hs:0≤s∧s<(nS c t:Int)∧Ip m.col s.toNat=0
 ·rw[if_pos hs];obtain⟨k,rfl⟩:=Int.eq_ofNat_of_zero_le hs.1;rw[Zy4] at hs ⊢;have hk:k<xs.length:=by omega
  have SH:=Za (Zia ht hk hs.2.2);have o:=h.ord;have nk:¬tiB B.cb B.cg B.kb:=fun q=>by unfold tiB at q;have:=o.c;have:=o.h;omega
  have NK:=Za nk;obtain⟨g',e',hp⟩:∃g' e',Zck c t n m.g (k:Int)=(g',e'):=⟨_,_,rfl⟩;have HP:=Za hp;rw[hp];clear h ht hs nk o hp;go_enter func339,ntmps339;go_wp2_with fail;refine SH.out.mono ?_;rintro e w1 ⟨rfl,h1,x1⟩;have h2:=H.out.tintTo h1 x1 (by rw[List.length_set];exact ol);obtain⟨f,hg⟩:=h2.1.grey;have PU:=Za (Zqb hg HP.out);have OK:=Za (by have:=Zqy H.out (k:Int) rfl;rw[HP.out] at this;exact this);have H2:=Za h2;replace c5:=x1.cell NK.out c5;clear h1 x1 h2 hg c4;go_wp2_with fail;refine PU.out.mono ?_;rintro e w2 ⟨rfl,h3,x3⟩;have h4:=H2.out.1.greyTo h3 x3 OK.out.1 OK.out.2;go_wp2
  go_end0
  exact⟨rfl,h4.1,H2.out.2.trans h4.2⟩
 ·rw[if_neg hs];obtain⟨p,k,hpk⟩:∃p k,Iv m.col s=(p,k):=⟨_,_,rfl⟩;have key:(k≠0∨p≠0)∧(k=0∨k=2)∧0≤p∧p≤2:=by
   unfold Iv at hpk;by_cases hr:0≤s∧s<(m.col.length:Int)
   ·rw[if_pos hr] at hpk;cases hpk;obtain⟨j,rfl⟩:=Int.eq_ofNat_of_zero_le hr.1;have cj:=ht.col j (by omega);rw[Zy4] at hs ⊢;have c3:Ip m.col j≤2:=by rw[cj];unfold Zh9;(repeat' split)<;>omega
    refine⟨.inr fun e=>hs ⟨hr.1,by omega,by omega⟩,.inl rfl,by omega,by omega⟩
   ·rw[if_neg hr] at hpk;cases hpk;exact⟨.inl (by decide),.inr rfl,by omega,by omega⟩
  have SH:=Za (Cq ht hpk key.1 key.2.1 key.2.2);clear h ht hs key hpk;go_enter func339,ntmps339;go_wp2_with fail;refine SH.out.zz ?_;go_wp2
  go_end0
  exact⟨rfl,H.out,Chg.refl _ _⟩
end
end Go.Proofs.YtfcldaembdedjaaGreatDoor
