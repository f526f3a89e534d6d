/-
  Parts of the proof of TopCycles: Pace, Capa, Capa2, Capa3, Capa4, Hp, Hp2, Hp3, TopK, Real, BodyW.
-/
import Derived.Test.YtfcldaembdedjaaGreatDoorQ10
import Derived.Laws.Externs
set_option linter.unusedVariables false
set_option linter.unusedSimpArgs false
set_option maxRecDepth 100000
set_option maxHeartbeats 16000000
namespace Go.Proofs.YtfcldaembdedjaaGreatDoor
open Go.RowKit Tryz
section
variable{w w':World}{b:Nat}{p:PC}
def pks(p:PC):List Value:=[.int .i64 p.tr,.int .i64 p.sst,.int .i64 p.since,.int .i64 p.total,.int .i64 p.debt,.int .i64 p.cyc,.bool p.act]
structure POk(p:PC):Prop where
 tr:1≤p.tr∧p.tr≤1048576
 ss:0≤p.sst∧p.sst≤1024
 si:0≤p.since∧p.since<1099511627776
 «to»:0≤p.total∧p.total<1099511627776
 de:0≤p.debt∧p.debt<1099511627776
 cy:0≤p.cyc∧p.cyc<1099511627776
abbrev Wd(w:World)(b:Nat)(p:PC):Prop:=Zn w b (pks p)
theorem Up(h:Wd w b p){q:PC}{i:Nat}{v:Value}(hi:i<7)(e:(pks p).set i v=pks q):Wd (w.setCell ⟨b,i,none⟩ v) b q:=by
 have:=h.set (i:=i) (by simp[pks];exact hi) v;rw[e] at this;exact this
theorem Uz(h:Wd w b p)(ok:POk p):Calls prog 192 #[b] w fun e w'=>e=.returned (.bool false)∧w=w':=by
 have c0:=h.c 0 _ rfl;have tr:=ok.tr.1;have t1:(p.tr==0)=false:=by simp;omega
 clear h ok;go_enter func192,ntmps192;go_wp2;go_ret;exact⟨rfl,rfl⟩
theorem Znb(h:Wd w b p)(ok:POk p):Calls prog 326 #[b] w fun e w'=>e=.returned (.int .i64 p.debt)∧w=w':=by
 have c0:=h.c 4 _ rfl;have H:=Za h;have OK:=Za ok;clear h ok;go_enter func326,ntmps326;go_wp2_with fail;refine(Uz H.out OK.out).zz ?_;go_wp2;go_ret;exact⟨rfl,rfl⟩
theorem Zi7(h:Wd w b p)(ok:POk p):Calls prog 152 #[b] w fun e w'=>e=.returned (.int .i64 p.since)∧w=w':=by
 have c0:=h.c 2 _ rfl;have H:=Za h;have OK:=Za ok;clear h ok;go_enter func152,ntmps152;go_wp2_with fail;refine(Uz H.out OK.out).zz ?_;go_wp2;go_ret;exact⟨rfl,rfl⟩
theorem Zec(h:Wd w b p)(ok:POk p):Calls prog 153 #[b] w fun e w'=>e=.returned (.int .i64 p.cyc)∧w=w':=by
 have c0:=h.c 5 _ rfl;have H:=Za h;have OK:=Za ok;clear h ok;go_enter func153,ntmps153;go_wp2_with fail;refine(Uz H.out OK.out).zz ?_;go_wp2;go_ret;exact⟨rfl,rfl⟩
theorem Zed(h:Wd w b p)(ok:POk p):Calls prog 154 #[b] w fun e w'=>e=.returned (.bool p.act)∧w=w':=by
 have c0:=h.c 6 _ rfl;have H:=Za h;have OK:=Za ok;clear h ok;go_enter func154,ntmps154;go_wp2_with fail;refine(Uz H.out OK.out).zz ?_;go_wp2;go_ret;exact⟨rfl,rfl⟩
theorem Kp{v:Bool}{f:Value}(h:Wd w b p)(ok:POk p)(ha:p.act=v):Calls prog 370 #[b,v,f] w fun e w'=>e=.returned (.int .i64 9)∧w=w':=by
 have c6:=h.c 6 _ rfl;have H:=Za h;have OK:=Za ok;rw[ha] at c6;clear h ok ha;go_enter func370,ntmps370;go_wp2_with fail;refine(Uz H.out OK.out).zz ?_;go_wp2;go_ret;exact⟨rfl,rfl⟩
theorem Bk:Zi prog 373:=Zi.mk func373 (by kernel_rfl) rfl
theorem Zee:Zi prog 371:=Zi.mk func371 (by kernel_rfl) rfl
theorem Zef:Calls prog 373 #[] w fun e w'=>e=.returned (.tuple #[])∧w=w':=by
 go_enter func373,ntmps373;go_wp2
 go_end0
 exact⟨rfl,rfl⟩
theorem Ztk(w:World)(b i:Nat)(x:Value):Chg (fun k=>k=b) w (w.setCell ⟨b,i,none⟩ x):=Chg.setCell (P:=fun k=>k=b) (p:=⟨b,i,none⟩) (Chg.refl _ w) (.inl rfl) x
theorem Zyf(w:World)(b i j:Nat)(x y:Value):Chg (fun k=>k=b) w ((w.setCell ⟨b,i,none⟩ x).setCell ⟨b,j,none⟩ y):=(Ztk w b i x).trans (Ztk _ b j y)
theorem Zyq(w:World)(b i j k:Nat)(x y z:Value):Chg (fun m=>m=b) w (((w.setCell ⟨b,i,none⟩ x).setCell ⟨b,j,none⟩ y).setCell ⟨b,k,none⟩ z):=(Zyf w b i j x y).trans (Ztk _ b k z)
def Hn(b:Nat)(q:PC)(v:Value)(w:World)(e:Ending)(w':World):Prop:=e=.returned v∧Wd w' b q∧Chg (fun k=>k=b) w w'
theorem Zbt{v:Bool}{g:Nat}{cs:Array Value}{q:PC}(h:Wd w b p)(ok:POk p)(ha:p.act=!v)(hk:Zi prog g)
  (hg:∀W,Chg (fun k=>k=b) w W→Wd W b { p with act:=v,since:=0,debt:=0 }→Calls prog g cs W (Hn b q (.tuple #[]) W)) :
  Calls prog 370 #[b,v,.func (.func g) #[] cs] w (Hn b q (.int .i64 0) w):=by
 unfold Zi at hk;have c6:=h.c 6 _ rfl;have f2:=h.f 2;have f4:=h.f 4;have f6:=h.f 6;have H:=Za h;have OK:=Za ok;have HG:=Za hg;rw[ha] at c6;have c2:=h.c 2 _ rfl;have c4:=h.c 4 _ rfl;have B1:=Za (fun W (e:Wd W b p)=>Up (q:={ p with act:=v }) e (i:=6) (v:=.bool v) (by decide) rfl);have B2:=Za (fun W (e:Wd W b { p with act:=v })=>Up (q:={ p with act:=v,since:=0 }) e (i:=2) (v:=.int .i64 0) (by decide) rfl);have B3:=Za (fun W (e:Wd W b { p with act:=v,since:=0 })=>Up (q:={ p with act:=v,since:=0,debt:=0 }) e (i:=4) (v:=.int .i64 0) (by decide) rfl);have CX:=Za (Zyq w b 6 2 4 (.bool v) (.int .i64 0) (.int .i64 0));clear h ok ha hg;cases v
 all_goals
  go_enter func370,ntmps370;go_wp2_with fail;refine(Uz H.out OK.out).zz ?_;go_wp2_with fail;have bx:=B3.out _ (B2.out _ (B1.out _ H.out));have cx:=CX.out;refine(HG.out _ cx bx).mono ?_;rintro e w1 ⟨rfl,h1,h2⟩;have H1:=Za h1;have H2:=Za (cx.trans h2);clear h1 h2 bx cx;go_wp2;go_ret;exact⟨rfl,H1.out,H2.out⟩
theorem Zi8(h:Wd w b p)(ok:POk p):Calls prog 348 #[b] w fun e w'=>∃k:Int,Hn b (Zar p) (.int .i64 k) w e w':=by
 unfold Zar;by_cases ha:p.act=true
 ·rw[if_pos ha];have T:=Za (Kp (f:=.func (.func 373) #[] #[]) h ok ha);have H:=Za h;clear h ok ha;go_enter func348,ntmps348;go_wp2_with fail;refine(T.out).zz ?_;go_wp2;go_ret;exact⟨9,rfl,H.out,Chg.refl _ _⟩
 ·rw[if_neg ha];have T:=Za (Zbt (v:=true) (g:=373) (cs:=#[]) (q:={ p with act:=true,since:=0,debt:=0 }) h ok (by simpa using ha) Bk (fun W _ hW=>Zef.mono fun e w' ⟨h1,h2⟩=>⟨h1,h2▸hW,h2▸Chg.refl _ _⟩));clear h ok ha;go_enter func348,ntmps348;go_wp2_with fail;refine T.out.mono ?_;rintro e w1 ⟨rfl,h1,h2⟩;go_wp2;go_ret;exact⟨0,rfl,h1,h2⟩
theorem Znc{z:Nat}(h:Wd w b p)(ok:POk p)(hz:w.cell? z=some (b:Value)):Calls prog 371 #[z] w (Hn b { p with cyc:=p.cyc+1 } (.tuple #[]) w):=by
 have c5:=h.c 5 _ rfl;have f5:=h.f 5;have cy:=ok.cy;have AD:=Za (fun w=>Bj (a:=p.cyc) (b:=1) (s:=p.cyc+1) ⟨by omega,by omega⟩ ⟨by omega,by omega⟩ rfl (w:=w));have FIN:=Za (And.intro ((Up (q:={ p with cyc:=p.cyc+1 }) h (i:=5) (v:=.int .i64 (p.cyc+1)) (by decide) rfl).ext (Zy2 _).drew) (Ztk w b 5 (.int .i64 (p.cyc+1))).drew);clear h ok cy;go_enter func371,ntmps371;go_wp2_with fail
 go_region_with (go_at_call 359;refine(AD.out _).zz ?_)
 all_goals
  go_end0
  exact⟨rfl,FIN.out.1,FIN.out.2⟩
theorem Zrd(h:Wd w b p)(ok:POk p):Calls prog 346 #[b] w fun e w'=>∃k:Int,Hn b (Zwa p) (.int .i64 k) w e w':=by
 obtain⟨z,hz⟩:=Zb (w.heap.size);obtain⟨W0,hW0⟩:∃W,w.alloc (.cells #[b] 108)=W:=⟨_,rfl⟩;have x0:Ext w W0:=by rw[←hW0];exact(Zy2 _).alloc _
 have cz:W0.cell? z=some (b:Value):=by rw[←hW0,←hz];exact Zr w _ _
 have bz:b≠z:=by have:=h.lt;omega
 have X0:=Za x0;unfold Zwa;by_cases ha:p.act=true
 ·rw[if_pos ha];have T:=Za (Zbt (v:=false) (g:=371) (cs:=#[(z:Value)]) (q:={ p with act:=false,since:=0,debt:=0,cyc:=p.cyc+1 }) (h.ext x0) ok (by simpa using ha) Zee (fun W hc hW=>by
   exact Znc (p:={ p with act:=false,since:=0,debt:=0 }) hW ⟨ok.tr,ok.ss,⟨Int.le_refl _,(by decide:(0:Int)<1099511627776)⟩,ok.to,⟨Int.le_refl _,(by decide:(0:Int)<1099511627776)⟩,ok.cy⟩ (hc.cell (fun e=>bz e.symm) cz)))
  clear h ok ha x0;go_enter func346,ntmps346;go_wp2_with fail;refine T.out.mono ?_;rintro e w1 ⟨rfl,h1,h2⟩;go_wp2;go_ret;exact⟨0,rfl,h1,(Zy3 X0.out).trans h2⟩
 ·rw[if_neg ha];have T:=Za (Kp (f:=.func (.func 371) #[] #[z]) (v:=false) (h.ext x0) ok (by simpa using ha));have H:=Za (h.ext x0);clear h ok ha x0;go_enter func346,ntmps346;go_wp2_with fail;refine T.out.zz ?_;go_wp2;go_ret;exact⟨9,rfl,H.out,Zy3 X0.out⟩
theorem Zre{k:Int}(h:Wd w b p)(ok:POk p)(hk:0≤k∧k<1099511627776):Calls prog 328 #[b,.int .i64 k] w fun e w'=>∃v:Int,Hn b (Zlj p k) (.int .i64 v) w e w':=by
 have c4:=h.c 4 _ rfl;have f4:=h.f 4;have de:=ok.de;obtain⟨k0,k1⟩:=hk;obtain⟨d,hd⟩:=Zb ((if p.debt≤k then 0 else p.debt-k));have SU:=Za (fun w=>Zul (a:=p.debt) (b:=k) (s:=d) ⟨by omega,by omega⟩ ⟨by omega,by omega⟩ hd (w:=w));have t1:(if 0<k then k else 0)=k:=by split<;>omega
 have t2:(if k<0 then 0 else k)=k:=by split<;>omega
 have FIN:=Za (And.intro (Up (q:=Zlj p k) h (i:=4) (v:=.int .i64 d) (by decide) (by unfold Zlj;rw[hd];rfl)) (Ztk w b 4 (.int .i64 d)));have H:=Za h;have OK:=Za ok;have d0:0≤d∧d<1099511627776:=by rw[←hd];split<;>omega
 obtain⟨d0,d1⟩:=d0;clear h ok de hd;go_enter func328,ntmps328;go_wp2_with fail;refine(Uz H.out OK.out).zz ?_;go_wp2_with fail;refine(SU.out _).zz ?_;go_wp2_with fail
 all_goals
  go_ret;exact⟨_,rfl,FIN.out.1,FIN.out.2⟩
theorem Zrf{k d tr ss si tq de cy:Int}{ac:Bool}{q:PC}(h:Wd w b ⟨tr,ss,si,tq,de,cy,ac⟩)(ok:POk ⟨tr,ss,si,tq,de,cy,ac⟩)(hk:1≤k∧k≤64)(hr:Zdg ⟨tr,ss,si,tq,de,cy,ac⟩ k=(q,d)):Calls prog 325 #[b,.int .i64 k] w (Hn b q (.tuple #[.int .u8 d,(0:Int)]) w):=by
 have H:=Za h;have OK:=Za ok;have c0:w.cell? b=some (.int .i64 tr):=h.c 0 _ rfl;have c1:w.cell? ⟨b,1,none⟩=some (.int .i64 ss):=h.c 1 _ rfl;have c2:w.cell? ⟨b,2,none⟩=some (.int .i64 si):=h.c 2 _ rfl;have c3:w.cell? ⟨b,3,none⟩=some (.int .i64 tq):=h.c 3 _ rfl;have c4:w.cell? ⟨b,4,none⟩=some (.int .i64 de):=h.c 4 _ rfl;have c6:w.cell? ⟨b,6,none⟩=some (.bool ac):=h.c 6 _ rfl;have f2:=h.f 2;have f3:=h.f 3;have f4:=h.f 4;obtain⟨⟨tr0,tr1⟩,⟨ss0,ss1⟩,⟨si0,si1⟩,⟨to0,to1⟩,⟨de0,de1⟩,_⟩:=ok;simp only at tr0 tr1 ss0 ss1 si0 si1 to0 to1 de0 de1;obtain⟨k0,k1⟩:=hk;have km:0≤k*ss∧k*ss≤65536:=by
  refine⟨Int.mul_nonneg (by omega) ss0,?_⟩;have h1:=Int.mul_le_mul_of_nonneg_right (c:=ss) k1 ss0;omega
 obtain⟨m,hm⟩:=Zb (k*ss);rw[hm] at km;obtain⟨s1,hs1⟩:∃s,si+k=s:=⟨_,rfl⟩;obtain⟨t1,ht1⟩:∃s,tq+k=s:=⟨_,rfl⟩;obtain⟨d1,hd1⟩:∃s,de+m=s:=⟨_,rfl⟩;have A1:=Za (fun w=>Bj (a:=si) (b:=k) (s:=s1) ⟨by omega,by omega⟩ ⟨by omega,by omega⟩ hs1 (w:=w));have A2:=Za (fun w=>Bj (a:=tq) (b:=k) (s:=t1) ⟨by omega,by omega⟩ ⟨by omega,by omega⟩ ht1 (w:=w));have MU:=Za (fun w=>Zum (a:=k) (b:=ss) (s:=m) ⟨by omega,by omega⟩ ⟨by omega,by omega⟩ hm (w:=w));have A3:=Za (fun w=>Bj (a:=de) (b:=m) (s:=d1) ⟨by omega,by omega⟩ ⟨by omega,by omega⟩ hd1 (w:=w));simp only[Zdg,hs1,ht1,hm,hd1] at hr;have HR:=Za hr;have t0:decide (k<1)=false:=Zyx (by omega);clear h hr hm hs1 ht1 hd1 km;go_enter func325,ntmps325;go_wp2_with fail;refine(Uz H.out OK.out).zz ?_;go_wp2_with fail
 go_region_with (go_at_call 359;first|(with_reducible refine(A1.out _).zz ?_)|(with_reducible refine(A2.out _).zz ?_))
 all_goals
  have B2:=Za ((Up (p:=⟨tr,ss,s1,tq,de,cy,ac⟩) (q:=⟨tr,ss,s1,t1,de,cy,ac⟩) (Up (q:=⟨tr,ss,s1,tq,de,cy,ac⟩) H.out (i:=2) (v:=.int .i64 s1) (by decide) rfl) (i:=3) (v:=.int .i64 t1) (by decide) rfl).ext (Zy2 _).drew);have X2:=Za (Zyf w b 2 3 (.int .i64 s1) (.int .i64 t1)).drew;obtain⟨W2,hW2⟩:∃W,((w.setCell ⟨b,2,none⟩ (.int .i64 s1)).setCell ⟨b,3,none⟩ (.int .i64 t1)).drew=W:=⟨_,rfl⟩;rw[hW2] at B2 X2 ⊢;clear hW2 c0 c1 c2 c3 c4 c6 f2 f3 f4 H;have c0:W2.cell? b=some (.int .i64 tr):=B2.out.c 0 _ rfl;have c1:W2.cell? ⟨b,1,none⟩=some (.int .i64 ss):=B2.out.c 1 _ rfl;have c2:W2.cell? ⟨b,2,none⟩=some (.int .i64 s1):=B2.out.c 2 _ rfl;have c4:W2.cell? ⟨b,4,none⟩=some (.int .i64 de):=B2.out.c 4 _ rfl;have c6:W2.cell? ⟨b,6,none⟩=some (.bool ac):=B2.out.c 6 _ rfl;have f2:=B2.out.f 2;have f4:=B2.out.f 4;cases ac
  ·go_wp2_with fail;by_cases hs:s1<tr
   ·have t2:decide (s1<tr)=true:=Zyy hs;have hr:=HR.out;rw[if_pos hs] at hr;cases hr
    go_quiet (fail)
    go_wp2;go_ret2;exact⟨rfl,B2.out.ext ((Zy2 _).drewN _),X2.out.drewN _⟩
   ·have t2:decide (s1<tr)=false:=Zyx hs;have hr:=HR.out;rw[if_neg hs] at hr;cases hr
    go_quiet (fail)
    go_wp2;go_ret2;exact⟨rfl,Up (q:=⟨tr,ss,0,t1,de,cy,false⟩) (B2.out.ext ((Zy2 _).drewN _)) (i:=2) (v:=.int .i64 0) (by decide) rfl,(X2.out.drewN _).trans (Ztk _ b 2 _)⟩
  ·go_wp2_with fail
   go_region_with (first|(go_at_call 360;with_reducible refine(MU.out _).zz ?_)|(go_at_call 359;with_reducible refine(A3.out _).zz ?_))
   all_goals
    have B4:=Za ((Up (p:=⟨tr,ss,s1,t1,de,cy,true⟩) (q:=⟨tr,ss,s1,t1,d1,cy,true⟩) B2.out (i:=4) (v:=.int .i64 d1) (by decide) rfl).ext (Zy2 _).drew);have X4:=Za (X2.out.trans (Ztk W2 b 4 (.int .i64 d1)).drew);obtain⟨W4,hW4⟩:∃W,(W2.setCell ⟨b,4,none⟩ (.int .i64 d1)).drew=W:=⟨_,rfl⟩;rw[hW4] at B4 X4 ⊢;clear hW4 c0 c1 c2 c4 c6 f2 f4;have c0:W4.cell? b=some (.int .i64 tr):=B4.out.c 0 _ rfl;have c2:W4.cell? ⟨b,2,none⟩=some (.int .i64 s1):=B4.out.c 2 _ rfl;have f2:=B4.out.f 2;go_wp2_with fail;by_cases hs:s1<tr
    ·have t2:decide (s1<tr)=true:=Zyy hs;have hr:=HR.out;simp only[if_true] at hr;rw[if_pos hs] at hr;cases hr
     go_quiet (fail)
     go_wp2;go_ret2;exact⟨rfl,B4.out.ext ((Zy2 _).drewN _),X4.out.drewN _⟩
    ·have t2:decide (s1<tr)=false:=Zyx hs;have hr:=HR.out;simp only[if_true] at hr;rw[if_neg hs] at hr;cases hr
     go_quiet (fail)
     go_wp2;go_ret2;exact⟨rfl,Up (q:=⟨tr,ss,0,t1,d1,cy,true⟩) (B4.out.ext ((Zy2 _).drewN _)) (i:=2) (v:=.int .i64 0) (by decide) rfl,(X4.out.drewN _).trans (Ztk _ b 2 _)⟩
theorem Zrg{tr ss cp q:Int}(ht:1≤tr∧tr≤1048576)(hs:0≤ss∧ss≤1024):Calls prog 105 #[.agg #[.int .i64 q,.int .i64 tr,.int .i64 cp,.int .i64 ss]] w fun e w'=>∃b,e=.returned (.tuple #[.pointer (some ⟨b,0,none⟩),(0:Int)])∧Wd w' b ⟨tr,ss,0,0,0,0,false⟩∧Ext w w'∧w.heap.size≤b:=by
 obtain⟨ht0,ht1⟩:=ht;obtain⟨hs0,hs1⟩:=hs;have t1:decide (tr<1)=false:=Zyx (by omega);have t2:decide (1048576<tr)=false:=Zyx (by omega);have t3:decide (ss<0)=false:=Zyx (by omega);have t4:decide (1024<ss)=false:=Zyx (by omega);obtain⟨z,hz⟩:=Zb (w.heap.size);obtain⟨W0,hW0⟩:∃W,w.alloc (.cells #[.int .i64 q,.int .i64 tr,.int .i64 cp,.int .i64 ss] 81)=W:=⟨_,rfl⟩;have x0:Ext w W0:=by rw[←hW0];exact(Zy2 _).alloc _
 have bx:Zn W0 z [.int .i64 q,.int .i64 tr,.int .i64 cp,.int .i64 ss]:=by rw[←hW0];exact Zn.new w _ _ hz
 have c1:=bx.c 1 _ rfl;have c3:=bx.c 3 _ rfl;have X0:=Za x0;clear bx x0;go_enter func105,ntmps105;go_wp2;go_ret2;have nb:Zn (W0.alloc (.cells (pks ⟨tr,ss,0,0,0,0,false⟩).toArray 251)) W0.heap.size (pks ⟨tr,ss,0,0,0,0,false⟩):=Zn.new W0 _ _ rfl;exact⟨_,rfl,nb,X0.out.alloc _,X0.out.size⟩
end
def Zxw(w:World)(e:Ending)(w':World):Prop:=∃a,e=.returned (.slice a 3 3)∧At .i64 w' a hws∧Ext w w'
theorem Nk(w:World):Calls prog 291 #[] w (Zxw w):=by
 go_enter func291,ntmps291;go_wp2;go_ret;exact⟨_,rfl,At.newb .i64 w hws _ _ rfl,(Zy2 w).alloc _⟩
theorem Zf8{a:Option Addr}{cap:Nat}(t i:Int)(b:Bool){w:World}(h:At .i64 w a [t,8,i,24])(hb:decide ((0≤t∧t<256)∧0≤i∧i<16777216)=b) :
  Calls prog 357 #[.slice a 4 cap] w fun e w'=>e=.returned (.bool b)∧Ext w w':=by
 obtain⟨x,o,rfl,hc⟩:=h.pos (by simp);have c0:=hc 0 (by simp);have c1:=hc 1 (by simp);have c2:=hc 2 (by simp);have c3:=hc 3 (by simp);rw[Nat.add_zero] at c0;replace c0:w.cell? ⟨x,o,none⟩=some (.int .i64 t):=c0;replace c1:w.cell? ⟨x,o+1,none⟩=some (.int .i64 8):=c1;replace c2:w.cell? ⟨x,o+2,none⟩=some (.int .i64 i):=c2;replace c3:w.cell? ⟨x,o+3,none⟩=some (.int .i64 24):=c3;have HB:=Za hb;clear h hc hb;have C0:=Za c0;have C1:=Za c1;have C2:=Za c2;have C3:=Za c3;clear c0 c1 c2 c3;go_enter func357,ntmps357;go_wp2_with fail
 go_loopw [3] (fun k wr=>((k=.int .i64 0)∨(k=.int .i64 2∧Hid (0≤t∧t<256))∨(k=.int .i64 4∧Hid (0≤t∧t<256)∧Hid (0≤i∧i<16777216)))∧Ext w wr) (fun k _=>6-(intOf k).toNat)
 case atStart=>exact⟨.inl rfl,Zy2 w⟩
 case round=>
  obtain⟨rfl|⟨rfl,HT⟩|⟨rfl,HT,HI⟩,hx⟩:=hrel
  ·have c0:=hx.cell C0.out;have c1:=hx.cell C1.out;by_cases ht:t<0
   ·have hbb:=Za (show false=b by rw[←HB.out,Zyx];omega);go_wp2_with fail
    go_quiet (fail)
    go_wp2;go_ret;exact⟨Yg hbb.out,hx.drewN _⟩
   ·have ht0:decide (t<0)=false:=by simpa using ht
    have ht00:0≤t:=by omega
    by_cases h256:t<256
    ·have ht1:(t / 256 != 0)=false:=by simp;omega
     go_wp2_with fail
     go_quiet (fail)
     go_wp2;go_roundw
     case rel=>exact⟨.inr (.inl ⟨rfl,ht00,h256⟩),hx.drewN _⟩
     case measure=>simp[intOf]
    ·have hbb:=Za (show false=b by rw[←HB.out,Zyx];omega);have ht1:(t / 256 != 0)=true:=by simp;omega
     go_wp2_with fail
     go_quiet (fail)
     go_wp2;go_ret;exact⟨Yg hbb.out,hx.drewN _⟩
  ·have c2:=hx.cell C2.out;have c3:=hx.cell C3.out;by_cases hi:i<0
   ·have hbb:=Za (show false=b by rw[←HB.out,Zyx];omega);go_wp2_with fail
    go_quiet (fail)
    go_wp2;go_ret;exact⟨Yg hbb.out,hx.drewN _⟩
   ·have hi0:decide (i<0)=false:=by simpa using hi
    have hi00:0≤i:=by omega
    by_cases hbig:i<16777216
    ·have hi1:(i / 16777216 != 0)=false:=by simp;omega
     go_wp2_with fail
     go_quiet (fail)
     go_wp2;go_roundw
     case rel=>exact⟨.inr (.inr ⟨rfl,HT,hi00,hbig⟩),hx.drewN _⟩
     case measure=>simp[intOf]
    ·have hbb:=Za (show false=b by rw[←HB.out,Zyx];omega);have hi1:(i / 16777216 != 0)=true:=by simp;omega
     go_wp2_with fail
     go_quiet (fail)
     go_wp2;go_ret;exact⟨Yg hbb.out,hx.drewN _⟩
  ·have hbb:true=b:=by rw[←HB.out,Zyy];exact⟨HT,HI⟩
   go_wp2;go_ret;exact⟨Yg hbb,hx⟩
theorem Zyg{w w1:World}{v0 v1 v2:Value}{t:TypeId}(hx:Ext (w.alloc (.cells #[v0,v1,v2] t)) w1) :
  w1.cell? w.heap.size=some v0∧w1.cell? ⟨w.heap.size,1,none⟩=some v1∧w1.cell? ⟨w.heap.size,2,none⟩=some v2:=
 ⟨hx.cell (Zg w _ t 0),hx.cell (Zg w _ t 1),hx.cell (Zg w _ t 2)⟩
theorem Zrh(c:Hnd)(p q:Int){w:World}(hpq:Zvq c=(p,q))(hg:0≤c.g∧c.g<4294967296) :
  Calls prog 324 #[.agg #[.int .i64 c.t,.int .i64 c.i,.int .u32 c.g]] w fun e w'=>e=.returned (.tuple #[.int .u64 p,.int .i64 q])∧Ext w w':=by
 obtain⟨hx,h1⟩:=Zd w (.cells #[.int .i64 c.t,.int .i64 c.i,.int .u32 c.g] 332);obtain⟨t,i,g⟩:=c;simp only at hg h1 hx ⊢;have g0:=hg.1;have g1:=hg.2;by_cases hz:g=0
 ·have E:=Za (show(0,2)=(p,q) by rw[←hpq];unfold Zvq;rw[if_neg (fun c=>c.1 hz)]);subst hz;clear hpq hg;go_enter func324,ntmps324;go_wp2;go_ret2;cases E.out;exact⟨rfl,hx⟩
 ·have hzb:(g==0)=false:=by simpa using hz
  cases hf:decide ((0≤t∧t<256)∧0≤i∧i<16777216)
  ·have E:=Za (show(0,2)=(p,q) by
    rw[←hpq];unfold Zvq;rw[if_neg];intro c;have:=Zy8 hf;exact this ⟨⟨c.2.1,c.2.2.1⟩,c.2.2.2.1,c.2.2.2.2⟩)
   have HF:=Za hf;clear hpq hf hz hg;go_enter func324,ntmps324;go_wp2_with fail;have hA:At .i64 ((w.alloc (.cells #[.int .i64 t,.int .i64 i,.int .u32 g] 332)).alloc (.cells #[.int .i64 t,(8:Int),.int .i64 i,(24:Int)] 3)) (some ⟨w.heap.size+1,0,none⟩) [t,8,i,24]:=At.newb .i64 _ [t,8,i,24] _ _ (by simp);have HA:=Za hA;clear hA;refine(Zf8 t i false HA.out HF.out).ze fun w1 h2=>?_;go_wp2;go_ret2;cases E.out;exact⟨rfl,(hx.alloc _).trans h2⟩
  ·obtain⟨⟨t0,t1⟩,i0,i1⟩:=Zy7 hf;have hok':hok ⟨t,i,g⟩:=⟨hz,t0,t1,i0,i1⟩;have E:=Za (show(Rc ⟨t,i,g⟩,0)=(p,q) by rw[←hpq];unfold Zvq;rw[if_pos hok']);have PK:Hid (Nn hws [g,i,t]=(Rc ⟨t,i,g⟩,0)):=Za (Zk9 hok' hg);have M3:Hid ([g,i,t].length≤maxLen):=Za (show 3≤maxLen by decide);have HB:Hid (∀n∈[g,i,t],0≤n∧n<18446744073709551616):=Za (by intro n hn;simp at hn;rcases hn with rfl|rfl|rfl<;>omega);have HF:=Za hf;clear hpq hf hz hg hok'
   generalize Rc ⟨t,i,g⟩=hw at *
   go_enter func324,ntmps324;go_wp2_with fail;have hA:At .i64 ((w.alloc (.cells #[.int .i64 t,.int .i64 i,.int .u32 g] 332)).alloc (.cells #[.int .i64 t,(8:Int),.int .i64 i,(24:Int)] 3)) (some ⟨w.heap.size+1,0,none⟩) [t,8,i,24]:=At.newb .i64 _ [t,8,i,24] _ _ (by simp);have HA:=Za hA;clear hA;refine(Zf8 t i true HA.out HF.out).ze fun w1 h2=>?_;replace h1:=(h1.alloc (.cells #[.int .i64 t,(8:Int),.int .i64 i,(24:Int)] 3)).trans h2;clear h2;obtain⟨b0,b1,b2⟩:=Zyg h1;go_wp2_with fail;have wg:IntKind.u64.wrap g=g:=by rw[IntKind.wrap_u64];exact Int.emod_eq_of_lt g0 (by omega)
   have wi:IntKind.u64.wrap i=i:=by rw[IntKind.wrap_u64];exact Int.emod_eq_of_lt i0 (by omega)
   have wt:IntKind.u64.wrap t=t:=by rw[IntKind.wrap_u64];exact Int.emod_eq_of_lt t0 (by omega)
   have n0:=World.new_ne w1 _ b0;have n1:=World.new_ne w1 _ b1;have n2:=World.new_ne w1 _ b2
   go_region_held3 (fun w'=>w'.cell? w.heap.size=some (.int .i64 t)∧w'.cell? ⟨w.heap.size,1,none⟩=some (.int .i64 i)∧w'.cell? ⟨w.heap.size,2,none⟩=some (.int .u32 g))
    ((first|go_keep|(go_split_ands;exact⟨hE.cell (by assumption),hE.cell (by assumption),hE.cell (by assumption)⟩)|(go_split_ands;exact⟨((Zy2 _).alloc _).cell d0,((Zy2 _).alloc _).cell d1,((Zy2 _).alloc _).cell d2⟩)))
    (first|(go_at_call 291;refine(Nk _).mono ?_;rintro e w5 ⟨a1,rfl,hA1,hE⟩;have hX:Ext (w.alloc (.cells #[.int .i64 t,.int .i64 i,.int .u32 g] 332)) w5:=Ext.trans (by repeat (first|assumption|refine Ext.alloc ?_ _|refine Ext.drew ?_)) hE;obtain⟨d0,d1,d2⟩:=Zyg hX)|(go_at_call 358;refine(Fu hws [g,i,t] hw 0 PK.out ?_ (by decide) ?_ M3.out HB.out).mono ?_;(first|exact hA1|exact hA1.ext ((Zy2 _).alloc _)|fail);(first|exact At.newb .u64 w5 [g,i,t] _ _ rfl|exact(At.newb .u64 w1 [g,i,t] _ _ rfl).ext hE|exact(At.newb .u64 w1 [g,i,t] _ _ rfl).ext ((Zy2 _).drew.trans hE)|fail);rintro e w6 ⟨rfl,hE⟩;have hX6:Ext (w.alloc (.cells #[.int .i64 t,.int .i64 i,.int .u32 g] 332)) w6:=Ext.trans (by repeat (first|assumption|refine Ext.alloc ?_ _|refine Ext.drew ?_)) hE))
   all_goals
    go_wp2;go_ret2;cases E.out;exact⟨rfl,hx.trans hX6⟩
def Zun(b:Nat)(v:Int)(l:List Int)(cap:Nat)(w:World)(e:Ending)(w':World):Prop:=
 ∃a,e=.returned (.int .u64 v)∧w'=w.setCell b (.slice a l.length (cap-1))∧At .u64 w' a l∧∀x o,a=some ⟨x,o,none⟩→x≠b
theorem Mr{b:Nat}{a:Option Addr}{n cap:Nat}(l:List Int)(v:Int){w:World}(hc:w.cell? b=some (.slice a n cap))(hf:w.frozen? b=false)(h:At .u64 w a (v :: l))(hn:n=l.length+1)(hcap:n≤cap)(hm:cap≤maxLen)(hne:∀x o,a=some ⟨x,o,none⟩→x≠b) :
  Calls prog 292 #[b] w (Zun b v l cap w):=by
 subst hn;unfold maxLen at hm;obtain⟨x,o,rfl,hx⟩:=h.pos (by simp);have c0:=hx 0 (by simp);rw[Nat.add_zero] at c0;replace c0:w.cell? ⟨x,o,none⟩=some (.int .u64 v):=c0;have HX:=Za hx;have hxb:=Za (hne x o rfl);clear hne;clear h hx;by_cases h1:cap=1
 ·obtain rfl:l=[]:=List.length_eq_zero_iff.1 (by omega);subst h1;go_enter func292,ntmps292;go_wp2;go_ret;exact⟨_,rfl,rfl,At.nil,fun y p e=>by cases e;exact hxb.out⟩
 ·go_enter func292,ntmps292;go_wp2;go_ret;refine⟨_,rfl,rfl,At.mk fun i hi=>?_,fun y p e=>by cases e;exact hxb.out⟩;rw[cell_far _ _ _ _ (by show b≠x;exact fun e=>hxb.out e.symm),Nat.add_assoc,Nat.add_comm 1 i];exact HX.out (i+1) (by simp;omega)
theorem Zf9(u:Int)(c:Hnd)(q:Int){w:World}(hpq:Ln u=(c,q))(h0:0≤u)(h1:u<18446744073709551616) :
  Calls prog 239 #[.int .u64 u] w fun e w'=>e=.returned (.tuple #[.agg #[.int .i64 c.t,.int .i64 c.i,.int .u32 c.g],.int .i64 q])∧Ext w w':=by
 have UN:=Za (Zdd h0 h1);have U:=Za h1;clear h1;go_enter func239,ntmps239;go_wp2_with fail;refine(Nk _).mono ?_;rintro e w1 ⟨a1,rfl,hA1,hE1⟩;go_wp2_with fail;refine(Kn hws u _ 0 UN.out hA1 (by decide) h0 U.out).mono ?_;rintro e w2 ⟨la,lc,rfl,hn,hE2⟩;have HN:=Za hn;clear hn;go_wp2_with fail;have hla:∀x o,la=some ⟨x,o,none⟩→x≠w2.heap.size:=fun x o e=>by
  obtain⟨g0,e2,_,h3,_⟩:=HN.out.own (show 0<3 by decide);rw[e2] at e;cases e;exact Nat.ne_of_lt h3
 have HLA:=Za hla;clear hla;have n0:=World.new_ne (w2.alloc (.cells #[.slice la 3 lc] 72)) _ (Zr w2 (.slice la 3 lc) 72)
 go_region_held3 (fun w'=>w'.cell? w2.heap.size=some (.slice la 3 lc))
  ((first|exact hE.cell (by assumption)|go_keep))
  ((go_at_call 291;refine(Nk _).mono ?_;rintro e w3 ⟨a3,rfl,hA3,hE⟩))
 have c3:w3.cell? w2.heap.size=some (.slice la 3 lc):=hE.cell (by simp);have f3:w3.frozen? w2.heap.size=false:=hE.frozenAt (v:=.slice la 3 lc) (by simp) (by simp);have X3:Ext w2 w3:=((Zy2 w2).alloc (.cells #[.slice la 3 lc] 72)).drew.trans hE;have XW:Ext (w.alloc (.cells #[(0:Int),(0:Int),.int .u32 0] 332)) w2:=hE1.trans hE2;have L3:=Za (show 3≤lc from HN.out.cap1);have M3:=Za HN.out.cap2;have A3:=Za (HN.out.row.ext X3);have Z3:=Za (XW.trans X3);have S3:=Za XW.size;clear n0 hE X3 hA3 hA1 HN;obtain⟨g,hg⟩:=Zb ((Zoy u).g);obtain⟨i,hi⟩:=Zb ((Zoy u).i);obtain⟨t,ht⟩:=Zb ((Zoy u).t);rw[hg,hi,ht] at A3;have bd:0≤g∧g<4294967296∧0≤i∧i<16777216∧0≤t∧t<256:=by
  have:=U.out;unfold Zoy at hg hi ht;simp only at hg hi ht;omega
 obtain⟨bg0,bg1,bi0,bi1,bt0,bt1⟩:=bd;have HG:=Za hg;have HI:=Za hi;have HT:=Za ht;clear hg hi ht;go_wp2_with fail;refine(Mr [i,t] g c3 f3 A3.out rfl L3.out M3.out HLA.out).mono ?_;rintro e w4 ⟨p1,rfl,hw4,hA4,hn4⟩;have c4:w4.cell? w2.heap.size=some (.slice p1 2 (lc-1)):=by rw[hw4];exact Zyz w3 _ _ c3
 have f4:w4.frozen? w2.heap.size=false:=by rw[hw4];simpa using f3
 have Z4:Hid (Ext (w.alloc (.cells #[(0:Int),(0:Int),.int .u32 0] 332)) w4):=Za (by rw[hw4];exact Z3.out.setCell S3.out _);have R1:=Za hn4;have A4:=Za hA4;clear hw4 hn4 hA4 c3 f3;go_wp2_with fail;refine(Mr [t] i c4 f4 A4.out rfl (by have:=L3.out;omega) (by have:=M3.out;omega) R1.out).mono ?_;rintro e w5 ⟨p2,rfl,hw5,hA5,hn5⟩;have c5:w5.cell? w2.heap.size=some (.slice p2 1 (lc-1-1)):=by rw[hw5];exact Zyz w4 _ _ c4
 have f5:w5.frozen? w2.heap.size=false:=by rw[hw5];simpa using f4
 have Z5:Hid (Ext (w.alloc (.cells #[(0:Int),(0:Int),.int .u32 0] 332)) w5):=Za (by rw[hw5];exact Z4.out.setCell S3.out _);have R2:=Za hn5;have A5:=Za hA5;clear hw5 hn5 hA5 c4 f4;go_wp2_with fail;by_cases hz:g=0
 ·have hzb:(g==0)=true:=by simpa using hz
  refine(Mr [] t c5 f5 A5.out rfl (by have:=L3.out;omega) (by have:=M3.out;omega) R2.out).mono ?_;rintro e w6 ⟨p3,rfl,hw6,hA6,hn6⟩;have c6:w6.cell? w2.heap.size=some (.slice p3 0 (lc-1-1-1)):=by rw[hw6];exact Zyz w5 _ _ c5
  have f6:w6.frozen? w2.heap.size=false:=by rw[hw6];simpa using f5
  have Z6:Hid (Ext (w.alloc (.cells #[(0:Int),(0:Int),.int .u32 0] 332)) w6):=Za (by rw[hw6];exact Z5.out.setCell S3.out _);have R3:=Za hn6;have A6:=Za hA6;clear hw6 hn6 hA6 c5 f5;have r0:=Z6.out.cell (Zg w #[(0:Int),(0:Int),.int .u32 0] 332 0);have r1:=Z6.out.cell (Zg w #[(0:Int),(0:Int),.int .u32 0] 332 1);have r2:=Z6.out.cell (Zg w #[(0:Int),(0:Int),.int .u32 0] 332 2);have q0:w6.frozen? w.heap.size=false:=Z6.out.frozenAt (v:=.int .i64 0) (Zg w #[(0:Int),(0:Int),.int .u32 0] 332 0) (by simp);have q1:w6.frozen? ⟨w.heap.size,1,none⟩=false:=Z6.out.frozenAt (v:=.int .i64 0) (Zg w #[(0:Int),(0:Int),.int .u32 0] 332 1) (by simp);have q2:w6.frozen? ⟨w.heap.size,2,none⟩=false:=Z6.out.frozenAt (v:=.int .u32 0) (Zg w #[(0:Int),(0:Int),.int .u32 0] 332 2) (by simp);have hlt6:w.heap.size<w6.heap.size:=Zj r0;replace r0:w6.cell? w.heap.size=some (.int .i64 0):=r0;replace r1:w6.cell? ⟨w.heap.size,1,none⟩=some (.int .i64 0):=r1;replace r2:w6.cell? ⟨w.heap.size,2,none⟩=some (.int .u32 0):=r2;go_wp2_with fail;have hgu:u % 4294967296=g:=HG.out;have e0:Ln u=(Ce,130):=by unfold Ln;rw[hgu];rw[if_pos hz]
  rw[e0] at hpq;cases hpq;have Z:Ext w w6:=((Zy2 w).alloc _).trans Z6.out;refine bodyPost_ret (v:=.tuple #[.agg #[(0:Int),(0:Int),.int .u32 0],(130:Int)]) (by simp[results,results239,go_sem,r0,r1,r2,hlt6,World.cell?_alloc_past,Zyz,Zy0]) rfl ⟨rfl,?_⟩
  repeat (first|exact Z|refine Ext.alloc ?_ _|refine Ext.setCell ?_ (Zy1 _) _|refine Ext.setCell ?_ (Nat.le_of_lt hlt6) _|refine Ext.drew ?_)
 ·have hzb:(g==0)=false:=by simpa using hz
  refine(Mr [] t c5 f5 A5.out rfl (by have:=L3.out;omega) (by have:=M3.out;omega) R2.out).mono ?_;rintro e w6 ⟨p3,rfl,hw6,hA6,hn6⟩;have c6:w6.cell? w2.heap.size=some (.slice p3 0 (lc-1-1-1)):=by rw[hw6];exact Zyz w5 _ _ c5
  have f6:w6.frozen? w2.heap.size=false:=by rw[hw6];simpa using f5
  have Z6:Hid (Ext (w.alloc (.cells #[(0:Int),(0:Int),.int .u32 0] 332)) w6):=Za (by rw[hw6];exact Z5.out.setCell S3.out _);have R3:=Za hn6;have A6:=Za hA6;clear hw6 hn6 hA6 c5 f5;have r0:=Z6.out.cell (Zg w #[(0:Int),(0:Int),.int .u32 0] 332 0);have r1:=Z6.out.cell (Zg w #[(0:Int),(0:Int),.int .u32 0] 332 1);have r2:=Z6.out.cell (Zg w #[(0:Int),(0:Int),.int .u32 0] 332 2);have q0:w6.frozen? w.heap.size=false:=Z6.out.frozenAt (v:=.int .i64 0) (Zg w #[(0:Int),(0:Int),.int .u32 0] 332 0) (by simp);have q1:w6.frozen? ⟨w.heap.size,1,none⟩=false:=Z6.out.frozenAt (v:=.int .i64 0) (Zg w #[(0:Int),(0:Int),.int .u32 0] 332 1) (by simp);have q2:w6.frozen? ⟨w.heap.size,2,none⟩=false:=Z6.out.frozenAt (v:=.int .u32 0) (Zg w #[(0:Int),(0:Int),.int .u32 0] 332 2) (by simp);have hlt6:w.heap.size<w6.heap.size:=Zj r0;replace r0:w6.cell? w.heap.size=some (.int .i64 0):=r0;replace r1:w6.cell? ⟨w.heap.size,1,none⟩=some (.int .i64 0):=r1;replace r2:w6.cell? ⟨w.heap.size,2,none⟩=some (.int .u32 0):=r2;go_wp2_with fail;have hgu:u % 4294967296=g:=HG.out;have e0:Ln u=(Zoy u,0):=by unfold Ln;rw[hgu];rw[if_neg hz]
  rw[e0] at hpq;cases hpq;have Z:Ext w w6:=((Zy2 w).alloc _).trans Z6.out;refine bodyPost_ret (v:=.tuple #[.agg #[.int .i64 t,.int .i64 i,.int .u32 g],(0:Int)]) (by simp[results,results239,go_sem,r0,r1,r2,hlt6,World.cell?_alloc_past,Zyz,Zy0]) rfl ⟨(by rw[HT.out,HI.out,HG.out]),?_⟩
  repeat (first|exact Z|refine Ext.alloc ?_ _|refine Ext.setCell ?_ (Zy1 _) _|refine Ext.setCell ?_ (Nat.le_of_lt hlt6) _|refine Ext.drew ?_)
section
structure HB where
 B:CB
 qb:Nat
 hb:Nat
 ca:Nat
 cc:Nat
 ta:Nat
 tc:Nat
 hi:Nat
def hcs(H:HB)(c:Zh)(t:Nat)(x:HP):List Value:=[.slice (some ⟨H.ca,0,none⟩) c.cl.length H.cc,.int .i64 c.page,.slice (some ⟨H.ta,0,none⟩) c.ts.length H.tc,.int .i64 c.wk,.int .i64 c.gr,.int .i64 c.gens,.int .i64 (t:Int),(H.B.yb:Value),(H.qb:Value),.int .i64 (x.work:Int)]
def HB.hpP(H:HB)(k:Nat):Prop:=k=H.B.gw∨(H.B.yb≤k∧k<H.hi)
structure HB.Ord(H:HB):Prop where
 q:H.B.a9≤H.qb∧H.qb<H.hi
 h:H.B.a9≤H.hb∧H.hb<H.hi
 c:H.B.a9≤H.ca∧H.ca<H.hi
 t:H.B.a9≤H.ta∧H.ta<H.hi
 n:H.qb≠H.hb∧H.ca≠H.hb∧H.ta≠H.hb∧H.ca≠H.qb∧H.ta≠H.qb
structure Zv(w:World)(H:HB)(c:Zh)(t n:Nat)(x:HP):Prop where
 cy:Vw w H.B c t n c.gens c.wk x.y
 pc:Wd w H.qb x.p
 box:Zn w H.hb (hcs H c t x)
 cfg:Y7 w (some ⟨H.ca,0,none⟩) (some ⟨H.ta,0,none⟩) H.cc H.tc c
 ord:H.Ord
 top:H.hi≤w.heap.size
 wk:x.work<1099511627776
variable{w w':World}{H:HB}{c:Zh}{t n a d F:Nat}{x x':HP}
theorem Zv.ko(h:Zv w H c t n x):KOk c:=h.cy.i.k.ko
theorem Zv.ti(h:Zv w H c t n x):t<c.ts.length:=h.cy.i.k.ti
theorem Y7.chg{P:Nat→Prop}{ca ta cc tc:Nat}(h:Y7 w (some ⟨ca,0,none⟩) (some ⟨ta,0,none⟩) cc tc c)(hx:Chg P w w')(h1:¬P ca)(h2:¬P ta):Y7 w' (some ⟨ca,0,none⟩) (some ⟨ta,0,none⟩) cc tc c:=
 ⟨h.cl.chg hx fun b o e _=>by cases e;exact h1,fun i hi=>by
  obtain⟨b,o,e,c0,c1,c2,c3⟩:=h.ts i hi;cases e;exact⟨ta,0,rfl,hx.cell h2 c0,hx.cell h2 c1,hx.cell h2 c2,hx.cell h2 c3⟩,h.cm,h.tm,h.ccap,h.tcap,h.ccm,h.tcm⟩
theorem Zv.yb(h:Zv w H c t n x):H.B.yb<H.B.a9∧H.B.gw<H.B.yb:=by
 obtain⟨o1,o2,o3,o4,o5,o6,o7,o8,o9,o10⟩:=h.cy.i.k.ord;have p:=h.cy.i.o9;omega
theorem Zv.chg{P:Nat→Prop}(h:Zv w H c t n x)(hx:Chg P w w')(hP:∀k,k<H.hi→¬P k):Zv w' H c t n x:=by
 obtain⟨o1,o2,o3,o4,o5⟩:=h.ord;exact⟨h.cy.chg hx fun k hk=>hP k (by omega),h.pc.chg hx (hP _ (by omega)),h.box.chg hx (hP _ (by omega)),h.cfg.chg hx (hP _ (by omega)) (hP _ (by omega)),h.ord,Zy6 h.top hx.size,h.wk⟩
theorem Zv.ext(h:Zv w H c t n x)(hx:Ext w w'):Zv w' H c t n x:=h.chg (P:=fun _=>False) (Zy3 hx) (fun _ _ a=>a)
theorem Zv.cyTo{y':CY}(h:Zv w H c t n x)(hy:Vw w' H.B c t n c.gens c.wk y')(hx:Chg H.B.cyP w w'):Zv w' H c t n { x with y:=y' }∧Chg H.hpP w w':=by
 obtain⟨o1,o2,o3,o4,o5⟩:=h.ord;have yb:=h.yb;have q:∀k,H.B.a9≤k→¬H.B.cyP k:=fun k hk e=>by unfold CB.cyP at e;omega
 exact⟨⟨hy,h.pc.chg hx (q _ (by omega)),h.box.chg hx (q _ (by omega)),h.cfg.chg hx (q _ (by omega)) (q _ (by omega)),h.ord,Zy6 h.top hx.size,h.wk⟩,hx.mono fun k e=>by unfold CB.cyP at e;unfold HB.hpP;omega⟩
theorem Zv.pcTo{p':PC}(h:Zv w H c t n x)(hp:Wd w' H.qb p')(hx:Chg (fun k=>k=H.qb) w w'):Zv w' H c t n { x with p:=p' }∧Chg H.hpP w w':=by
 obtain⟨o1,o2,o3,o4,o5⟩:=h.ord;have yb:=h.yb;have q:∀k,k≠H.qb→¬(fun k=>k=H.qb) k:=fun k hk e=>hk e
 exact⟨⟨h.cy.chg hx fun k hk=>q k (by omega),hp,h.box.chg hx (q _ (by omega)),h.cfg.chg hx (q _ (by omega)) (q _ (by omega)),h.ord,Zy6 h.top hx.size,h.wk⟩,hx.mono fun k e=>.inr (by have e1:k=H.qb:=e;omega)⟩
theorem Zv.wkTo(h:Zv w H c t n x){k:Nat}(hk:k<1099511627776):Zv (w.setCell ⟨H.hb,9,none⟩ (.int .i64 (k:Int))) H c t n { x with work:=k }∧Chg H.hpP w (w.setCell ⟨H.hb,9,none⟩ (.int .i64 (k:Int))):=by
 obtain⟨o1,o2,o3,o4,o5⟩:=h.ord;have yb:=h.yb;have hx:=Wn w H.hb 9 (.int .i64 (k:Int));have q:∀k,k≠H.hb→¬(fun k=>k=H.hb) k:=fun k hk e=>hk e
 exact⟨⟨h.cy.chg hx fun k hk=>q k (by omega),h.pc.chg hx (q _ (by omega)),h.box.set (i:=9) (by simp[hcs]) _,h.cfg.chg hx (q _ (by omega)) (q _ (by omega)),h.ord,Zy6 h.top hx.size,hk⟩,hx.mono fun k e=>.inr (by have e1:k=H.hb:=e;omega)⟩
structure HW(c:Zh)(t n a d F:Nat)(x:HP):Prop where
 ok:HOk c t n c.gens c.wk a d x
 a:a≤1048576
 d:d≤1048576
 F:Z7 c t x.y.l<F
theorem HW.pok(h:HW c t n a d F x):POk x.p:=by
 obtain⟨ok,ha,hd,_⟩:=h;have s:=ok.si;have o:=ok.to;have e:=ok.de;have y:=ok.cy;exact⟨ok.tr,ok.ss,by omega,by omega,by omega,by omega⟩
theorem Zv.most(h:Zv w H c t n x):Z7 c t x.y.l≤176214016:=by
 have tl:=h.cy.i.k.tab.len.2;have ko:=h.ko;have r:=ko.region_in h.ti;have tt:=ko.total_le;unfold Z7;omega
theorem Ho(h:Zv w H c t n x):Calls prog 42 #[H.hb] w fun e w'=>e=.returned (.bool false)∧w=w':=by
 have c7:=h.box.c 7 _ rfl;clear h;go_enter func42,ntmps42;go_wp2;go_ret;exact⟨rfl,rfl⟩
theorem Zri(h:Zv w H c t n x):Calls prog 12 #[H.hb] w fun e w'=>e=.returned (H.B.yb:Value)∧w=w':=by
 have c7:=h.box.c 7 _ rfl;have HH:=Za h;clear h;go_enter func12,ntmps12;go_wp2_with fail;refine(Ho HH.out).zz ?_;go_wp2;go_ret;exact⟨rfl,rfl⟩
theorem Zuo{k:Nat}(h:Zv w H c t n x)(hk:x.work=k):Calls prog 19 #[H.hb] w fun e w'=>e=.returned (.int .i64 (k:Int))∧w=w':=by
 have c9:=h.box.c 9 _ rfl;rw[hk] at c9;have HH:=Za h;clear h hk;go_enter func19,ntmps19;go_wp2_with fail;refine(Ho HH.out).zz ?_;go_wp2;go_ret;exact⟨rfl,rfl⟩
theorem Xm{k:Int}:Calls prog 149 #[.int .i64 k] w fun e w'=>e=.returned (.agg #[.int .i64 k,.int .u64 0,.int .u64 0,(0:Int),(0:Int),(0:Int),(0:Int),false])∧Ext w w':=by
 go_enter func149,ntmps149;go_wp2_with fail;exact bodyPost_ret (v:=.agg #[.int .i64 k,.int .u64 0,.int .u64 0,(0:Int),(0:Int),(0:Int),(0:Int),false]) (by simp[results,results149,go_sem]) rfl ⟨rfl,(Zy2 w).alloc _⟩
theorem Bm{r:Bool}(h:Zv w H c t n x)(hr:Xz x.y=r):Calls prog 276 #[H.hb] w fun e w'=>e=.returned (.bool r)∧w=w':=by
 have c7:=h.box.c 7 _ rfl;obtain⟨k,hk⟩:=Zb (Oo x.y.l 0);have TB:=Za (Sb h.cy);have FR:=Za (Zqt h.cy.i.k.tab hk);unfold Xz at hr;rw[hk] at hr;have tr:decide ((0:Int)<(k:Int))=r:=by rw[←hr];exact decide_eq_decide.2 (by omega)
 clear h hk;go_enter func276,ntmps276;go_wp2_with fail;refine(TB.out).zz ?_;go_wp2_with fail;refine(FR.out).zz ?_;go_wp2;go_ret;exact⟨by first|rfl|(rw[tr])|(simp[hr]),rfl⟩
theorem Zga(h:Zv w H c t n x)(hw:HW c t n a d F x):Calls prog 314 #[H.hb] w fun e w'=>e=.returned (.tuple #[])∧Zv w' H c t n (Vi c t x)∧Chg H.hpP w w':=by
 have c7:=h.box.c 7 _ rfl;have fl:=hw.ok.fl;have dd:=hw.d;have ac:x.y.ph=0→x.y.m.act=false:=fun e=>by
  rcases hw.ok.y.ps with p|p|p|p
  ·exact p.2.1
  ·omega
  ·omega
  ·omega
 have BE:Hid (Calls prog 347 #[H.B.yb] w fun e W'=>(∃k:Int,e=.returned (.int .i64 k))∧Zv W' H c t n { x with y:=Tf c t x.y }∧Chg H.hpP w W'):=
  Za ((Zm2 h.cy ac (by omega)).mono fun e W' q=>⟨q.1,h.cyTo q.2.1 q.2.2⟩)
 have PO:=Za hw.pok;have PB:Hid (∀W,Zv W H c t n { x with y:=Tf c t x.y }→Calls prog 348 #[H.qb] W fun e W'=>∃k:Int,e=.returned (.int .i64 k)∧Zv W' H c t n (Vi c t x)∧Chg H.hpP W W'):=
  Za fun W hW=>(Zi8 hW.pc PO.out).mono fun e W' ⟨k,q1,q2,q3⟩=>⟨k,q1,hW.pcTo q2 q3⟩
 clear h ac fl dd hw;go_enter func314,ntmps314;go_wp2_with fail;refine BE.out.mono ?_;rintro e w1 ⟨⟨k,rfl⟩,H1,x1⟩;have c8:=H1.box.c 8 _ rfl;go_wp2_with fail;refine(PB.out _ H1).mono ?_;rintro e w2 ⟨k2,rfl,H2,x2⟩;go_wp2
 go_end0
 exact⟨rfl,H2,x1.trans x2⟩
theorem Znd{s u:Int}(h:Zv w H c t n x)(hr:Qq t x s=(x',u)):Calls prog 280 #[H.hb,.int .i64 s] w fun e w'=>e=.returned (.int .u64 u)∧Zv w' H c t n x'∧Chg H.hpP w w':=by
 have c7:=h.box.c 7 _ rfl;have c6:=h.box.c 6 _ rfl;have TB:=Za (Sb h.cy);obtain⟨l',i,g,k,hm⟩:∃l' i g k,Lq x.y.l s=(l',i,g,k):=⟨_,_,_,_,rfl⟩;have gl:0≤g∧g<4294967296:=by
  have tb:=h.cy.i.k.tab;have gn:=tb.gn;unfold Lq at hm;split at hm
  ·cases hm;decide
  ·split at hm
   ·rename_i j hj;unfold Cj at hj;rw[List.find?_range_eq_some] at hj;have:=tb.ok j (by simpa using hj.2.1);cases hm;omega
   ·cases hm;decide
 have ll:l'.length=x.y.l.length:=by
  unfold Lq at hm;split at hm
  ·cases hm;rfl
  ·split at hm
   ·cases hm;exact List.length_set
   ·cases hm;rfl
 unfold Qq at hr;rw[hm] at hr;obtain⟨p,q,hpq⟩:∃p q,Zvq ⟨t,i,g⟩=(p,q):=⟨_,_,rfl⟩;simp only at hr;rw[hpq] at hr;cases hr;have MI:Hid (Calls prog 323 #[H.B.tb,.int .i64 s] w fun e W'=>e=.returned (.tuple #[.int .i64 i,.int .u32 g,.int .i64 k])∧Zv W' H c t n { x with y:={ x.y with l:=l' } }∧Chg H.hpP w W'):=
  Za ((Zq9 h.cy.i.k.tab hm).mono fun e W' q=>by
   obtain⟨a,b⟩:=h.cy.i.tabTo q.2.1 q.2.2 ll;obtain⟨a2,b2⟩:=h.cy.inTo a b rfl rfl h.cy.le;exact⟨q.1,h.cyTo a2 b2⟩)
 have PU:=Za (fun W:World=>Zrh (w:=W) ⟨t,i,g⟩ p q hpq gl);clear h hm gl ll hpq;go_enter func280,ntmps280;go_wp2_with fail;refine(TB.out).zz ?_;go_wp2_with fail;refine MI.out.mono ?_;rintro e w1 ⟨rfl,a1,x1⟩;have c6:=a1.box.c 6 _ rfl;go_wp2_with fail;refine(PU.out _).ze fun w2 x2=>?_;go_wp2;go_ret;exact⟨rfl,a1.ext x2,x1.trans (Zy3 x2)⟩
theorem Ztl(h:Zv w H c t n x)(hw:HW c t n a d F x)(hp:x.y.ph≠0)(hk:x.work≤1000000000):Calls prog 313 #[H.hb] w fun e w'=>e=.returned (.tuple #[])∧Zv w' H c t n (Ck c t n c.gens F x)∧Chg H.hpP w w':=by
 have c7:=h.box.c 7 _ rfl;obtain⟨y1,k,hf⟩:∃y1 k,Kz c t n F x.y=(y1,k):=⟨_,_,rfl⟩;have mo:=h.most;have ff:=Zdk F hw.ok.y (by have:=hw.F;omega);rw[hf] at ff;have kb:k≤176214016:=by
  have s1:=ff.ok.st.1;have s2:=ff.steps;have s3:=ff.l;simp only at s1 s2 s3;have e:Z7 c t y1.l=Z7 c t x.y.l:=by unfold Z7;rw[s3]
  omega
 have d3:y1.ph=3→Qn y1.s=true:=fun e=>by
  have ps:=ff.ok.ps;simp only at ps;rcases ps with q|q|q|q
  ·omega
  ·omega
  ·omega
  ·unfold Qn;rw[q.2.2.1,q.2.2.2,ff.ok.dl];simp
 have PO:=Za hw.pok;have FI:Hid (Calls prog 344 #[H.B.yb] w fun e W'=>e=.returned (.tuple #[(k:Int),(0:Int)])∧Zv W' H c t n { x with y:=y1 }∧Chg H.hpP w W'):=
  Za ((Zi5 h.cy hw.ok.y mo hp hw.F hf).mono fun e W' q=>⟨q.1,h.cyTo q.2.1 q.2.2⟩)
 obtain⟨K,hK⟩:=Zb (x.work);have PB:Hid (∀W,Zv W H c t n { x with y:=y1,work:=K+k }→Calls prog 345 #[H.B.yb] W fun e W'=>(∃a b d:Int,e=.returned (.tuple #[.int .i64 a,.int .i64 b,.int .i64 d]))∧Zv W' H c t n { x with y:=Xl c.gens y1,work:=K+k }∧Chg H.hpP W W'):=
  Za fun W hW=>(Zd9 hW.cy d3).mono fun e W' q=>⟨q.1,hW.cyTo q.2.1 q.2.2⟩
 have PE:Hid (∀W,Zv W H c t n { x with y:=Xl c.gens y1,work:=K+k }→Calls prog 346 #[H.qb] W fun e W'=>∃k2:Int,e=.returned (.int .i64 k2)∧Zv W' H c t n (Ck c t n c.gens F x)∧Chg H.hpP W W'):=
  Za fun W hW=>(Zrd hW.pc PO.out).mono fun e W' ⟨k2,q1,q2,q3⟩=>by
   refine⟨k2,q1,?_⟩;have r:=hW.pcTo q2 q3;unfold Ck;rw[hf,hK];exact r
 have wj:IntKind.i64.wrap ((K:Int)+(k:Int))=((K+k:Nat):Int):=by rw[IntWalk.i64_in _ (by omega)];omega
 have kb2:K+k<1099511627776:=by omega
 have HK:=Za hK;have KB:=Za kb2;obtain⟨S,hS⟩:=Zb (K+k);rw[hS] at wj PB PE KB;clear h hf ff kb d3 mo hw hp hk hK kb2 hS;go_enter func313,ntmps313;go_wp2_with fail;refine FI.out.mono ?_;rintro e w1 ⟨rfl,a1,x1⟩;have c9:w1.cell? ⟨H.hb,9,none⟩=some (.int .i64 (K:Int)):=by rw[←HK.out];exact a1.box.c 9 _ rfl
 have f9:=a1.box.f 9;obtain⟨a2,x2⟩:=a1.wkTo KB.out;have A2:=Za (And.intro a2 (x1.trans x2));have c7:=a2.box.c 7 _ rfl;clear a1 x1 a2 x2;go_wp2_with fail;refine(PB.out _ A2.out.1).mono ?_;rintro e w3 ⟨⟨_,_,_,rfl⟩,a3,x3⟩;have c8:=a3.box.c 8 _ rfl;go_wp2_with fail;refine(PE.out _ a3).mono ?_;rintro e w4 ⟨k2,rfl,a4,x4⟩;go_wp2
 go_end0
 exact⟨rfl,a4,(A2.out.2.trans x3).trans x4⟩
end
section
variable{w w':World}{H:HB}{c:Zh}{t n a d F:Nat}{x x':HP}
theorem Zeg{u s:Int}{r:Bool}(h:Zv w H c t n x)(hu:0≤u∧u<18446744073709551616)(hr:Vc t x.y u=(s,r)):Calls prog 191 #[H.hb,.int .u64 u] w fun e w'=>e=.returned (.tuple #[.int .i64 s,r])∧Ext w w':=by
 obtain⟨hd,q,hq⟩:∃hd q,Ln u=(hd,q):=⟨_,_,rfl⟩;have GE:=Za (Zf9 u hd q (w:=w) hq hu.1 hu.2);unfold Vc at hr;rw[hq] at hr;simp only at hr;have HH:=Za h;have q2:q=0∨q≠0:=by omega
 obtain⟨ht,hi,hg⟩:=hd;simp only at hr GE;obtain⟨p,k,hl⟩:∃p k,Nb x.y.l hi hg=(p,k):=⟨_,_,rfl⟩;rw[hl] at hr;have TB:=Za (fun W (z:Ext w W)=>Sb (h.ext z).cy);have LK:=Za (fun W (z:Ext w W)=>Cw (h.ext z).cy.i.k.tab hl);clear h hq hl hu;go_enter func191,ntmps191;go_wp2_with fail;refine GE.out.ze fun w1 x1=>?_;go_wp2_with fail;obtain⟨z,hz⟩:=Zb (w1.heap.size);obtain⟨W2,hW2⟩:=Zb (w1.alloc (.cells #[.int .i64 ht,.int .i64 hi,.int .u32 hg] 332));have b2:Zn W2 z [.int .i64 ht,.int .i64 hi,.int .u32 hg]:=by rw[←hW2];exact Zn.new w1 [.int .i64 ht,.int .i64 hi,.int .u32 hg] _ hz
 have x2:Ext w W2:=by rw[←hW2];exact x1.alloc _
 rw[hW2,hz];have k0:=fun d os=>cell_regrown (b2.c 0 _ rfl) d os
 have k6:=fun d os=>cell_regrown ((HH.out.ext x2).box.c 6 _ rfl) d os
 clear hW2 hz x1 GE;rcases q2 with rfl|hq
 ·by_cases e:ht=(t:Int)
  ·rw[if_pos ⟨rfl,e⟩] at hr;obtain⟨e1,e2⟩:p=s∧decide (k=0)=r:=by cases hr;exact⟨rfl,rfl⟩
   have tk:(k==0)=r:=by rw[←e2];by_cases z:k=0<;>simp[z]
   subst e1;clear hr e2;have te:(ht != (t:Int))=false:=by simpa using e
   refine wp_region_quiet_below (by kernel_rfl) (by kernel_rfl) ?_
   repeat (any_goals (first|go_big_quiet_step (fail)|quiet_step (fail)))
   refine wpQuiet_nil ?_;intro _ hw';obtain⟨⟨dq,osq⟩,hw''⟩:=hw';obtain⟨WQ,hWQ⟩:=Zs hw'';have xq:=hWQ.2;obtain rfl:=hWQ.1;clear hw'' hWQ;go_wp2_with fail;have x3:=x2.trans xq;have k1:=fun d os=>cell_regrown (xq.cell (b2.c 1 _ rfl)) d os
   have k2:=fun d os=>cell_regrown (xq.cell (b2.c 2 _ rfl)) d os
   have k7:=fun d os=>cell_regrown ((HH.out.ext x3).box.c 7 _ rfl) d os
   clear k0 k6 te e;obtain⟨V,hV⟩:=Zb (Sort.grow (redrawn W2 dq) osq);refine wp_region_quiet_below (by kernel_rfl) (by kernel_rfl) ?_
   repeat (any_goals (first|go_big_quiet_step (first|(go_at_call 17;with_reducible exact Vp (TB.out _ (x3.trans (Zk _ _ _))))|(go_at_call 240;with_reducible exact Vp (LK.out _ (x3.trans (Zk _ _ _)))))|quiet_step (first|(go_at_call 17;with_reducible exact Vp (TB.out _ (x3.trans (Zk _ _ _))))|(go_at_call 240;with_reducible exact Vp (LK.out _ (x3.trans (Zk _ _ _)))))))
   refine Zc fun WQ xq=>?_;go_wp2;go_ret2;exact⟨rfl,x3.trans xq⟩
  ·rw[if_neg (fun z=>e z.2)] at hr;cases hr;have te:(ht != (t:Int))=true:=by simpa using e
   clear e;refine wp_region_quiet_below (by kernel_rfl) (by kernel_rfl) ?_
   repeat (any_goals (first|go_big_quiet_step (fail)|quiet_step (fail)))
   refine Zc fun WQ xq=>?_;go_wp2;go_ret2;exact⟨rfl,x2.trans xq⟩
 ·rw[if_neg (fun z=>hq z.1)] at hr;cases hr;have te:(q != 0)=true:=by simpa using hq
  clear hq;refine wp_region_quiet_below (by kernel_rfl) (by kernel_rfl) ?_
  repeat (any_goals (first|go_big_quiet_step (fail)|quiet_step (fail)))
  refine Zc fun WQ xq=>?_;go_wp2;go_ret2;exact⟨rfl,x2.trans xq⟩
theorem Zgb{s i k:Int}{b:Bool}(h:Zv w H c t n x)(hr:Xa c t x.y s i=(b,k)):Calls prog 282 #[H.hb,.int .i64 s,.int .i64 i] w fun e w'=>e=.returned (.tuple #[b,.int .i64 k])∧Ext w w':=by
 have c7:=h.box.c 7 _ rfl;obtain⟨hd,q,hq⟩:∃hd q,Zz c t x.y.ws s=(hd,q):=⟨_,_,rfl⟩;unfold Xa at hr;rw[hq] at hr;simp only at hr;have BD:=Za (Oh h.cy);have HD:=Za (Xf h.cy.i.k.body hq);have FD:=Za (fun W:World=>Fv hd i b k (w:=W) hr);clear h hr hq;go_enter func282,ntmps282;go_wp2_with fail;refine(BD.out).zz ?_;go_wp2_with fail;refine HD.out.ze fun w1 x1=>?_;go_wp2_with fail;refine(FD.out _).ze fun w2 x2=>?_;go_wp2;go_ret2;exact⟨rfl,(x1.alloc _).trans x2⟩
theorem HW.end_(h:HW c t n a d F x)(hp:x.y.ph≠0)(hd:d+1≤1048576):HW c t n a (d+1) F (Ck c t n c.gens F x):=by
 have e:=Iy h.ok hp h.F;exact⟨e.ok,h.a,hd,by have:=h.F;unfold Z7 at this ⊢;rw[e.len];exact this⟩
theorem HW.begin_(h:HW c t n a d F x)(hp:x.y.ph=0)(hd:d+1≤1048576):HW c t n a (d+1) F (Vi c t x):=by
 have e:=Pi h.ok hp;exact⟨e.ok,h.a,hd,by have:=h.F;unfold Z7 at this ⊢;rw[e.l];exact this⟩
theorem Zne{g:Nat}{fa fb:Array Value}{is:CY→Bool}{K:World→Prop}(h:Zv w H c t n x)(k0:K w)(hK:∀W W',K W→Chg H.hpP W W'→K W')(hw:HW c t n a d F x)(hd:d+3≤1048576)(hk:x.work≤400000000)
  (eg:Zi prog g) (his:∀W x',Zv W H c t n x'→K W→Calls prog g (fa++fb) W fun e W'=>e=.returned (.bool (is x'.y))∧Ext W W') :
  Calls prog 274 #[H.hb,.func (.func g) fa fb] w fun e w'=>e=.returned (.tuple #[])∧Zv w' H c t n (T6 c t n c.gens F is x)∧K w'∧Chg H.hpP w w':=by
 unfold Zi at eg;have mo:=h.most;obtain⟨S,hS⟩:∃S:HP→World→Prop,S=fun x' W=>Zv W H c t n x'∧K W∧Chg H.hpP w W:=⟨_,rfl⟩
 have IS:Hid (∀W x' b,S x' W→is x'.y=b→Calls prog g (fa++fb) W fun e W'=>e=.returned (.bool b)∧S x' W'):=Za fun W x' b hs hb=>by
  rw[hS] at hs ⊢;refine(his W x' hs.1 hs.2.1).mono fun e W' q=>⟨by rw[←hb];exact q.1,hs.1.ext q.2,hK _ _ hs.2.1 (Zy3 q.2),hs.2.2.trans (Zy3 q.2)⟩
 have PH:Hid (∀W x' p,S x' W→x'.y.ph=p→Calls prog 225 #[H.B.yb] W fun e W'=>e=.returned (.int .u8 (p:Int))∧W=W'):=Za fun W x' p hs hp=>by
  rw[hS] at hs;exact Zbk hs.1.cy hp
 have EN:Hid (∀W x' d',S x' W→HW c t n a d' F x'→x'.y.ph≠0→x'.work≤1000000000→Calls prog 313 #[H.hb] W fun e W'=>e=.returned (.tuple #[])∧S (Ck c t n c.gens F x') W'):=Za fun W x' d' hs hw' hp hk'=>by
  rw[hS] at hs ⊢;refine(Ztl hs.1 hw' hp hk').mono fun e W' q=>⟨q.1,q.2.1,hK _ _ hs.2.1 q.2.2,hs.2.2.trans q.2.2⟩
 have BE:Hid (∀W x' d',S x' W→HW c t n a d' F x'→Calls prog 314 #[H.hb] W fun e W'=>e=.returned (.tuple #[])∧S (Vi c t x') W'):=Za fun W x' d' hs hw'=>by
  rw[hS] at hs ⊢;refine(Zga hs.1 hw').mono fun e W' q=>⟨q.1,q.2.1,hK _ _ hs.2.1 q.2.2,hs.2.2.trans q.2.2⟩
 have C7:Hid (∀W x',S x' W→W.cell? ⟨H.hb,7,none⟩=some (H.B.yb:Value)):=Za fun W x' hs=>by
  rw[hS] at hs;exact hs.1.box.c 7 _ rfl
 have S0:Hid (S x w):=Za (by rw[hS];exact⟨h,k0,Chg.refl _ _⟩);have FIN:Hid (∀x' W,S x' W→x'=T6 c t n c.gens F is x→Zv W H c t n (T6 c t n c.gens F is x)∧K W∧Chg H.hpP w W):=Za fun x' W hs e=>by
  rw[hS] at hs;rw[←e];exact hs
 have HWx:=Za hw;have HD:=Za hd;have HKK:=Za hk;have MO:=Za mo;obtain⟨p,hp⟩:=Zb (x.y.ph);have HPP:=Za hp;obtain⟨x1,hx1⟩:=Zb (Vj c t n c.gens F is x);have HX1:=Za hx1;cases b1:is x.y with
 | true=>
  have e1:x1=x:=by rw[←hx1];unfold Vj;rw[if_neg (fun q=>by rw[b1] at q;cases q.1)]
  have ER:x=T6 c t n c.gens F is x:=by unfold T6;rw[hx1,e1,if_neg (by rw[b1];simp)]
  have B1:=Za b1;have HER:=Za ER;clear h k0 hK his hw hd hk mo hS hp hx1 e1 ER b1;go_enter func274,ntmps274;go_wp2_with fail;refine(IS.out _ _ _ S0.out B1.out).ze fun w1 s1=>?_;go_wp2_with fail;refine(IS.out _ _ _ s1 B1.out).ze fun w2 s2=>?_;go_wp2
  go_end0
  exact⟨rfl,FIN.out _ _ s2 HER.out⟩
 | false=>
  by_cases hp0:p=0
  ·have e1:x1=x:=by rw[←hx1];unfold Vj;rw[if_neg (fun q=>q.2 (by rw[hp];exact hp0))]
   have ER:Ck c t n c.gens F (Vi c t x)=T6 c t n c.gens F is x:=by unfold T6;rw[hx1,e1,if_pos b1]
   subst hp0;have bb:=Pi hw.ok hp;have W2:=Za (And.intro (hw.begin_ hp (by omega)) (And.intro (show(Vi c t x).y.ph≠0 by rw[bb.ph];simp) (show(Vi c t x).work≤1000000000 by rw[bb.work];omega)));have B1:=Za b1;have HER:=Za ER;clear h k0 hK his hw hd hk mo hS hp hx1 e1 ER b1 bb;go_enter func274,ntmps274;go_wp2_with fail;refine(IS.out _ _ _ S0.out B1.out).ze fun w1 s1=>?_;have c7:=C7.out _ _ s1;go_wp2_with fail;refine(PH.out _ _ _ s1 HPP.out).zz ?_;go_wp2_with fail;refine(IS.out _ _ _ s1 B1.out).ze fun w2 s2=>?_;go_wp2_with fail;refine(BE.out _ _ _ s2 HWx.out).ze fun w3 s3=>?_;go_wp2_with fail;refine(EN.out _ _ _ s3 W2.out.1 W2.out.2.1 W2.out.2.2).ze fun w4 s4=>?_;go_wp2
   go_end0
   exact⟨rfl,FIN.out _ _ s4 HER.out⟩
  ·have e1:x1=Ck c t n c.gens F x:=by rw[←hx1];unfold Vj;rw[if_pos ⟨b1,by rw[hp];exact hp0⟩]
   have tp:((p:Int) != 0)=true:=by simp;omega
   have ee:=Iy hw.ok (by rw[hp];exact hp0) hw.F;have we:=hw.end_ (by rw[hp];exact hp0) (by omega);have wk1:(Ck c t n c.gens F x).work≤600000000:=by have:=ee.work;omega
   have Q1:=Za (And.intro (show x.y.ph≠0 by rw[hp];exact hp0) (show x.work≤1000000000 by omega));rw[←e1] at wk1 we;have ep:=ee.ph;rw[←e1] at ep;have HE1:=Za e1;cases b2:is x1.y with
   | true=>
    have ER:x1=T6 c t n c.gens F is x:=by unfold T6;rw[hx1,if_neg (by rw[b2];simp)]
    have B1:=Za b1;have B2:=Za b2;have HER:=Za ER;clear h k0 hK his hw hd hk mo hS hp hx1 e1 ER b1 b2 ee we wk1 ep;go_enter func274,ntmps274;go_wp2_with fail;refine(IS.out _ _ _ S0.out B1.out).ze fun w1 s1=>?_;have c7:=C7.out _ _ s1;go_wp2_with fail;refine(PH.out _ _ _ s1 HPP.out).zz ?_;go_wp2_with fail;refine(EN.out _ _ _ s1 HWx.out Q1.out.1 Q1.out.2).ze fun w2 s2=>?_;rw[←HE1.out] at s2;go_wp2_with fail;refine(IS.out _ _ _ s2 B2.out).ze fun w3 s3=>?_;go_wp2
    go_end0
    exact⟨rfl,FIN.out _ _ s3 HER.out⟩
   | false=>
    have ER:Ck c t n c.gens F (Vi c t x1)=T6 c t n c.gens F is x:=by unfold T6;rw[hx1,if_pos b2]
    have bb:=Pi we.ok ep;have W1:=Za we;have W2:=Za (And.intro (we.begin_ ep (by omega)) (And.intro (show(Vi c t x1).y.ph≠0 by rw[bb.ph];simp) (show(Vi c t x1).work≤1000000000 by rw[bb.work];omega)));have B1:=Za b1;have B2:=Za b2;have HER:=Za ER;clear h k0 hK his hw hd hk mo hS hp hx1 e1 ER b1 b2 ee we wk1 ep bb;go_enter func274,ntmps274;go_wp2_with fail;refine(IS.out _ _ _ S0.out B1.out).ze fun w1 s1=>?_;have c7:=C7.out _ _ s1;go_wp2_with fail;refine(PH.out _ _ _ s1 HPP.out).zz ?_;go_wp2_with fail;refine(EN.out _ _ _ s1 HWx.out Q1.out.1 Q1.out.2).ze fun w2 s2=>?_;rw[←HE1.out] at s2;go_wp2_with fail;refine(IS.out _ _ _ s2 B2.out).ze fun w3 s3=>?_;go_wp2_with fail;refine(BE.out _ _ _ s3 W1.out).ze fun w4 s4=>?_;go_wp2_with fail;refine(EN.out _ _ _ s4 W2.out.1 W2.out.2.1 W2.out.2.2).ze fun w5 s5=>?_;go_wp2
    go_end0
    exact⟨rfl,FIN.out _ _ s5 HER.out⟩
theorem HOk.ask{gens wk:Int}{k:Int}(h:HOk c t n gens wk a d x)(hk:1≤k∧k≤64):HOk c t n gens wk (a+1) d { x with p:=(Zdg x.p k).1 }:=by
 have si:=h.si;have tt:=h.to;have de:=h.de;have ss:=h.ss;have tr:=h.tr;have ks:0≤k*x.p.sst∧k*x.p.sst≤65536:=by
  refine⟨Int.mul_nonneg (by omega) ss.1,?_⟩;have h1:=Int.mul_le_mul_of_nonneg_right (c:=x.p.sst) hk.2 ss.1;omega
 have ask:∀s':Int,(s'=0∨s'=x.p.since+k)→HOk c t n gens wk (a+1) d { x with p:={ x.p with since:=s',total:=x.p.total+k,debt:=if x.p.act then x.p.debt+k*x.p.sst else x.p.debt } }:=by
  intro s' hs;refine⟨h.y,h.pa,tr,ss,?_,by (try simp only);omega,?_,fun q=>?_,h.cy,h.fl⟩
  ·(try simp only);rcases hs with rfl|rfl<;>omega
  ·(try simp only);split<;>omega
  ·simp only at q ⊢;rw[q,if_neg (by simp)];exact h.na q
 unfold Zdg;split
 ·exact ask _ (.inr rfl)
 ·exact ask _ (.inl rfl)
theorem Zrj(p:PC)(k:Int):(Zdg p k).2=0∨(Zdg p k).2=1∨(Zdg p k).2=2:=by
 unfold Zdg;split
 ·exact .inl rfl
 ·(try simp only);split
  ·exact .inr (.inr rfl)
  ·exact .inr (.inl rfl)
def Zxx(b:Nat)(W:World):Nat:=match W.cell? ⟨b,9,none⟩ with
 | some (.int _ v)=>v.toNat
 | _=>0
theorem Znf(h:Zv w H c t n x):Zxx H.hb w=x.work:=by
 unfold Zxx;have c9:w.cell? ⟨H.hb,9,none⟩=some (.int .i64 (x.work:Int)):=h.box.c 9 _ rfl;rw[c9];simp
theorem HW.paid(h:HW c t n a d F x)(hr:(Vn c t n x.y).2=true):HW c t n a d F ⟨(Vn c t n x.y).1,Zlj x.p 1,x.work+1⟩∧(Vn c t n x.y).1.steps=x.y.steps+1∧(Vn c t n x.y).1.l=x.y.l:=by
 have md:=Tr h.ok.y;have pn:=Zl4 h.ok.y hr;have pn2:=md.ph pn;have de:=h.ok.de;refine⟨⟨⟨md.ok,?_,h.ok.tr,h.ok.ss,h.ok.si,h.ok.to,?_,?_,h.ok.cy,?_⟩,h.a,h.d,?_⟩,md.yes hr,md.l⟩
 ·show x.p.act=_;rw[h.ok.act1 pn];exact(Zyy pn2).symm
 ·unfold Zlj;(try simp only);split<;>omega
 ·intro q2;exact absurd (h.ok.act1 pn) (by rw[show x.p.act=false from q2];simp)
 ·(try simp only);rw[md.fl];exact h.ok.fl
 ·have:=h.F;(try simp only);rw[md.l];exact this
structure Zxd(w wr:World)(H:HB)(c:Zh)(t n a d F:Nat)(x:HP)(f:Nat)(z:HP):Prop where
 at_:Zv wr H c t n z
 hw:HW c t n a d F z
 l:z.y.l=x.y.l
 fu:Z7 c t z.y.l<f+z.y.steps
 wk:z.work+x.y.steps=x.work+z.y.steps
 eq:Vd c t n F x=Vd c t n f z
 ch:Chg H.hpP w wr
theorem Kq{f:Nat}{z:HP}(h:¬(0<z.p.debt∧(Vn c t n z.y).2=true)):Vd c t n f z=z:=by
 cases f with
 | zero=>rfl
 | succ f=>unfold Vd;rw[if_neg h]
theorem Zrk{k:Int}(h:Zv w H c t n x)(hw:HW c t n a d F x)(hk:1≤k∧k≤64)(ha:a+1≤1048576)(hx:x.work≤700000000) :
  Calls prog 281 #[H.hb,.int .i64 k] w fun e w'=>e=.returned (.tuple #[])∧Zv w' H c t n (Pf c t n c.gens F x k)∧Chg H.hpP w w':=by
 have c8:=h.box.c 8 _ rfl;have mo:=h.most;obtain⟨q,due,hq⟩:∃q due,Zdg x.p k=(q,due):=⟨_,_,rfl⟩;have dd:=Zrj x.p k;rw[hq] at dd;have hz:=hw.ok.ask hk;rw[hq] at hz;simp only at hz dd;obtain⟨x0,hx0⟩:∃x0:HP,{ x with p:=q }=x0:=⟨_,rfl⟩;rw[hx0] at hz;have ey:x0.y=x.y∧x0.work=x.work:=by rw[←hx0];exact⟨rfl,rfl⟩
 have hw0:HW c t n (a+1) d F x0:=⟨hz,ha,hw.d,by have:=hw.F;rw[ey.1];exact this⟩;have AK:Hid (Calls prog 325 #[H.qb,.int .i64 k] w fun e W'=>e=.returned (.tuple #[.int .u8 due,(0:Int)])∧Zv W' H c t n x0∧Chg H.hpP w W'):=
  Za ((Zrf (w:=w) (b:=H.qb) (show Wd w H.qb ⟨x.p.tr,x.p.sst,x.p.since,x.p.total,x.p.debt,x.p.cyc,x.p.act⟩ from h.pc) hw.pok hk hq).mono fun e W' r=>by
   obtain⟨r1,r2⟩:=h.pcTo r.2.1 r.2.2;rw[hx0] at r1;exact⟨r.1,r1,r2⟩)
 have st0:=hw0.ok.y.st.1;have I0:Hid (∀W,Zv W H c t n x0→Chg H.hpP w W→Zxd w W H c t n (a+1) d F x0 F x0):=Za fun W hW hc=>⟨hW,hw0,rfl,by have:=hw0.F;omega,rfl,rfl,hc⟩
 obtain⟨z0,hz0⟩:=Zb (Vd c t n F x0);have EP:Pf c t n c.gens F x k=if due=1 then Vi c t z0 else if due=2 then Ck c t n c.gens F z0 else z0:=by
  unfold Pf;rw[hq];simp only;rw[hx0,hz0]
 have g0:=Oa F hw0.ok (by have:=hw0.F;omega);rw[hz0] at g0;have MB:Hid (Z7 c t x0.y.l≤176214016∧x0.work≤700000000):=Za ⟨by rw[ey.1];exact mo,by rw[ey.2];exact hx⟩;have wz:z0.work≤1000000000:=by
  have w1:=g0.work;have s1:=g0.ok.y.st.1;rw[g0.l] at s1;have:=MB.out;omega
 have hwz:HW c t n (a+1) d F z0:=⟨g0.ok,ha,hw.d,by have:=hw0.F;rw[g0.l];exact this⟩;have d2:due=2→z0.y.ph≠0:=fun e=>by
  have pa:x.p.act=true:=by
   have:=hq;unfold Zdg at this;split at this
   ·cases this;cases e
   ·cases hac:x.p.act with
    | true=>rfl
    | false=>rw[hac] at this;simp at this;have:=this.2;omega
  have ph:x.y.ph≠0:=by
   have:=hw.ok.pa;rw[pa] at this;exact Zy7 this.symm
  exact g0.ph (by rw[ey.1];exact ph)
 have d1:HW c t n (a+1) d F z0∧(due=2→z0.y.ph≠0)∧z0.work≤1000000000:=⟨hwz,d2,wz⟩;have BE:Hid (∀W,Zv W H c t n z0→Calls prog 314 #[H.hb] W fun e W'=>e=.returned (.tuple #[])∧Zv W' H c t n (Vi c t z0)∧Chg H.hpP W W'):=Za fun W hW=>Zga hW d1.1
 have EN:Hid (due=2→∀W,Zv W H c t n z0→Calls prog 313 #[H.hb] W fun e W'=>e=.returned (.tuple #[])∧Zv W' H c t n (Ck c t n c.gens F z0)∧Chg H.hpP W W'):=Za fun e W hW=>Ztl hW d1.1 (d1.2.1 e) d1.2.2
 have HZ0:=Za hz0;rw[EP];clear h hw hk ha hx mo hq hz hx0 ey hw0 st0 EP g0 wz hwz d2 d1 hz0;go_enter func281,ntmps281;go_wp2_with fail;refine AK.out.mono ?_;rintro e w1 ⟨rfl,a1,x1⟩;have I1:=Za (I0.out _ a1 x1);clear a1 x1 I0 AK c8;go_wp2_with fail
 go_loopw [] (fun wr=>∃f z,Hid (Zxd w wr H c t n (a+1) d F x0 f z)) (fun wr=>x0.work+F+1-Zxx H.hb wr)
 case atStart=>exact⟨F,x0,I1⟩
 case round=>
  obtain⟨f,z,P⟩:=hrel;have c8:=P.out.at_.box.c 8 _ rfl;have c7:=P.out.at_.box.c 7 _ rfl;have DB:=Za (Znb P.out.at_.pc P.out.hw.pok);obtain⟨D,hD⟩:=Zb (z.p.debt);rw[hD] at DB;by_cases hd:0<D
  ·have td:decide (0<D)=true:=Zyy hd;obtain⟨y2,r,hy⟩:∃y2 r,Vn c t n z.y=(y2,r):=⟨_,_,rfl⟩;have zs:z.y.steps≤176214016:=by
    have s1:=P.out.hw.ok.y.st.1;have:=P.out.at_.most;omega
   have HP:=Za (Zf4 P.out.at_.cy (by omega) hy);have HY:=Za hy;cases r with
   | false=>
    have md:=Tr P.out.hw.ok.y;rw[hy] at md;have e2:y2=z.y:=md.no rfl;subst e2;have PP:Hid (Zxd w wr H c t n (a+1) d F x0 f z∧¬(0<z.p.debt∧(Vn c t n z.y).2=true)):=Za ⟨P.out,fun q=>by rw[hy] at q;cases q.2⟩;clear md hy zs hd hD;go_wp2_with fail;refine DB.out.zz ?_;go_wp2_with fail;refine HP.out.mono ?_;rintro e wZ ⟨rfl,a1,x1⟩;obtain⟨a2,x2'⟩:=P.out.at_.cyTo a1 x1;have x2:=P.out.ch.trans x2';clear a1 x1 x2';have a0:Zv wZ H c t n z0:=by rw[←HZ0.out,PP.out.1.eq,Kq PP.out.2];exact a2
    have A0:=Za (And.intro a0 x2);clear a2 x2 a0;rcases dd with rfl|rfl|rfl
    ·go_wp2
     go_end0
     exact⟨rfl,A0.out.1,A0.out.2⟩
    ·go_wp2_with fail;refine(BE.out _ A0.out.1).mono ?_;rintro e w5 ⟨rfl,a5,x5⟩;go_wp2
     go_end0
     exact⟨rfl,a5,A0.out.2.trans x5⟩
    ·go_wp2_with fail;refine(EN.out trivial _ A0.out.1).mono ?_;rintro e w5 ⟨rfl,a5,x5⟩;go_wp2
     go_end0
     exact⟨rfl,a5,A0.out.2.trans x5⟩
   | true=>
    obtain⟨nw,s1,l1⟩:=P.out.hw.paid (by rw[hy]);rw[hy] at nw s1 l1;simp only at nw s1 l1;have fpos:f≠0:=by have:=P.out.fu;have:=P.out.hw.ok.y.st.1;omega
    obtain⟨f',rfl⟩:∃f',f=f'+1:=⟨f-1,by omega⟩;have eqn:Vd c t n (f'+1) z=Vd c t n f' ⟨y2,Zlj z.p 1,z.work+1⟩:=by
     conv=>lhs;unfold Vd
     rw[if_pos ⟨by rw[hD];exact hd,by rw[hy]⟩,hy]
    have wb:z.work+1<1099511627776:=by have:=P.out.wk;have:=MB.out;omega
    obtain⟨K,hK⟩:=Zb (z.work);have wj:IntKind.i64.wrap ((K:Int)+1)=((K+1:Nat):Int):=by rw[IntWalk.i64_in _ (by omega)];omega
    rw[hK] at wb nw eqn;obtain⟨J,hJ⟩:=Zb (K+1);rw[hJ] at wj wb nw eqn;have POK:=Za P.out.hw.pok;have PY:Hid (∀W,Zv W H c t n ⟨y2,z.p,J⟩→Calls prog 328 #[H.qb,(1:Int)] W fun e W'=>∃v:Int,e=.returned (.int .i64 v)∧Zv W' H c t n ⟨y2,Zlj z.p 1,J⟩∧Chg H.hpP W W'):=
     Za fun W hW=>(Zre hW.pc POK.out (by decide)).mono fun e W' ⟨v,q1,q2,q3⟩=>by
      obtain⟨r1,r2⟩:=hW.pcTo q2 q3;exact⟨v,q1,r1,r2⟩
    have NW:=Za nw;have EQ:=Za eqn;have SL:=Za (And.intro s1 l1);have WB:=Za wb;have HK:=Za hK;have HJ:=Za hJ;clear nw eqn s1 l1 wb hK hJ fpos zs hd hD hy;go_wp2_with fail;refine DB.out.zz ?_;go_wp2_with fail;refine HP.out.mono ?_;rintro e w3 ⟨rfl,a1,x1⟩;obtain⟨a2,x2⟩:=P.out.at_.cyTo a1 x1;have c9:w3.cell? ⟨H.hb,9,none⟩=some (.int .i64 (K:Int)):=by rw[←HK.out];exact a2.box.c 9 _ rfl
    have f9:=a2.box.f 9;obtain⟨a3,x3⟩:=a2.wkTo WB.out;have A3:=Za (And.intro a3 ((P.out.ch.trans x2).trans x3));have c8:=a3.box.c 8 _ rfl;clear a1 x1 a2 x2 a3 x3;go_wp2_with fail;refine(PY.out _ A3.out.1).mono ?_;rintro e w4 ⟨v,rfl,a4,x4⟩;have A4:=Za (And.intro a4 (A3.out.2.trans x4));clear a4 x4;go_wp2;go_roundw
    case rel=>
     refine⟨f',_,Za ⟨A4.out.1,NW.out,by (try simp only);rw[SL.out.2];exact P.out.l,by (try simp only);rw[SL.out.1,SL.out.2];have:=P.out.fu;omega,by (try simp only);have:=P.out.wk;have:=SL.out.1;have:=HK.out;have:=HJ.out;omega,by rw[P.out.eq];exact EQ.out,A4.out.2⟩⟩
    case measure=>
     have e1:=Znf A4.out.1;have e2:=Znf P.out.at_;simp only at e1;rw[e1,e2];have s1:=P.out.hw.ok.y.st.1;have yf:=P.out.hw.F;have:=P.out.wk;have:=HK.out;have:=HJ.out;omega
  ·have td:decide (0<D)=false:=Zyx hd;have PP:Hid (Zxd w wr H c t n (a+1) d F x0 f z∧¬(0<z.p.debt∧(Vn c t n z.y).2=true)):=Za ⟨P.out,fun q=>hd (by rw[←hD];exact q.1)⟩;clear hd hD;go_wp2_with fail;refine DB.out.zz ?_;have a2:=P.out.at_;have x2:=P.out.ch;have a0:Zv wr H c t n z0:=by rw[←HZ0.out,PP.out.1.eq,Kq PP.out.2];exact a2
   have A0:=Za (And.intro a0 x2);clear a2 x2 a0;rcases dd with rfl|rfl|rfl
   ·go_wp2
    go_end0
    exact⟨rfl,A0.out.1,A0.out.2⟩
   ·go_wp2_with fail;refine(BE.out _ A0.out.1).mono ?_;rintro e w5 ⟨rfl,a5,x5⟩;go_wp2
    go_end0
    exact⟨rfl,a5,A0.out.2.trans x5⟩
   ·go_wp2_with fail;refine(EN.out trivial _ A0.out.1).mono ?_;rintro e w5 ⟨rfl,a5,x5⟩;go_wp2
    go_end0
    exact⟨rfl,a5,A0.out.2.trans x5⟩
end
section
variable{c:Zh}{t n:Nat}{gens wk:Int}{L:Nat→Prop}{a d F:Nat}{x:HP}
theorem Zgc{l:List Ent}{i g:Int}(h:Gh l i g):∃j:Nat,i=j∧j<l.length∧(Zx l j).st=1∧Nb l i g=((Zx l j).s,0):=by
 obtain⟨j,rfl⟩:∃j:Nat,i=j:=⟨i.toNat,by have:=h.1;omega⟩;refine⟨j,rfl,by have:=h.2.1;omega,by simpa using h.2.2.1,?_⟩;unfold Nb;rw[if_pos h];simp
structure Zeh(c:Zh)(t:Nat)(y:CY)(s:Int):Prop where
 lo:0≤s
 hi:s<(nS c t:Int)
 no:∀L,Gar c t y L→¬L s.toNat
theorem Zgd{u:Int}(h:YOk c t n gens wk x.y)(hs:(Vc t x.y u).2=true):Zeh c t x.y (Vc t x.y u).1:=by
 unfold Vc at hs ⊢;split at hs
 ·rename_i q;rw[if_pos q];simp only[decide_eq_true_eq] at hs;have hi:Gh x.y.l (Ln u).1.i (Ln u).1.g:=by
   unfold Nb at hs;split at hs
   ·assumption
   ·simp at hs
  obtain⟨j,e1,e2,e3,e4⟩:=Zgc hi;have lv:=h.live j e3;refine⟨?_,?_,fun L hg=>?_⟩
  ·show 0≤(Nb x.y.l (Ln u).1.i (Ln u).1.g).1;rw[e4];exact lv.1
  ·show(Nb x.y.l (Ln u).1.i (Ln u).1.g).1<_;rw[e4];exact lv.2
  ·show ¬L (Nb x.y.l (Ln u).1.i (Ln u).1.g).1.toNat;rw[e4]
   have:=hg.clo.live j (by rw[Oc e2 e3]);rw[Oc e2 e3] at this;exact this
 ·cases hs
structure Ztm(c:Zh)(t n:Nat)(gens wk:Int)(a d:Nat)(x:HP)(y':CY)(s:Int):Prop where
 ok:HOk c t n gens wk a d { x with y:=y' }
 l:y'.l=x.y.l
 bs:y'.bs=x.y.bs
 ws:y'.ws=x.y.ws
 ms:y'.ms=x.y.ms
 ph:y'.ph=x.y.ph
 gar:∀L:Nat→Prop,¬L s.toNat→Gar c t x.y L→Gar c t y' L
theorem HOk.shade(h:HOk c t n gens wk a d x)(s:Int):Ztm c t n gens wk a d x (Y5 c t n x.y s) s:=by
 obtain⟨m',em,mt,ms⟩:=Zdp h.y s;have yk:=h.y.turn (ws':=x.y.ws) (bs':=x.y.bs) (l':=x.y.l) (ms':=x.y.ms) (m':=m') h.y.wl h.y.wo h.y.bl h.y.ml mt rfl h.y.live h.y.gen h.y.fh (fun s hs=>(h.y.dm s hs).2) h.y.ro;rw[em];exact⟨⟨yk,h.pa,h.tr,h.ss,h.si,h.to,h.de,h.na,h.cy,by (try simp only);rw[mt.fl];exact h.fl⟩,rfl,rfl,rfl,rfl,rfl,fun L q hg=>⟨hg.tk,hg.clo,ms L q hg.ms,hg.sw,hg.ph⟩⟩
theorem HOk.shades(h:HOk c t n gens wk a d x)(s:Int):Ztm c t n gens wk a d x (Ym c t n x.y s) s:=by
 unfold Ym;split
 ·exact h.shade s
 ·exact⟨h,rfl,rfl,rfl,rfl,rfl,fun _ _ q=>q⟩
theorem HOk.store(h:HOk c t n gens wk a d x){s i v:Int}{ref:Bool}(hv:0≤v∧v<18446744073709551616)(hr:ref=true→v≤(nS c t:Int)) :
  HOk c t n gens wk a d { x with y:={ x.y with ws:=(Wk c t x.y.ws s i ref v).1 } }∧∀L:Nat→Prop,(ref=true→1≤v→¬L (v-1).toNat)→Gar c t x.y L→Gar c t { x.y with ws:=(Wk c t x.y.ws s i ref v).1 } L:=by
 have ko:=h.y.ko;have ti:=h.y.ti;have wl:=h.y.wl;have yk:=h.y.turn (ws':=(Wk c t x.y.ws s i ref v).1) (bs':=x.y.bs) (l':=x.y.l) (ms':=x.y.ms) (m':=x.y.m) (by rw[Zhi];exact wl) (Ay h.y.wo hv) h.y.bl h.y.ml (Ph.refl _ _) rfl h.y.live h.y.gen
  (fun s' hs' hb=>by rw[Lv ko ti wl s' hs'];exact h.y.fh s' hs' hb)
  (fun s' hs'=>by have q:=h.y.dm s' hs';rw[Lv ko ti wl s' q.1];exact q.2)
  (h.y.ro.store ko ti wl hr)
 refine⟨⟨yk,h.pa,h.tr,h.ss,h.si,h.to,h.de,h.na,h.cy,h.fl⟩,fun L hl hg=>⟨hg.tk,⟨fun s' hs' hn k h1 h2=>?_,hg.clo.live,hg.clo.pin⟩,hg.ms,hg.sw,hg.ph⟩⟩;simp only at h1 h2 ⊢;rcases Zl2 ko ti wl (s:=s) (i:=i) (x:=v) (ref:=ref) s' hs' k with q|⟨q1,q|q⟩
 ·rw[q] at h1 h2 ⊢;exact hg.clo.ref s' hs' hn k h1 h2
 ·exact absurd h1 q
 ·rw[q] at h2 ⊢;exact hl q1 (by omega)
theorem Zbu{y:CY}{s i:Int}(ro:Q7 c t y.ws)(h0:(Xa c t y s i).2=0):(Zz c t y.ws s).2=0 ∧
  ((Xa c t y s i).1=true→(U2 c t y.ws s i).2=0∧(U2 c t y.ws s i).1<(nS c t:Int)):=by
 unfold Xa at h0 ⊢;obtain⟨hd,k,hh⟩:∃hd k,Zz c t y.ws s=(hd,k):=⟨_,_,rfl⟩;rw[hh] at h0 ⊢;have hf:=Uh (h:=hd) (i:=i) (r:=(U5 hd i).1) (Prod.ext rfl h0);have k0:k=0:=by
  rcases Zkp (c:=c) (t:=t) (ws:=y.ws) (s:=s) with q|q|q
  ·rw[hh] at q;exact q
  ·rw[hh] at q;have:hd=Sw:=congrArg Prod.fst q;rw[this] at hf;have:=hf.2.1;have:=hf.2.2.1;simp[Sw] at *;omega
  ·rw[hh] at q;have:hd=Sw:=congrArg Prod.fst q;rw[this] at hf;have:=hf.2.1;have:=hf.2.2.1;simp[Sw] at *;omega
 subst k0;refine⟨rfl,fun hr=>?_⟩;obtain⟨j,rfl⟩:∃j:Nat,i=j:=⟨i.toNat,by have:=hf.2.1;omega⟩;have hj:(j:Int)<hd.r:=by
  have:=hf.2.2.2;simp only at hr;rw[hr] at this;exact Zy7 this.symm
 have e:=Zks hh ro hj;rw[e];have:=ro s (by rw[hh]) j (by rw[hh];exact hj);exact⟨rfl,by show bwd c t y.ws s (1+j)-1<_;omega⟩
theorem Zrl{p s:Int}(h:HOk c t n gens wk a d x)(hx:x.work=0)(hF:Z7 c t x.y.l<F)(hs:Zeh c t x.y s):OpF c t n gens wk a d 2 x (Su c t n gens F x p s):=by
 unfold Su;split
 ·exact OpF.plain hx h rfl rfl rfl (fun _ hg=>hg) (.inl (by decide))
 ·rename_i q1;split
  ·exact OpF.plain hx h rfl rfl rfl (fun _ hg=>hg) (.inl (by decide))
  ·rename_i q2;obtain⟨f1,f2⟩:=Zbu h.y.ro (Decidable.byContradiction q1);obtain⟨f3,f4⟩:=f2 (by simpa using q2);simp only;split
   ·exact OpF.plain hx h rfl rfl rfl (fun _ hg=>hg) (.inl (by decide))
   ·rename_i q3;have nl:∀L,Gar c t x.y L→¬L (U2 c t x.y.ws s p).1.toNat:=fun L hg=>by
     obtain⟨s,rfl⟩:∃s':Nat,s=s':=⟨s.toNat,by have:=hs.lo;omega⟩;exact hg.clo.ref s (by have:=hs.hi;omega) (by simpa using hs.no L hg) p f3 (by omega)
    generalize (U2 c t x.y.ws s p).1=tq at *
    have rm:=Cr Xz h hF
    generalize T6 c t n gens F Xz x=x1 at rm ⊢
    split
    ·exact OpF.room hx rm (.inl (by decide))
    ·rename_i q4;have sh:=rm.ok.shade tq;have fr:Xz x1.y=true:=by simpa using q4
     have mi:=Cv (s:=tq) sh.ok (by unfold Xz;rw[show({ x1 with y:=Y5 c t n x1.y tq }:HP).y.l=x1.y.l from sh.l];exact fr) ⟨by omega,f4⟩;refine⟨(mi.ok.mono (by omega)).up (by omega),?_,?_,fun L hg=>?_,fun e=>(by cases e)⟩
     ·rw[mi.len];simp only;rw[sh.l,rm.len]
     ·simp only;rw[mi.work];simp only;rcases rm.or with r|r
      ·have:x1.work=0:=by rw[r];exact hx
       omega
      ·have:=r.2.2.1;omega
     ·rcases rm.or with r|r
      ·left
       have e1:x1.p.cyc=x.p.cyc:=by rw[r]
       refine⟨by simp only;rw[mi.p];exact e1,mi.gar L (nl L hg) (sh.gar L (nl L hg) ?_)⟩;rw[r];exact hg
      ·right
       refine⟨by simp only;rw[mi.p];exact r.2.1,fun s' hs'=>.inl ?_⟩;simp only;rw[mi.bs];simp only;rw[sh.bs];exact r.2.2.2 L hg s' hs'
theorem Zng{p v s:Int}(h:HOk c t n gens wk a d x)(hx:x.work=0)(hv:0≤v∧v<18446744073709551616)(hs:Zeh c t x.y s):OpF c t n gens wk a d 3 x (Wu c t n x p v s):=by
 have ns:=h.y.ko.nS_le h.y.ti;unfold Wu;split
 ·exact OpF.plain hx h rfl rfl rfl (fun _ hg=>hg) (.inl (by decide))
 ·rename_i q1;split
  ·obtain⟨g1,g2⟩:=h.store (s:=s) (i:=p) (v:=v) (ref:=false) hv (fun e=>by cases e);exact OpF.plain hx g1 rfl rfl rfl (fun L hg=>g2 L (fun e=>by cases e) hg) (.inl (by decide))
  ·rename_i q2;obtain⟨f1,f2⟩:=Zbu h.y.ro (Decidable.byContradiction q1);obtain⟨f3,f4⟩:=f2 (by simpa using q2);split
   ·exact OpF.plain hx h rfl rfl rfl (fun _ hg=>hg) (.inl (by decide))
   ·rename_i q3;simp only;have tf:(if v=0 then -1 else (Vc t x.y v).1)=-1∨Zeh c t x.y (if v=0 then -1 else (Vc t x.y v).1):=by
     by_cases v0:v=0
     ·left;rw[if_pos v0]
     ·right;rw[if_neg v0]
      exact Zgd h.y (by cases q:(Vc t x.y v).2;exact absurd ⟨v0,q⟩ q3;rfl)
    generalize (if v=0 then -1 else (Vc t x.y v).1)=tq at tf ⊢
    have s1:=h.shades (U2 c t x.y.ws s p).1;have s2:=s1.ok.shades tq;simp only at s2
    generalize hy1:Ym c t n (Ym c t n x.y (U2 c t x.y.ws s p).1) tq=y1 at s2 ⊢
    have wl:y1.ws=x.y.ws:=s2.ws.trans s1.ws;have bd:-1≤tq∧tq<(nS c t:Int):=by
     rcases tf with q|q
     ·omega
     ·exact⟨by have:=q.lo;omega,q.hi⟩
    have hb:bIn c t s:=⟨hs.lo,hs.hi⟩;have es:Ry c t y1.ws s p tq=Wk c t y1.ws s p true (tq+1):=by unfold Ry;rw[if_pos ⟨hb,bd.1,bd.2⟩]
    rw[es];obtain⟨g1,g2⟩:=HOk.store (x:={ x with y:=y1 }) s2.ok (s:=s) (i:=p) (v:=tq+1) (ref:=true) ⟨by omega,by omega⟩ (fun _=>by omega);have oldn:∀L,Gar c t x.y L→Gar c t (Ym c t n x.y (U2 c t x.y.ws s p).1) L:=fun L hg=>by
     unfold Ym;split
     ·rename_i q;obtain⟨s,rfl⟩:∃s':Nat,s=s':=⟨s.toNat,by have:=hs.lo;omega⟩;exact(h.shade _).gar L (hg.clo.ref s (by have:=hs.hi;omega) (by simpa using hs.no L hg) p f3 q) hg
     ·exact hg
    refine OpF.plain hx g1 (by simp only;rw[s2.l,s1.l]) rfl rfl (fun L hg=>?_) (.inl (by decide));have ga:=oldn L hg;have gb:Gar c t y1 L:=by
     rcases tf with q|q
     ·rw[←hy1,q];unfold Ym;rw[if_neg (by decide)];exact ga
     ·exact s2.gar L (q.no L hg) ga
    refine g2 L (fun _ q=>?_) gb;rcases tf with r|r
    ·omega
    ·rw[show tq+1-1=tq by omega];exact r.no L hg
theorem Znh{ms:List Int}{s:Nat}{less:Bool}(i:Int)(h:0<Lp (Ty less ms (s:Int)).1 i):0<Lp ms i∨(i=s∧less=false):=by
 unfold Ty at h;split at h
 ·rename_i q;have hs:s<ms.length:=by omega
  simp only[Zy4] at h;have key:∀v:Int,(v≤nth ms s∨less=false)→0<Lp (ms.set s v) i→0<Lp ms i∨(i=s∧less=false):=by
   intro v hv hp;unfold Lp at hp ⊢;rw[List.length_set] at hp;split at hp
   ·rename_i r;rw[if_pos r];rw[Dj hs] at hp;split at hp
    ·rename_i e;rcases hv with hv|hv
     ·left;rw[e];omega
     ·right;exact⟨by omega,hv⟩
    ·exact .inl hp
   ·exact absurd hp (by decide)
  cases less
  ·simp only[Bool.false_eq_true,if_false] at h;split at h
   ·exact key _ (.inr rfl) h
   ·exact .inl h
  ·simp only[if_true] at h;split at h
   ·exact key _ (.inl (by omega)) h
   ·exact .inl h
 ·exact .inl h
theorem Hp(less:Bool)(ms:List Int)(s:Int):(Ty less ms s).1.length=ms.length:=by
 unfold Ty
 (repeat' split)<;>simp
theorem HOk.pins(h:HOk c t n gens wk a d x)(less:Bool){s:Int}(hs:0≤s):HOk c t n gens wk a d { x with y:={ x.y with ms:=(Ty less x.y.ms s).1 } }∧∀L:Nat→Prop,¬L s.toNat→Gar c t x.y L→Gar c t { x.y with ms:=(Ty less x.y.ms s).1 } L:=by
 have yk:=h.y.turn (ws':=x.y.ws) (bs':=x.y.bs) (l':=x.y.l) (ms':=(Ty less x.y.ms s).1) (m':=x.y.m) h.y.wl h.y.wo h.y.bl (by rw[Hp];exact h.y.ml) (Ph.refl _ _) rfl h.y.live h.y.gen h.y.fh (fun s hs=>(h.y.dm s hs).2) h.y.ro;refine⟨⟨yk,h.pa,h.tr,h.ss,h.si,h.to,h.de,h.na,h.cy,h.fl⟩,fun L hl hg=>⟨hg.tk,⟨hg.clo.ref,hg.clo.live,fun i hi=>?_⟩,hg.ms,hg.sw,hg.ph⟩⟩;obtain⟨s,rfl⟩:∃s':Nat,s=s':=⟨s.toNat,by omega⟩;simp only at hi;rcases Znh i hi with q|⟨q,_⟩
 ·exact hg.clo.pin i q
 ·rw[q];exact hl
theorem Zrm{s:Int}(h:HOk c t n gens wk a d x)(hx:x.work=0)(hs:Zeh c t x.y s):OpF c t n gens wk a d 4 x (K5 x s):=by
 obtain⟨g1,g2⟩:=h.pins false hs.lo;exact OpF.plain hx g1 rfl rfl rfl (fun L hg=>g2 L (hs.no L hg) hg) (.inl (by decide))
theorem Zi9{s:Int}(h:HOk c t n gens wk a d x)(hx:x.work=0)(hs:Zeh c t x.y s):OpF c t n gens wk a d 5 x (Wm c t n x s):=by
 unfold Wm;split
 ·exact OpF.plain hx h rfl rfl rfl (fun _ hg=>hg) (.inl (by decide))
 ·have sh:=h.shade s;obtain⟨g1,g2⟩:=HOk.pins (x:={ x with y:=Y5 c t n x.y s }) sh.ok true hs.lo;simp only[sh.ms] at g1 g2;exact OpF.plain hx g1 (by simp only;rw[sh.l]) rfl rfl (fun L hg=>g2 L (hs.no L hg) (sh.gar L (hs.no L hg) hg)) (.inl (by decide))
theorem HOk.drop(h:HOk c t n gens wk a d x)(i g:Int):HOk c t n gens wk a d { x with y:={ x.y with l:=(Gi x.y.l i g).1 } }∧(Gi x.y.l i g).1.length=x.y.l.length∧∀L,Gar c t x.y L→Gar c t { x.y with l:=(Gi x.y.l i g).1 } L:=by
 unfold Gi;split
 ·rename_i q;obtain⟨j,rfl,j1,j2,j3⟩:=Zgc q;simp only[Zy4];have gj:=h.y.gen j j1;have yk:=h.y.turn (ws':=x.y.ws) (bs':=x.y.bs) (l':=x.y.l.set j ⟨2,(Zx x.y.l j).s,(Zx x.y.l j).g⟩) (ms':=x.y.ms) (m':=x.y.m) h.y.wl h.y.wo h.y.bl h.y.ml (Ph.refl _ _) (by simp)
   (fun m hm=>by
    rw[Yq j1] at hm ⊢;split
    ·rename_i e;rw[if_pos e] at hm;cases hm
    ·rename_i e;rw[if_neg e] at hm;exact h.y.live m hm)
   (fun m hm=>by
    rw[List.length_set] at hm;rw[Yq j1];split
    ·exact⟨gj.1,gj.2.1,by simp⟩
    ·exact h.y.gen m hm) h.y.fh (fun s hs=>(h.y.dm s hs).2) h.y.ro
  refine⟨⟨yk,h.pa,h.tr,h.ss,h.si,h.to,h.de,h.na,h.cy,h.fl⟩,by simp,fun L hg=>⟨hg.tk,⟨hg.clo.ref,fun m hm=>?_,hg.clo.pin⟩,hg.ms,hg.sw,hg.ph⟩⟩;obtain⟨m,rfl,m2,m3,m4⟩:=Cu _ _ hm;rw[List.length_set] at m2;rw[m4];rw[Yq j1] at m3 ⊢;split
  ·rename_i e;rw[if_pos e] at m3;cases m3
  ·rename_i e;rw[if_neg e] at m3;have:=hg.clo.live m (by rw[Oc m2 m3]);rw[Oc m2 m3] at this;exact this
 ·exact⟨h,rfl,fun _ hg=>hg⟩
theorem Zrn{u s:Int}(h:HOk c t n gens wk a d x)(hx:x.work=0)(hs:Zeh c t x.y s):OpF c t n gens wk a d 6 x (Md c t n x u s):=by
 unfold Md;have sh:=h.shade s;obtain⟨g1,g2,g3⟩:=HOk.drop (x:={ x with y:=Y5 c t n x.y s }) sh.ok (Ln u).1.i (Ln u).1.g;simp only[sh.l] at g1 g2 g3;exact OpF.plain hx g1 (by simp only;rw[g2]) rfl rfl (fun L hg=>g3 L (sh.gar L (hs.no L hg) hg)) (.inl (by decide))
theorem Zge{f:Int}{o:OpI}(h:HOk c t n gens wk a d x)(hx:x.work=0)(hv:0≤o.v∧o.v<18446744073709551616)(hF:Z7 c t x.y.l<F):OpF c t n gens wk a d o.code x (Yi c t n gens F f x o):=by
 have told:∀e:Int,e≠0→OpF c t n gens wk a d o.code x (x,Z9 e):=fun e he=>OpF.plain hx h rfl rfl rfl (fun _ hg=>hg) (.inr he)
 unfold Yi;split
 ·exact told 250 (by decide)
 ·split
  ·rename_i q;rw[q];exact Zmo h hx hF
  ·rename_i q1;split
   ·exact told 130 (by decide)
   ·rename_i q;have sf:=Zgd (u:=o.h) h.y (by simpa using q);have any:∀(k:Int) (r:HP × Sn),OpF c t n gens wk a d k x r→k≠1→OpF c t n gens wk a d o.code x (r.1,{ r.2 with addr:=Ve c t (Vc t x.y o.h).1 }):=fun k r p hk=>
     ⟨p.ok,p.len,p.work,fun L hg=>by
      rcases p.gar L hg with z|⟨z1,z2⟩
      ·exact .inl z
      ·refine .inr ⟨z1,fun s hs=>?_⟩;rcases z2 s hs with z|z
       ·exact .inl z
       ·exact absurd z.1 hk,fun e=>absurd e q1⟩
    simp only;split
    ·exact any 2 _ (Zrl h hx hF sf) (by decide)
    ·split
     ·exact any 3 _ (Zng h hx hv sf) (by decide)
     ·split
      ·exact any 4 _ (Zrm h hx sf) (by decide)
      ·split
       ·exact any 5 _ (Zi9 h hx sf) (by decide)
       ·split
        ·exact any 6 _ (Zrn h hx sf) (by decide)
        ·exact any 7 _ (OpF.plain hx h rfl rfl rfl (fun _ hg=>hg) (.inl (by decide))) (by decide)
structure DoF(c:Zh)(t n:Nat)(gens wk:Int)(a d:Nat)(code:Int)(x:HP)(r:HP × Sn):Prop where
 ok:HOk c t n gens wk (a+1) (d+4) r.1
 len:r.1.y.l.length=x.y.l.length
 work:r.1.work≤2*Z7 c t x.y.l
 steps:r.1.y.steps≤Z7 c t x.y.l
 cyc:r.2.cyc=m31 r.1.p.cyc∧x.p.cyc≤r.1.p.cyc
 gar:∀L,Gar c t x.y L→(r.1.p.cyc=x.p.cyc∧Gar c t r.1.y L)∨(x.p.cyc<r.1.p.cyc∧∀s:Nat,L s→Zu r.1.y.bs s=false∨(code=1∧r.2.e=0∧r.2.addr=Ve c t s))
 begun:code=1→r.2.e=0→r.2.act=true→r.2.since=0→r.1.y.ph=1∧∀L:Nat→Prop,(∀s,L s→s<nS c t∧Zu r.1.y.bs s=true)→Clo c t r.1.y.ws r.1.y.l r.1.y.ms L→Gar c t r.1.y L
theorem Zwn{f:Int}{o:OpI}(h:HOk c t n gens wk a d x)(hv:0≤o.v∧o.v<18446744073709551616)(hF:Z7 c t x.y.l<F):DoF c t n gens wk a d o.code x (hDo c t n gens F f x o):=by
 have h0:HOk c t n gens wk a d { x with work:=0 }:=⟨h.y,h.pa,h.tr,h.ss,h.si,h.to,h.de,h.na,h.cy,h.fl⟩;have p:=Zge (f:=f) (o:=o) h0 rfl hv hF;unfold hDo
 generalize Yi c t n gens F f { x with work:=0 } o=r at p ⊢
 have e0:∀u v w z,({ (if r.2.e≠0 then Z9 r.2.e else r.2) with used:=u,since:=v,cyc:=w,act:=z }:Sn).e=r.2.e:=fun u v w z=>by
  by_cases q:r.2.e=0
  ·simp[q]
  ·simp[q,Z9]
 have ea:∀u v w z,r.2.e=0→({ (if r.2.e≠0 then Z9 r.2.e else r.2) with used:=u,since:=v,cyc:=w,act:=z }:Sn).addr=r.2.addr:=fun u v w z q=>by
  simp[q]
 have cy:x.p.cyc≤r.1.p.cyc:=by
  rcases p.gar (fun _=>False) (Gar.empty fun _ q=>q) with q|q
  ·have:=q.1;simp only at this;omega
  ·have:=q.1;simp only at this;omega
 have s1:=p.ok.y.st.1;have ym:Z7 c t r.1.y.l=Z7 c t x.y.l:=by unfold Z7;rw[p.len]
 refine⟨p.ok,p.len,p.work,by rw[←ym];exact s1,⟨rfl,cy⟩,fun L hg=>?_,fun q1 q2 q3 q4=>?_⟩
 ·rcases p.gar L hg with q|⟨q1,q2⟩
  ·exact .inl q
  ·refine .inr ⟨q1,fun s hs=>?_⟩;rcases q2 s hs with q|⟨z1,z2,z3⟩
   ·exact .inl q
   ·refine .inr ⟨z1,?_,?_⟩
    ·show({ (if r.2.e≠0 then Z9 r.2.e else r.2) with used:=_,since:=_,cyc:=_,act:=_ }:Sn).e=0
     rw[e0];exact z2
    ·show({ (if r.2.e≠0 then Z9 r.2.e else r.2) with used:=_,since:=_,cyc:=_,act:=_ }:Sn).addr=_
     rw[ea _ _ _ _ z2];exact z3
 ·refine p.begun q1 ?_ q3 ?_
  ·rw[e0] at q2;exact q2
  ·have:m31 r.1.p.since=0:=q4;have si:=p.ok.si;unfold m31 at this;split at this<;>omega
theorem Zro(h:HOk c t n gens wk a d x)(k i:Int):HOk c t n gens wk a d { x with y:=(Re c t n wk x.y k i).1 }∧(Re c t n wk x.y k i).1.l=x.y.l∧∀L,Gar c t x.y L→Gar c t (Re c t n wk x.y k i).1 L:=by
 have md:=Zh2 h.y k i;refine⟨⟨md.ok,?_,h.tr,h.ss,h.si,h.to,h.de,h.na,h.cy,by (try simp only);rw[md.fl];exact h.fl⟩,md.l,fun L hg=>hg.step h.y k i⟩;have pa:=h.pa;simp only;rw[pa];by_cases e:x.y.ph=0
 ·have:(Re c t n wk x.y k i).1.ph=0:=by
   cases r:(Re c t n wk x.y k i).2
   ·rw[md.no r];exact e
   ·exfalso
    unfold Re Nc Qm at r;simp[e] at r
  rw[e,this]
 ·rw[Zyy e,Zyy (md.ph e)]
end
section
variable{w w':World}
theorem Zbv(n:Int)(w:World):(callFunc 215 #[.int .u64 n]).run prog w=.ok (.value (.float .f64 n.toNat)) w:=by
 have:=run_callFunc_extern (P:=prog) (f:=215) (fn:=f215) (e:=Extern.MathFloatBits.float64frombits) func215 (by kernel_rfl) (by kernel_rfl) (by kernel_rfl) (by kernel_rfl) #[.int .u64 n] w;rw[this];rfl
theorem Ej(b:Nat)(w:World):(callFunc 169 #[.float .f64 b]).run prog w=.ok (.value (.int .u64 (b:Int))) w:=by
 have:=run_callFunc_extern (P:=prog) (f:=169) (fn:=f169) (e:=Extern.MathFloatBits.float64bits) func169 (by kernel_rfl) (by kernel_rfl) (by kernel_rfl) (by kernel_rfl) #[.float .f64 b] w;rw[this];rfl
theorem Zrp{a b r:Nat}{T:TypeId}(h:FloatKind.f64.format.add a b=some r)(w:World):(binOp .add T (.float .f64 a) (.float .f64 b)).run prog w=.ok (.float .f64 r) w:=by
 simp[binOp,Op.floatArith,h,go_sem]
theorem Zrq{a b:Nat}{T:TypeId}(h:FloatKind.f64.format.add a b=none)(w:World):(binOp .add T (.float .f64 a) (.float .f64 b)).run prog w=.ok (.float .f64 ((Question.nanBits .f64 a b).cut (w.tape w.drawn (.nanBits .f64 a b)))) w.drew:=by
 simp[binOp,Op.floatArith,h,go_sem,Question.forced]
theorem Zei(v:Int):Calls prog 167 #[.int .u64 v] w fun e w'=>e=.returned (.float .f64 v.toNat)∧w=w':=by
 have hd:=Zbv v;go_enter func167,ntmps167;go_wp2;go_ret;exact⟨rfl,rfl⟩
theorem Ek(v:Int):Calls prog 168 #[.int .u64 v] w fun e w'=>∃u:Int,e=.returned (.int .u64 u)∧w=w':=by
 go_enter func168,ntmps168;go_wp2_with fail;refine(Zei v).zz ?_;go_wp2_with fail
 all_goals
  go_ret;exact⟨_,rfl,rfl⟩
theorem Zrr{a:Option Addr}{cap:Nat}{xs:List Int}(h:At .u64 w a xs)(hl:xs.length≤1000)(hc:xs.length≤cap):Calls prog 129 #[.slice a xs.length cap] w fun e w'=>∃v:Int,e=.returned (.int .u64 v)∧Ext w w':=by
 obtain⟨n,hn⟩:=Zb (xs.length);have HN:=Za hn;have H:=Za h;rw[hn] at hl hc ⊢;by_cases h0:n=0
 ·subst h0;clear h hn;go_enter func129,ntmps129;go_wp2;go_ret;exact⟨_,rfl,Zy2 _⟩
 ·have t0:((n:Int)==0)=false:=by simp;omega
  obtain⟨x,o,rfl,e0⟩:=h 0 (by omega);rw[Nat.add_zero] at e0;have hl1:1≤n:=by omega
  clear h hn h0;go_enter func129,ntmps129;go_wp2_with fail;refine(Zei _).zz ?_;go_wp2_with fail;rotate_left
  ·go_loopw [3,16] (fun sv iv wr=>∃(k:Nat) (s:Nat),k≤n-1∧iv=.int .i64 k∧sv=.float .f64 s∧Hid (Ext w wr)) (fun _ iv _=>n-(intOf iv).toNat)
   case atStart=>exact⟨0,_,Nat.zero_le _,rfl,rfl,Za (Zy2 _)⟩
   case round=>
    obtain⟨k,s,hk,rfl,rfl,X⟩:=hrel;have k0:(0:Int)≤(k:Int):=Int.natCast_nonneg _;by_cases hlt:k<n-1
    ·obtain⟨x',o',ee,ec⟩:=H.out (k+1) (by have:=HN.out;omega);cases ee;have ec:=X.out.cell ec;rw[show o+(k+1)=o+1+k by omega] at ec
     generalize nth xs (k+1)=u at ec
     have kn:(k:Int)<((n-1:Nat):Int):=by omega
     have kc:k<cap-1:=by omega
     go_wp2_with fail;refine(Zei _).zz ?_;cases hf:FloatKind.f64.format.add s u.toNat with
     | some r=>
      have ha:=fun T W=>Zrp (T:=T) hf W
      go_wp2;go_roundw
      case rel=>exact⟨k+1,_,by omega,by go_num,rfl,X⟩
      case measure=>simp[intOf];omega
     | none=>
      have ha:=fun T W=>Zrq (T:=T) hf W
      go_wp2;go_roundw
      case rel=>exact⟨k+1,_,by omega,by go_num,rfl,Za X.out.drew⟩
      case measure=>simp[intOf];omega
    ·have te:decide (k<n-1)=false:=Zyx hlt;have te2:decide ((k:Int)<((n-1:Nat):Int))=false:=Zyx (by omega);have hb:=Ej s;go_wp2_with fail;refine(Ek _).mono ?_;rintro e w3 ⟨u,rfl,rfl⟩;go_wp2;go_ret;exact⟨u,rfl,X.out⟩
  ·go_loopw [3,16] (fun sv iv wr=>∃(k:Nat) (s:Nat),k≤n-1∧iv=.int .i64 k∧sv=.float .f64 s∧Hid (Ext w wr)) (fun _ iv _=>n-(intOf iv).toNat)
   case atStart=>exact⟨0,_,Nat.zero_le _,rfl,rfl,Za (Zy2 _)⟩
   case round=>
    obtain⟨k,s,hk,rfl,rfl,X⟩:=hrel;have te:decide (k<n-1)=false:=Zyx (by omega);have te2:decide ((k:Int)<((n-1:Nat):Int))=false:=Zyx (by omega);have hb:=Ej s;go_wp2_with fail;refine(Ek _).mono ?_;rintro e w3 ⟨u,rfl,rfl⟩;go_wp2;go_ret;exact⟨u,rfl,X.out⟩
end
section
variable{w w':World}{bb mb gw gb pb gp:Nat}{c:Zh}{t:Nat}{ws ws':List Int}{s i k u x from_:Int}{h:Hd}{xs:List Int}{m:Nat}
theorem Hq{F:Nat→Int × Int}(h:Zy w bb mb gw gb pb gp c t ws)(hF:∀j,j<m→Zhh c t ws s (from_+j)=F j)(hf:0≤from_∧from_≤100)(hm:m≤100)(hr:U3 F m=(xs,k)) :
  Calls prog 335 #[.int .i64 s,.int .i64 from_,.int .i64 m,.func (.func 283) #[bb] #[]] w
   fun e w'=>∃a cap,e=.returned (.tuple #[.slice a xs.length cap,.int .i64 k])∧At .u64 w' a xs∧(xs.length≤cap∧xs.length≤100)∧Ext w w':=by
 have hk:=Zdw;unfold Zi at hk;obtain⟨i0,hi0,hz0,hz1,hz2⟩:=info_parts Jd;have H:=Za h;have HF:=Za hF;have HR:=Za hr;obtain⟨B,hB⟩:=Zb (w.heap.size);have HB:=Za hB;clear h hF hr hB;go_enter func335,ntmps335
 go_upto_region 3 with fail
 go_loopw [10,15] (fun sv iv wr=>∃(j:Nat) (ys:List Int),j≤m∧iv=.int .i64 j∧Hid (U3 F j=(ys,0))∧ys.length=j∧Hid (wr.ownsRow B 34 1 sv j (ncs .u64 ys))∧Hid (Ext w wr)) (fun _ iv _=>m-(intOf iv).toNat)
 case atStart=>exact⟨0,[],Nat.zero_le _,rfl,Za rfl,rfl,Za (World.ownsRow_nil _ _ _ _),Za (Zy2 _)⟩
 case round=>
  obtain⟨j,ys,hj,rfl,HY,hl,HO,X⟩:=hrel;have j0:(0:Int)≤(j:Int):=Int.natCast_nonneg _;by_cases hlt:j<m
  ·obtain⟨v,q,hv⟩:∃v q,F j=(v,q):=⟨_,_,rfl⟩;have HV:=Za (show Zhh c t ws s (from_+j)=(v,q) by rw[HF.out j hlt];exact hv);have wf:IntKind.i64.wrap (from_+(j:Int))=from_+j:=IntWalk.i64_in _ (by omega);have HN:=Za hv;clear hv;go_wp2_with fail;refine(Za7 (H.out.ext X.out) HV.out).ze fun w1 x1=>?_;replace X:=Za (X.out.trans x1);replace HO:=Za (Xe HO.out x1);clear x1;by_cases hq:q=0
   ·subst hq;have BL:=Za (show B≤w1.heap.size by have:=X.out.size;have:=HB.out;omega)
    go_wp2_with (at_builtin;refine wpList_append_own _ rfl (.tmp 30) (.tmp 32) 72 rfl B 34 i0 (.int .u64 0) 1 8 underlying72 hi0 hz0 hz1 hz2 rfl (by decide) u10 j (ncs .u64 ys) rfl (Xe HO.out ((Zy2 w1).alloc _)) ⟨w1.heap.size,0,none⟩ 1 1 [.int .u64 v] rfl rfl (Oy _ _ _) (Zcu rfl) (by unfold maxLen;omega) (by omega) (by have:=BL.out;simp;omega) ?_;intro v' w2 hown hgrow Ce;rw[Rv] at hown;have HO2:=Za hown;have X2:=Za ((X.out.alloc (.cells #[.int .u64 v] 34)).grown hgrow (fun k e=>by have:=(HO.out.lt k e).1;have:=HB.out;omega));clear hown hgrow Ce)
    go_roundw
    case rel=>exact⟨j+1,ys++[v],by omega,by go_num,Za (Az HY.out HN.out),by simp[hl],HO2,X2⟩
    case measure=>simp[intOf];omega
   ·have tq:(q==0)=false:=by simpa using hq
    have hr:=HR.out;rw[Zaa HY.out HN.out hq hlt] at hr;obtain⟨rfl,rfl⟩:[]=xs∧q=k:=by injection hr with e1 e2;exact⟨e1,e2⟩
    clear hr;go_wp2;go_ret2;exact⟨none,0,rfl,(fun i hi=>absurd hi (Zzb _)),⟨Nat.zero_le _,Nat.zero_le _⟩,X.out⟩
  ·have t1:decide (j<m)=false:=Zyx hlt;have t1':decide ((j:Int)<(m:Int))=false:=Zyx (by omega);have hr:=HR.out;rw[show m=j by omega,HY.out] at hr;obtain⟨rfl,rfl⟩:ys=xs∧0=k:=by injection hr with e1 e2;exact⟨e1,e2⟩
   clear hr;obtain⟨a,cap,rfl,hn⟩:=S8 (by rw[HB.out,hl];exact HO.out:wr.ownsRow w.heap.size 34 1 u10 ys.length (ncs .u64 ys));have N:=Za hn.row;have NC:=Za hn.cap1;have HL:=Za hl;clear hn HO hlt hl;go_wp2;go_ret2;exact⟨a,cap,by rw[HL.out];rfl,N.out,⟨NC.out,by rw[HL.out];omega⟩,X.out⟩
theorem Zej(h:Zy w bb mb gw gb pb gp c t ws)(hr:Zkq c t ws s=(xs,k)) :
  Calls prog 290 #[bb,.int .i64 s] w
   fun e w'=>∃a cap,e=.returned (.tuple #[.slice a xs.length cap,.int .i64 k])∧At .u64 w' a xs∧(xs.length≤cap∧xs.length≤100)∧Ext w w':=by
 have hmf:=Ze
 have H:=Za h;have X:=Za (Zy2 w);unfold Zkq at hr;obtain⟨hd,q,hh⟩:∃hd q,Zz c t ws s=(hd,q):=⟨_,_,rfl⟩;have HH:=Za hh;rw[hh] at hr;clear h;by_cases hq:q=0
 ·subst hq;rw[if_pos rfl] at hr;have ok:Lg c t s hd:=by
   have:=(Yd (c:=c) (t:=t) (ws:=ws) (s:=s) (by rw[hh])).2.2.1;rw[hh] at this;exact this
  obtain⟨R,hR⟩:∃R:Nat,hd.r=R:=⟨hd.r.toNat,by have:=ok.1.2.1;omega⟩;obtain⟨M,hM⟩:∃M:Nat,hd.w=M:=⟨hd.w.toNat,by have:=ok.1.2.2.1;omega⟩;have r63:R≤63:=by have:=ok.1.2.2.2.1;omega
  have m63:M≤63:=by have:=ok.1.2.2.2.2;omega
  obtain⟨C,Rr,Ww⟩:=hd;change Rr=(R:Int) at hR;change Ww=(M:Int) at hM;subst hR hM;simp only[Zy4] at hr;have HR:=Za hr;clear hh ok hr;go_enter func290,ntmps290;go_wp2_with fail;refine(Xf H.out HH.out).ze fun w1 x1=>?_;replace H:=Za (H.out.ext x1);replace X:=Za (X.out.trans x1);clear x1
  go_upto_region 4 with fail
  obtain⟨y,hy⟩:=Zb (w1.heap.size);obtain⟨W2,hW2,hY,x2⟩:=hd3 ⟨C,(R:Int),(M:Int)⟩ w1 hy;have Y:=Za hY;rw[hW2,hy];replace H:=Za (H.out.ext x2);replace X:=Za (X.out.trans x2);clear hW2 hy hY x2;obtain⟨y0,y1,y2⟩:=Y.out.k3;have yl:=Y.out.lt;go_wp2_with fail;clear y0 y1 y2 yl;refine(Hq (from_:=(R:Int)) (m:=M) H.out (fun j _=>rfl) (by omega) (by omega) HR.out).mono ?_;rintro e w3 ⟨a,cap,rfl,hn,hcap,x3⟩;have N:=Za hn;replace X:=Za (X.out.trans x3);clear hn x3;go_wp2;go_ret2;exact⟨a,cap,rfl,N.out,hcap,X.out⟩
 ·rw[if_neg (show ¬(hd,q).2=0 from hq)] at hr;obtain⟨rfl,rfl⟩:[]=xs∧q=k:=by injection hr with e1 e2;exact⟨e1,e2⟩
  clear hr hh;go_enter func290,ntmps290;go_wp2_with fail;refine(Xf H.out HH.out).ze fun w1 x1=>?_;go_wp2;go_ret2;exact⟨none,0,rfl,(fun i hi=>absurd hi (Zzb _)),⟨Nat.zero_le _,Nat.zero_le _⟩,x1.alloc _⟩
end
end Go.Proofs.YtfcldaembdedjaaGreatDoor
