/-
  Parts of the proof of TopCycles: Cyc2, SeqT, Tab3, Tab4, QuietR, Tab5, Cyc3, Sat.
-/
import Derived.Test.YtfcldaembdedjaaGreatDoorQ09
import Derived.Sort.QuietThIn
import Derived.Lib.Mul64
import Derived.Laws.Bits64b
set_option linter.unusedVariables false
set_option linter.unusedSimpArgs false
set_option maxRecDepth 100000
set_option maxHeartbeats 16000000
namespace Go.Proofs.YtfcldaembdedjaaGreatDoor
open Go.RowKit Tryz
section
variable{w w':World}{B:CB}{c:Zh}{t n:Nat}{gens wk:Int}{y:CY}
theorem Be:Zi prog 226:=Zi.mk func226 (by kernel_rfl) rfl
theorem Bf:Zi prog 227:=Zi.mk func227 (by kernel_rfl) rfl
theorem Bg:Zi prog 229:=Zi.mk func229 (by kernel_rfl) rfl
theorem Zbl:Zi prog 228:=Zi.mk func228 (by kernel_rfl) rfl
theorem Zbm:Zi prog 230:=Zi.mk func230 (by kernel_rfl) rfl
theorem Zbn:Zi prog 231:=Zi.mk func231 (by kernel_rfl) rfl
def Zq6(B:CB)(z ph:Nat):Value:=
 if ph=1 then .agg #[.func (.func 226) #[B.kb] #[],.func (.func 227) #[B.kb] #[]]
 else if ph=2 then .agg #[.func (.func 228) #[] #[z],.func (.func 229) #[B.sb] #[]]
 else .agg #[.func (.func 230) #[] #[],.func (.func 231) #[] #[]]
theorem Oi(h:Vw w B c t n gens wk y):Calls prog 189 #[B.yb] w fun e w'=>∃z,e=.returned (Zq6 B z y.ph)∧w'.cell? ⟨z,0,none⟩=some (B.yb:Value)∧w.heap.size≤z∧Ext w w':=by
 have c5:=h.box.c 5 _ rfl;have c6:=h.box.c 6 _ rfl;obtain⟨p,hp⟩:=Zb (y.ph);have PH:=Za (fun W (x:Ext w W)=>Zbk (h.ext x) hp);rw[hp];obtain⟨z,hz⟩:=Zb (w.heap.size);have s1:=fun p w=>run_store prog w p (.func (.func 226) #[B.kb] #[]) .plain rfl
 have s2:=fun p w=>run_store prog w p (.func (.func 227) #[B.kb] #[]) .plain rfl
 have s3:=fun p w=>run_store prog w p (.func (.func 228) #[] #[.pointer (some ⟨z,0,none⟩)]) .plain rfl
 have s4:=fun p w=>run_store prog w p (.func (.func 229) #[B.sb] #[]) .plain rfl
 have s5:=fun p w=>run_store prog w p (.func (.func 230) #[] #[]) .plain rfl
 have s6:=fun p w=>run_store prog w p (.func (.func 231) #[] #[]) .plain rfl
 obtain⟨W0,hW0⟩:=Zb ((w.alloc (.cells #[B.yb] 51)).alloc (.cells #[.nilFunc,.nilFunc] 295));have x0:Ext w W0:=by rw[←hW0];exact((Zy2 _).alloc _).alloc _
 have b0:Zn W0 z [B.yb]:=by rw[←hW0];exact(Zn.new w [B.yb] _ hz).ext ((Zy2 _).alloc _)
 have b1:Zn W0 (z+1) [.nilFunc,.nilFunc]:=by rw[←hW0];exact Zn.new _ [.nilFunc,.nilFunc] _ (by simp[hz])
 have k0:=b0.c 0 _ rfl;have k1:=b1.c 0 _ rfl;have k2:=b1.c 1 _ rfl;have f1:=b1.f 0;have f2:=b1.f 1;have X0:=Za x0;have B1:=Za b1;have lb:=h.box.lt;replace c5:=x0.cell c5;replace c6:=x0.cell c6;have FIN:Hid (∀u v:Value,((W0.setCell ⟨z+1,0,none⟩ u).setCell ⟨z+1,1,none⟩ v).cell? ⟨z+1,0,none⟩=some u∧((W0.setCell ⟨z+1,0,none⟩ u).setCell ⟨z+1,1,none⟩ v).cell? ⟨z+1,1,none⟩=some v ∧
   ((W0.setCell ⟨z+1,0,none⟩ u).setCell ⟨z+1,1,none⟩ v).cell? z=some (B.yb:Value)∧Ext w ((W0.setCell ⟨z+1,0,none⟩ u).setCell ⟨z+1,1,none⟩ v)):=Za fun u v=>by
  have q:=(b1.set (i:=0) (by show 0<2;decide) u).set (i:=1) (by show 1<2;decide) v;refine⟨q.c 0 _ rfl,q.c 1 _ rfl,((b0.far (by show z+1≠z;omega) u).far (by show z+1≠z;omega) v).c 0 _ rfl,?_⟩;exact(x0.setCell (p:=⟨z+1,0,none⟩) (by show w.heap.size≤z+1;omega) u).setCell (p:=⟨z+1,1,none⟩) (by show w.heap.size≤z+1;omega) v
 clear h hp b0 b1 x0;rcases (by omega:p=1∨p=2∨(p≠1∧p≠2)) with rfl|rfl|⟨p1,p2⟩
 ·go_enter func189,ntmps189;go_wp2_with fail;refine(PH.out _ X0.out).zz ?_;go_wp2_with fail;have n0:=World.new_ne W0 _ k0;have n1:=World.new_ne W0 _ c5;have n2:z+1≠B.yb:=by omega
  have n3:B.yb≠z+1:=by omega
  go_region_held3 (fun w'=>w'.cell? z=some (B.yb:Value)∧w'.cell? ⟨B.yb,5,none⟩=some (B.kb:Value))
   (go_keep) (fail)
  all_goals
   obtain⟨e1,e2,e3,e4⟩:=FIN.out (.func (.func 226) #[B.kb] #[]) (.func (.func 227) #[B.kb] #[]);obtain⟨V,hV⟩:=Zb ((W0.setCell ⟨z+1,0,none⟩ (.func (.func 226) #[B.kb] #[])).setCell ⟨z+1,1,none⟩ (.func (.func 227) #[B.kb] #[]));rw[hV] at e1 e2 e3 e4 ⊢;have d1:=(Zy2 V).drew.cell e1;have d2:=(Zy2 V).drew.cell e2;have E:=Za (And.intro ((Zy2 V).drew.cell e3) e4.drew);clear hV e1 e2 e3 e4 s1 s2 s3 s4 s5 s6 hW0;go_wp2_with fail;refine bodyPost_ret (v:=.agg #[.func (.func 226) #[B.kb] #[],.func (.func 227) #[B.kb] #[]]) (by simp[results,results189,go_sem,d1,d2]) rfl ?_;exact⟨z,rfl,E.out.1,by omega,E.out.2⟩
 ·go_enter func189,ntmps189;go_wp2_with fail;refine(PH.out _ X0.out).zz ?_;go_wp2_with fail;have n2:z+1≠B.yb:=by omega
  obtain⟨e1,e2,e3,e4⟩:=FIN.out (.func (.func 228) #[] #[z]) (.func (.func 229) #[B.sb] #[]);refine bodyPost_ret (v:=.agg #[.func (.func 228) #[] #[z],.func (.func 229) #[B.sb] #[]]) (by simp[results,results189,go_sem,e1,e2]) rfl ?_;exact⟨z,rfl,e3,by omega,e4⟩
 ·have t1:((p:Int)==1)=false:=by simp;omega
  have t2:((p:Int)==2)=false:=by simp;omega
  go_enter func189,ntmps189;go_wp2_with fail;refine(PH.out _ X0.out).zz ?_;go_wp2_with fail;obtain⟨e1,e2,e3,e4⟩:=FIN.out (.func (.func 230) #[] #[]) (.func (.func 231) #[] #[]);refine bodyPost_ret (v:=.agg #[.func (.func 230) #[] #[],.func (.func 231) #[] #[]]) (by simp[results,results189,go_sem,e1,e2]) rfl ?_;exact⟨z,by unfold Zq6;rw[if_neg p1,if_neg p2],e3,by omega,e4⟩
theorem Zm5{v:Int}{u:Int}:Calls prog 230 #[.int .i64 v,.int .u8 u] w fun e w'=>e=.returned (.bool false)∧w=w':=by
 go_enter func230,ntmps230;go_wp2;go_ret;exact⟨rfl,rfl⟩
theorem Zm6:Calls prog 231 #[] w fun e w'=>e=.returned (.bool false)∧w=w':=by
 go_enter func231,ntmps231;go_wp2;go_ret;exact⟨rfl,rfl⟩
theorem Zm7{z:Nat}{k i:Int}{y':CY}{r:Bool}(h:Vw w B c t n gens wk y)(hz:w.cell? z=some (B.yb:Value))
  (hr:(if i=5∧0≤k∧k≤wk then sStep c t y else (y,false))=(y',r)):Calls prog 228 #[.int .i64 k,.int .u8 i,z] w fun e w'=>e=.returned (.bool r)∧Vl w' B c t n gens y'∧Chg B.inP w w':=by
 have c7:=h.box.c 7 _ rfl;have c6:=h.box.c 6 _ rfl;have H:=Za h;by_cases hi:i=5
 ·subst hi;by_cases h0:0≤k
  ·by_cases h1:k≤wk
   ·rw[if_pos ⟨rfl,h0,h1⟩] at hr;have SS:=Za (Ef h.i hr);have t1:decide (0≤k)=true:=Zyy h0;have t2:decide (k≤wk)=true:=Zyy h1;clear h hr;go_enter func228,ntmps228;go_wp2_with fail;refine SS.out.mono ?_;rintro e w1 ⟨rfl,a,b⟩;go_wp2;go_ret;exact⟨rfl,a,b⟩
   ·rw[if_neg (fun q=>h1 q.2.2)] at hr;cases hr;have t1:decide (0≤k)=true:=Zyy h0;have t2:decide (k≤wk)=false:=Zyx h1;clear h;go_enter func228,ntmps228;go_wp2;go_ret;exact⟨rfl,H.out.i,Chg.refl _ _⟩
  ·rw[if_neg (fun q=>h0 q.2.1)] at hr;cases hr;have t1:decide (0≤k)=false:=Zyx h0;clear h;go_enter func228,ntmps228;go_wp2;go_ret;exact⟨rfl,H.out.i,Chg.refl _ _⟩
 ·rw[if_neg (fun q=>hi q.1)] at hr;cases hr;have t1:(i==5)=false:=by simpa using hi
  clear h;go_enter func228,ntmps228;go_wp2;go_ret;exact⟨rfl,H.out.i,Chg.refl _ _⟩
theorem Zbo(r:CY × Bool):(Nc c t r).2=r.2:=by
 unfold Nc;cases h:r.2<;>simp[h]
theorem Hc{ws:List Int}{l:List Ent}{ms:List Int}(m:MK)(k i:Int):(Yy c t n ws l ms m k i).1.steps≤m.steps+(if (Yy c t n ws l ms m k i).2 then 1 else 0):=by
 unfold Yy;split
 ·split
  ·simp
  ·simp
 ·simp
theorem Zd6{ws:List Int}{l:List Ent}{ms:List Int}(m:MK):(Tl c t n ws l ms m).1.steps≤m.steps+(if (Tl c t n ws l ms m).2 then 1 else 0):=by
 rcases Py (c:=c) (t:=t) (n:=n) (ws:=ws) (l:=l) (ms:=ms) m with ⟨k,i,e⟩|e
 ·rw[e];exact Hc m k i
 ·rw[e];simp
theorem Qe(y:CY):(sStep c t y).1.steps=y.steps∧(sStep c t y).1.m=y.m∧(sStep c t y).1.ph=y.ph:=by
 unfold sStep;split
 ·split<;>exact⟨rfl,rfl,rfl⟩
 ·exact⟨rfl,rfl,rfl⟩
theorem He(f g:Fn)(a b a' b':Array Value)(w:World):(Instr.field 295 (.agg #[.func f a b,.func g a' b']) 0).run prog w=.ok (.func f a b) w:=by kernel_rfl
theorem Hf(f g:Fn)(a b a' b':Array Value)(w:World):(Instr.field 295 (.agg #[.func f a b,.func g a' b']) 1).run prog w=.ok (.func g a' b') w:=by kernel_rfl
def Zq7(B:CB)(c:Zh)(t n:Nat)(gens wk:Int)(r:CY × Bool)(w:World)(e:Ending)(w':World):Prop:=e=.returned (.bool r.2)∧Gn w' B c t n gens wk r.1∧Chg B.cyP w w'
theorem Zq8{k i:Int}{y':CY}{r:Bool}(h:Vw w B c t n gens wk y)(hb:y.steps+1<1099511627776)(hr:Re c t n wk y k i=(y',r)) :
  Calls prog 148 #[B.yb,.int .i64 k,.int .u8 i] w fun e w'=>e=.returned (.bool r)∧Vw w' B c t n gens wk y'∧Chg B.cyP w w':=by
 obtain⟨r0,h0⟩:=Zb (Qm c t n wk y k i);have le:=h.le;have e1:r0.1.steps=y.steps:=by rw[←h0];exact(Is y k i).steps
 have e2:r0.1.m.steps≤r0.1.steps+(if r0.2 then 1 else 0):=by
  rw[←h0];unfold Qm;split
  ·have:=Hc (c:=c) (t:=t) (n:=n) (ws:=y.ws) (l:=y.l) (ms:=y.ms) y.m k i
   (try simp only);omega
  ·split
   ·obtain⟨q1,q2,_⟩:=Qe (c:=c) (t:=t) y;rw[q1,q2];omega
   ·simp;exact le
 have MD:Hid (∀W,Gn W B c t n gens wk r0.1→Calls prog 188 #[B.yb,.bool r0.2] W fun e w'=>e=.returned (.bool r)∧Vw w' B c t n gens wk y'∧Chg B.cyP W w'):=Za fun W hW=>by
  have q:=Zf3 (r:=r0) hW e2 (by rw[e1];exact hb);unfold Re at hr;rw[h0] at hr;have e3:=Zbo (c:=c) (t:=t) r0;rw[hr] at q e3;simp only at e3;rw[←e3] at q;exact e3▸q
 have H:=Za h;rcases h.i.k.ord with ⟨_,_,_,_,_,_,_,_,_,_⟩;by_cases p1:y.ph=1
 ·have WK:Hid (Calls prog 189 #[B.yb] w fun e w'=>e=.returned (.agg #[.func (.func 226) #[B.kb] #[],.func (.func 227) #[B.kb] #[]])∧Ext w w'):=
   Za ((Oi h).mono fun e w' ⟨z,q1,_,_,q4⟩=>⟨by rw[q1,p1];rfl,q4⟩)
  have ST:Hid (∀W,Ext w W→Calls prog 226 #[B.kb,.int .i64 k,.int .u8 i] W (Zq7 B c t n gens wk r0 W)):=Za fun W x=>by
   have hW:=h.ext x;obtain⟨m1,q,hm⟩:∃m1 q,Yy c t n y.ws y.l y.ms y.m k i=(m1,q):=⟨_,_,rfl⟩;have er:r0=({ y with m:=m1 },q):=by rw[←h0];unfold Qm;rw[if_pos p1,hm]
   refine(Ha hW.i.k (by omega) hm).mono fun e W' z=>?_
   obtain⟨a,b⟩:=hW.i.mkTo z.2.1 z.2.2;obtain⟨a2,b2⟩:=hW.toGn.inTo a b rfl rfl;rw[er];exact⟨z.1,a2,b2⟩
  have ek:=Be;unfold Zi at ek;have hfl:=He;clear h h0 hr hb e1 e2 le p1;go_enter func148,ntmps148;go_wp2_with fail;refine WK.out.ze fun w1 x1=>?_;go_wp2_with fail;refine(ST.out _ x1).mono ?_;rintro e w2 ⟨rfl,a2,b2⟩;go_wp2_with fail;refine(MD.out _ a2).mono ?_;rintro e w3 ⟨rfl,a3,b3⟩;go_wp2;go_ret;exact⟨rfl,a3,((Zy3 x1).trans b2).trans b3⟩
 ·by_cases p2:y.ph=2
  ·have WK:Hid (Calls prog 189 #[B.yb] w fun e w'=>∃z,e=.returned (.agg #[.func (.func 228) #[] #[.pointer (some ⟨z,0,none⟩)],.func (.func 229) #[B.sb] #[]])∧w'.cell? ⟨z,0,none⟩=some (B.yb:Value)∧Ext w w'):=
    Za ((Oi h).mono fun e w' ⟨z,q1,q2,_,q4⟩=>⟨z,by rw[q1,p2];rfl,q2,q4⟩)
   have ST:Hid (∀W z,Ext w W→W.cell? ⟨z,0,none⟩=some (B.yb:Value)→Calls prog 228 #[.int .i64 k,.int .u8 i,.pointer (some ⟨z,0,none⟩)] W (Zq7 B c t n gens wk r0 W)):=Za fun W z x hz=>by
    have hW:=h.ext x;obtain⟨y1,q,hm⟩:∃y1 q,(if i=5∧0≤k∧k≤wk then sStep c t y else (y,false))=(y1,q):=⟨_,_,rfl⟩;have er:r0=(y1,q):=by
     rw[←h0,←hm];unfold Qm;rw[if_neg p1];by_cases c5:i=5∧0≤k∧k≤wk
     ·rw[if_pos c5,if_pos ⟨p2,c5⟩]
     ·rw[if_neg c5,if_neg (fun z=>c5 z.2)]
    refine(Zm7 hW hz hm).mono fun e W' z=>?_
    have ep:y1.ph=y.ph:=by
     have:(if i=5∧0≤k∧k≤wk then sStep c t y else (y,false)).1.ph=y.ph:=by
      split
      ·exact(Qe y).2.2
      ·rfl
     rw[hm] at this;exact this
    obtain⟨a2,b2⟩:=hW.toGn.inTo z.2.1 z.2.2 ep (by rw[er] at e1;exact e1);rw[er];exact⟨z.1,a2,b2⟩
   have ek:=Zbl;unfold Zi at ek;have hfl:=He;clear h h0 hr hb e1 e2 le p1 p2;go_enter func148,ntmps148;go_wp2_with fail;refine WK.out.mono ?_;rintro e w1 ⟨z,rfl,hz,x1⟩;have HZ:=Za hz;clear hz;go_wp2_with fail;refine(ST.out _ _ x1 HZ.out).mono ?_;rintro e w2 ⟨rfl,a2,b2⟩;go_wp2_with fail;refine(MD.out _ a2).mono ?_;rintro e w3 ⟨rfl,a3,b3⟩;go_wp2;go_ret;exact⟨rfl,a3,((Zy3 x1).trans b2).trans b3⟩
  ·have WK:Hid (Calls prog 189 #[B.yb] w fun e w'=>e=.returned (.agg #[.func (.func 230) #[] #[],.func (.func 231) #[] #[]])∧Ext w w'):=
    Za ((Oi h).mono fun e w' ⟨z,q1,_,_,q4⟩=>⟨by rw[q1];unfold Zq6;rw[if_neg p1,if_neg p2],q4⟩)
   have er:r0=(y,false):=by rw[←h0];unfold Qm;rw[if_neg p1,if_neg (fun z=>p2 z.1)]
   have ek:=Zbm;unfold Zi at ek;have hfl:=He;subst er;clear h h0 hr hb e1 e2 le p1 p2;go_enter func148,ntmps148;go_wp2_with fail;refine WK.out.ze fun w1 x1=>?_;go_wp2_with fail;refine Zm5.zz ?_;go_wp2_with fail;refine(MD.out _ (H.out.ext x1).toGn).mono ?_;rintro e w3 ⟨rfl,a3,b3⟩;go_wp2;go_ret;exact⟨rfl,a3,(Zy3 x1).trans b3⟩
theorem Zf4{y':CY}{r:Bool}(h:Vw w B c t n gens wk y)(hb:y.steps+1<1099511627776)(hr:Vn c t n y=(y',r)) :
  Calls prog 327 #[B.yb] w fun e w'=>e=.returned (.bool r)∧Vw w' B c t n gens wk y'∧Chg B.cyP w w':=by
 obtain⟨r0,h0⟩:=Zb (T5 c t n y);have le:=h.le;have e1:r0.1.steps=y.steps:=by rw[←h0];exact(Ir y).steps
 have e2:r0.1.m.steps≤r0.1.steps+(if r0.2 then 1 else 0):=by
  rw[←h0];unfold T5;split
  ·have:=Zd6 (c:=c) (t:=t) (n:=n) (ws:=y.ws) (l:=y.l) (ms:=y.ms) y.m
   (try simp only);omega
  ·split
   ·obtain⟨q1,q2,_⟩:=Qe (c:=c) (t:=t) y;rw[q1,q2];omega
   ·simp;exact le
 have MD:Hid (∀W,Gn W B c t n gens wk r0.1→Calls prog 188 #[B.yb,.bool r0.2] W fun e w'=>e=.returned (.bool r)∧Vw w' B c t n gens wk y'∧Chg B.cyP W w'):=Za fun W hW=>by
  have q:=Zf3 (r:=r0) hW e2 (by rw[e1];exact hb);unfold Vn at hr;rw[h0] at hr;have e3:=Zbo (c:=c) (t:=t) r0;rw[hr] at q e3;simp only at e3;rw[←e3] at q;exact e3▸q
 have H:=Za h;by_cases p1:y.ph=1
 ·have WK:Hid (Calls prog 189 #[B.yb] w fun e w'=>e=.returned (.agg #[.func (.func 226) #[B.kb] #[],.func (.func 227) #[B.kb] #[]])∧Ext w w'):=
   Za ((Oi h).mono fun e w' ⟨z,q1,_,_,q4⟩=>⟨by rw[q1,p1];rfl,q4⟩)
  have ST:Hid (∀W,Ext w W→Calls prog 227 #[B.kb] W (Zq7 B c t n gens wk r0 W)):=Za fun W x=>by
   have hW:=h.ext x;obtain⟨m1,q,hm⟩:∃m1 q,Tl c t n y.ws y.l y.ms y.m=(m1,q):=⟨_,_,rfl⟩;have er:r0=({ y with m:=m1 },q):=by rw[←h0];unfold T5;rw[if_pos p1,hm]
   refine(Zmz hW.i.k (by omega) hm).mono fun e W' z=>?_
   obtain⟨a,b⟩:=hW.i.mkTo z.2.1 z.2.2;obtain⟨a2,b2⟩:=hW.toGn.inTo a b rfl rfl;rw[er];exact⟨z.1,a2,b2⟩
  have ek:=Bf;unfold Zi at ek;have hfl:=Hf;clear h h0 hr hb e1 e2 le p1;go_enter func327,ntmps327;go_wp2_with fail;refine WK.out.ze fun w1 x1=>?_;go_wp2_with fail;refine(ST.out _ x1).mono ?_;rintro e w2 ⟨rfl,a2,b2⟩;go_wp2_with fail;refine(MD.out _ a2).mono ?_;rintro e w3 ⟨rfl,a3,b3⟩;go_wp2;go_ret;exact⟨rfl,a3,((Zy3 x1).trans b2).trans b3⟩
 ·by_cases p2:y.ph=2
  ·have WK:Hid (Calls prog 189 #[B.yb] w fun e w'=>∃z,e=.returned (.agg #[.func (.func 228) #[] #[.pointer (some ⟨z,0,none⟩)],.func (.func 229) #[B.sb] #[]])∧Ext w w'):=
    Za ((Oi h).mono fun e w' ⟨z,q1,_,_,q4⟩=>⟨z,by rw[q1,p2];rfl,q4⟩)
   have ST:Hid (∀W,Ext w W→Calls prog 229 #[B.sb] W (Zq7 B c t n gens wk r0 W)):=Za fun W x=>by
    have hW:=h.ext x;obtain⟨y1,q,hm⟩:∃y1 q,sStep c t y=(y1,q):=⟨_,_,rfl⟩;have er:r0=(y1,q):=by rw[←h0,←hm];unfold T5;rw[if_neg p1,if_pos p2]
    have ep:y1.ph=y.ph:=by have:=(Qe (c:=c) (t:=t) y).2.2;rw[hm] at this;exact this
    refine(Ef hW.i hm).mono fun e W' z=>?_
    obtain⟨a2,b2⟩:=hW.toGn.inTo z.2.1 z.2.2 ep (by rw[er] at e1;exact e1);rw[er];exact⟨z.1,a2,b2⟩
   have ek:=Bg;unfold Zi at ek;have hfl:=Hf;clear h h0 hr hb e1 e2 le p1 p2;go_enter func327,ntmps327;go_wp2_with fail;refine WK.out.mono ?_;rintro e w1 ⟨z,rfl,x1⟩;go_wp2_with fail;refine(ST.out _ x1).mono ?_;rintro e w2 ⟨rfl,a2,b2⟩;go_wp2_with fail;refine(MD.out _ a2).mono ?_;rintro e w3 ⟨rfl,a3,b3⟩;go_wp2;go_ret;exact⟨rfl,a3,((Zy3 x1).trans b2).trans b3⟩
  ·have WK:Hid (Calls prog 189 #[B.yb] w fun e w'=>e=.returned (.agg #[.func (.func 230) #[] #[],.func (.func 231) #[] #[]])∧Ext w w'):=
    Za ((Oi h).mono fun e w' ⟨z,q1,_,_,q4⟩=>⟨by rw[q1];unfold Zq6;rw[if_neg p1,if_neg p2],q4⟩)
   have er:r0=(y,false):=by rw[←h0];unfold T5;rw[if_neg p1,if_neg p2]
   have ek:=Zbn;unfold Zi at ek;have hfl:=Hf;subst er;clear h h0 hr hb e1 e2 le p1 p2;go_enter func327,ntmps327;go_wp2_with fail;refine WK.out.ze fun w1 x1=>?_;go_wp2_with fail;refine Zm6.zz ?_;go_wp2_with fail;refine(MD.out _ (H.out.ext x1).toGn).mono ?_;rintro e w3 ⟨rfl,a3,b3⟩;go_wp2;go_ret;exact⟨rfl,a3,(Zy3 x1).trans b3⟩
end
section
open Go.RowKit Go.Shelf
variable{F:Fence}{n:Nat}{P:Program}
def Zyd{α:Type}(F:Fence)(n:Nat)(P:Program)(g:Nat)(lb:Array Value)(encs:α→Array Value)(T:List α→World→Prop)(R:List α→α→Prop)(S Sp:List α→Prop)(N:Nat)(w:World):Prop:=
 ∀(l:Nat) (J Jx:List α→World→Prop) (W:World),Below w.heap.size w W→AbidesFrom W.heap.size J→AbidesFrom W.heap.size Jx→(∀pre W1,J pre W1→T pre W1) →
  (∀pre x W1,J pre W1→R pre x→pre.length<N→YieldAt F (n-1) P l (encs x) W1 fun e W'=>(e=.returned (.bool true)∧J (pre++[x]) W')∨(e=.returned (.bool false)∧Jx (pre++[x]) W')) →
  J [] W →
  CallsIn F n P g (#[.func (.yield l) #[] #[]]++lb) W fun e W'=>(∃v,e=.returned v)∧((∃xs,S xs∧J xs W')∨(∃pre,Sp pre∧Jx pre W'))
def Zxv{α:Type}(B:Nat)(I:List α→World→Prop)(Ix:Code→List α→World→Prop)(xs:List α)(W:World):Exit→Act→World→Prop
 | .normal,_,W'=>KeepsFrom B W W'∧I xs W'
 | .ret,_,W'=>KeepsFrom B W W'∧Ix .ret xs W'
 | .exit id,_,W'=>KeepsFrom B W W'∧Ix (.exit id) xs W'
 | .goto t,_,W'=>KeepsFrom B W W'∧Ix (.goto t) xs W'
 | .panic _,_,_=>False
 | .outgrown,_,_=>False
theorem Hg{α:Type}{g:Operand}{ps:Array Tmp}{assign body:Code}{Q:Exit→Act→World→Prop}{a:Act}{w:World}
  (hro:F.round=none) (h1:1≤n) {gf:Nat} {lb:Array Value} (hg:a.eval g=.func (.func gf) #[] lb) (hFg:F.fn gf) (eg:∀args w,(callFunc gf args).run P w=.ok (.enter gf args) w)
  {encs:α→Array Value} {T:List α→World→Prop} {R:List α→α→Prop} {S Sp:List α→Prop} {N:Nat} {w0:World} (hseq:Zyd F (n-1) P gf lb encs T R S Sp N w0) (hb0:Below w0.heap.size w0 w) (hps:∀x,(encs x).size=ps.size)
  (I:List α→World→Prop) (Ix:Code→List α→World→Prop) (hI:OwnFrom w.heap.size I) (hIx:∀c,OwnFrom w.heap.size (Ix c)) (hT:∀pre W,I pre W→T pre W) (h0:I [] w) (a₁:α→Act)
  (hassign:∀(l:Nat) (x:α) (W:World) (K:Act→World→Prop),K (a₁ x) W →
   assign.wpIn (F.inRound l) (n-1-1) P (Exit.then K (fun _ _ _=>False)) { tmps:=(ps.zip (encs x)).foldl (fun t (p,v)=>t.setIfInBounds p v) a.tmps,defers:=[] } W)
  (hbody:∀(l:Nat) (pre:List α) (x:α) (W:World),I pre W→R pre x→pre.length<N→body.wpIn (F.inRound l) (n-1-1) P (Zxv w.heap.size I Ix (pre++[x]) W) (a₁ x) W)
  (hdone:∀(D:Nat) (xs:List α) (W:World),w.heap.size≤D→S xs→I xs W→W.heap[D]?=some (.deferred (some []))→Q .normal { a with defers:={ target:=.collected D,args:=#[] } :: a.defers } W)
  (hstop:∀(D:Nat) (c:Code) (pre:List α) (W:World),w.heap.size≤D→Sp pre→Ix c pre W→W.heap[D]?=some (.deferred (some []))→c.wpIn F n P Q { a with defers:={ target:=.collected D,args:=#[] } :: a.defers } W) :
  (Code.rangeFunc g ps assign body).wpIn F n P Q a w:=by
 refine wpIn_rangeFunc fun fn hfn=>?_
 rw[hro];obtain⟨rec,hrec⟩:∃rec:LoopState→Option Code→Loop,rec=fun st pe=>{ state:=st,pending:=pe,fn,tmps:=a.tmps,params:=ps,assign,body,defers:=w.heap.size }:=⟨_,rfl⟩
 obtain⟨D,hD⟩:=Zb (w.heap.size);obtain⟨W1,hW1⟩:=Zb ((w.alloc (.deferred (some []))).alloc (.loop (rec .ready none)));have at0:W1.heap[D]?=some (.deferred (some [])):=by
  rw[←hW1,←hD];exact(Below.heap_alloc _ _ _ (by simp)).trans (World.alloc_heap_new w _)
 have at1:W1.heap[D+1]?=some (.loop (rec .ready none)):=by
  have:=World.alloc_heap_new (w.alloc (.deferred (some []))) (.loop (rec .ready none));rw[←hW1,←hD];rwa [World.size_alloc] at this
 have size1:W1.heap.size=D+2:=by rw[←hW1,←hD];simp
 have start:I [] W1:=by rw[←hW1];exact hI.alloc _ (hI.alloc _ h0)
 have below1:Below w0.heap.size w0 W1:=by
  rw[←hW1];exact hb0.trans ((((Below.refl _ w).alloc (Zy1 _) _).alloc (by simp) _).mono hb0.size)
 let Rdy (W:World):=W.heap[D+1]?=some (.loop (rec .ready none))∧W.heap[D]?=some (.deferred (some []))
 let End (c:Code) (W:World):=W.heap[D+1]?=some (.loop (rec .done (some c)))∧W.heap[D]?=some (.deferred (some []))
 have walk:∀{A B:World} {row:Option Nat},(∀r,row=some r→W1.heap.size≤r∧∃o:Obj,A.heap[r]?=some o∧o.isWalk=true)→(∀r,row=some r→w.heap.size≤r∧∃o:Obj,A.heap[r]?=some o∧o.isCells=false):=fun {A B row} hr r e=>by
  obtain⟨h1,o,h2,h3⟩:=hr r e;exact⟨by omega,o,h2,Obj.not_cells_of_walk h3⟩
 let yv:Value:=.func (.yield (D+1)) #[] #[]
 refine⟨D+1,[{ target:=.collected D,args:=#[] }],W1,{ target:=.fn (.func gf) lb,args:=#[yv] },W1,gf,#[yv]++lb,W1,?_,?_,?_,?_,fun _=>h1,?_⟩
 ·rw[←hW1,hrec,←hD];exact run_enterLoop_outer _ _ _ _ _
 ·simp only[resolve,hg];simp[go_sem,yv]
 ·intro f' hf';simp[Target.leads] at hf';subst hf';exact hFg
 ·simp[invoke,go_sem,eg]
 have abR:AbidesFrom W1.heap.size (fun pre W=>I pre W∧Rdy W):=fun s A B row hs gr hr=>
  ⟨hI s A B row hs.1 gr (walk (B:=B) hr),(grownBy_keeps gr (fun r e=>(hr r e).2) hs.2.1 rfl).trans hs.2.1,(grownBy_keeps gr (fun r e=>(hr r e).2) hs.2.2 rfl).trans hs.2.2⟩
 have abX:AbidesFrom W1.heap.size (fun pre W=>∃c,Ix c pre W∧End c W):=fun s A B row hs gr hr=>by
  obtain⟨c,h1,h2,h3⟩:=hs;exact⟨c,hIx c s A B row h1 gr (walk (B:=B) hr),(grownBy_keeps gr (fun r e=>(hr r e).2) h2 rfl).trans h2,(grownBy_keeps gr (fun r e=>(hr r e).2) h3 rfl).trans h3⟩
 refine(hseq (D+1) (fun pre W=>I pre W∧Rdy W) (fun pre W=>∃c,Ix c pre W∧End c W) W1 below1 abR abX (fun pre W h=>hT pre W h.1) ?_ ⟨start,at1,at0⟩).mono ?_
 ·rintro pre x W ⟨hi,hl,hk⟩ hRx hlen;have lt:D+1<W.heap.size:=(Array.getElem?_eq_some_iff.1 hl).1;have hy:=run_yield (P:=P) (args:=encs x) hl (by rw[hrec];exact hps x);rw[hrec] at hy;obtain⟨bo,hbo⟩:∃bo:Loop,{ rec .ready none with state:=.busy }=bo:=⟨_,rfl⟩;obtain⟨V,hV⟩:=Zb (W.putObj (D+1) (.loop bo));have v1:V.heap[D+1]?=some (.loop bo):=by rw[←hV];exact World.putObj_heap_same lt
  have v0:V.heap[D]?=some (.deferred (some [])):=by rw[←hV];exact(World.putObj_heap_other (by omega)).trans hk
  have vi:I pre V:=by rw[←hV];exact hI.putObj _ hi (by omega) hl rfl
  refine⟨fn,_,assign,body,hy,roundIn_of_wpIn hfn (hassign _ x W _ ⟨V,by rw[←hV,←hbo];exact run_beginRound hl (by rw[hrec]),?_⟩)⟩;refine wpIn_mono (hbody _ pre x V vi hRx hlen) ?_;have leave:∀(jump:Option Code) (X:World),KeepsFrom w.heap.size V X →
    ∃Y,(Instr.endRound (D+1) jump).run P X=.ok (.bool jump.isNone) Y∧(∀{β:Type} (K:β→World→Prop) (s:β),OwnFrom w.heap.size K→K s X→K s Y)∧Y.heap[D+1]?=some (.loop (rec (if jump.isNone then .ready else .done) jump))∧Y.heap[D]?=some (.deferred (some [])):=fun jump X kp=>by
   have x1:=kp.same _ _ (by omega) v1 rfl;have x0:=kp.same _ _ (by omega) v0 rfl;have ltx:=(Array.getElem?_eq_some_iff.1 x1).1;have er:=run_endRound (P:=P) jump x1;rw[←hbo,hrec] at er;rw[hrec];exact⟨_,er,fun K s hK hs=>hK.putObj _ hs (by omega) x1 rfl,World.putObj_heap_same ltx,(World.putObj_heap_other (by omega)).trans x0⟩
  rintro e a3 X hp;cases e with
  | normal=>
   obtain⟨kp,hx⟩:=hp;obtain⟨Y,r1,r2,r3,r4⟩:=leave none X kp;exact⟨_,_,r1,.inl ⟨rfl,r2 _ _ hI hx,r3,r4⟩⟩
  | ret=>
   obtain⟨kp,hx⟩:=hp;obtain⟨Y,r1,r2,r3,r4⟩:=leave (some .ret) X kp;exact⟨_,_,r1,.inr ⟨rfl,_,r2 _ _ (hIx _) hx,r3,r4⟩⟩
  | exit id=>
   obtain⟨kp,hx⟩:=hp;obtain⟨Y,r1,r2,r3,r4⟩:=leave (some (.exit id)) X kp;exact⟨_,_,r1,.inr ⟨rfl,_,r2 _ _ (hIx _) hx,r3,r4⟩⟩
  | goto q=>
   obtain⟨kp,hx⟩:=hp;obtain⟨Y,r1,r2,r3,r4⟩:=leave (some (.goto q)) X kp;exact⟨_,_,r1,.inr ⟨rfl,_,r2 _ _ (hIx _) hx,r3,r4⟩⟩
  | panic ch=>exact hp.elim
  | outgrown=>exact hp.elim
 ·rintro e X ⟨⟨v,rfl⟩,hx⟩;have over:∀(st:LoopState) (pe:Option Code),st≠.busy→X.heap[D+1]?=some (.loop (rec st pe))→X.heap[D]?=some (.deferred (some [])) →
    ∃Y,(Instr.endLoop (D+1)).run P X=.ok pe Y∧(∀{β:Type} (K:β→World→Prop) (s:β),OwnFrom w.heap.size K→K s X→K s Y)∧Y.heap[D]?=some (.deferred (some [])):=fun st pe hst x1 x0=>by
   have er:=run_endLoop (P:=P) x1 (by rw[hrec];exact hst);rw[hrec] at er;exact⟨_,er,fun K s hK hs=>hK.putObj _ hs (by omega) x1 rfl,(World.putObj_heap_other (by omega)).trans x0⟩
  rcases hx with ⟨xs,hS,hi,hl,hk⟩|⟨pre,hSp,c,hi,hl,hk⟩
  ·obtain⟨Y,r1,r2,r3⟩:=over .ready none (by decide) hl hk;exact⟨none,Y,r1,hdone D xs Y (by omega) hS (r2 _ _ hI hi) r3⟩
  ·obtain⟨Y,r1,r2,r3⟩:=over .done (some c) (by decide) hl hk;exact⟨some c,Y,r1,hstop D c pre Y (by omega) hSp (r2 _ _ (hIx c) hi) r3⟩
end
section
open Go.RowKit Go.Shelf
attribute [local go_sem] Oper.semAt_some
variable{w w':World}{b g cap:Nat}{gens:Int}{l:List Ent}{st:Nat}
abbrev Vx(l:List Ent)(st:Nat):={ k:Nat // k<l.length∧(Zx l k).st=st }
def Zwl(g:Nat)(x:Vx l st):Array Value:=#[.int .i64 (x.1:Int),.pointer (some ⟨g,x.1*3,none⟩)]
def Y6(l:List Ent)(st:Nat):Nat→List (Vx l st)
 | 0=>[]
 | n+1=>Y6 l st n++if h:n<l.length∧(Zx l n).st=st then [⟨n,h⟩] else []
theorem Eg(l:List Ent)(st:Nat):∀n,(Y6 l st n).length≤n
 | 0=>Zy1 _
 | n+1=>by
  have:=Eg l st n;rw[Y6,Zy9];split<;>simp<;>omega
theorem Eh{n:Nat}(h:n<l.length∧(Zx l n).st=st):Y6 l st (n+1)=Y6 l st n++[⟨n,h⟩]:=by rw[Y6,dif_pos h]
theorem Zi0{n:Nat}(h:(Zx l n).st≠st):Y6 l st (n+1)=Y6 l st n:=by rw[Y6,dif_neg (fun q=>h q.2),List.append_nil]
theorem Hh:∀{n:Nat} {x:Vx l st},x∈Y6 l st n→x.1<n
 | 0,x,h=>by cases h
 | n+1,x,h=>by
  rw[Y6,List.mem_append] at h;rcases h with h|h
  ·have:=Hh h;omega
  ·split at h
   ·rw[List.mem_singleton.1 h];exact Nat.lt_succ_self _
   ·cases h
theorem L5:∀{n:Nat},Y6 l st n=[]→∀k,k<n→k<l.length→(Zx l k).st≠st
 | 0,_,k,hk,_=>absurd hk (Zzb _)
 | n+1,h,k,hk,hl=>by
  rw[Y6] at h;obtain⟨h1,h2⟩:=List.append_eq_nil_iff.1 h;by_cases e:k<n
  ·exact L5 h1 k e hl
  ·have e':k=n:=by omega
   subst e';split at h2
   ·cases h2
   ·rename_i q;exact fun hb=>q ⟨hl,hb⟩
theorem Hi{x:Vx l st}{r:List (Vx l st)}:∀{n:Nat},Y6 l st n=x :: r→∀k,k<x.1→(Zx l k).st≠st
 | 0,h=>by cases h
 | n+1,h=>by
  rw[Y6] at h;intro k hk;cases hq:Y6 l st n with
  | nil=>
   rw[hq,List.nil_append] at h;split at h
   ·rename_i q
    injection h with h _
    subst h;exact L5 hq k hk (Nat.lt_trans hk q.1)
   ·cases h
  | cons y q=>
   rw[hq] at h
   injection h with h1 h2
   subst h1;exact Hi hq k hk
structure Zye(Bt Bs b g cap:Nat)(gens:Int)(l:List Ent)(st:Nat)(pre:List (Vx l st))(W:World):Prop where
 t:W.cell? Bt=some (b:Value)
 s:W.cell? Bs=some (.int .i64 (st:Int))
 tab:∃l',Si W b g cap gens l'∧l'.length=l.length∧∀j,(∀x∈pre,x.1<j)→Zx l' j=Zx l j
theorem Ztj(pp:Option Addr)(s:Int){w:World} :
  Calls prog 356 #[.pointer pp,.int .i64 s] w fun e w'=>e=.returned (.func (.func 375) #[] #[w.heap.size,.pointer (some ⟨w.heap.size+1,0,none⟩)]) ∧
   w'=(w.alloc (.cells #[.pointer pp] 59)).alloc (.cells #[.int .i64 s] 3):=by
 go_enter func356,ntmps356;go_wp2;go_ret;exact⟨rfl,rfl⟩
theorem Zwm(n:Nat)(hn:1≤n)(ll Bt Bs:Nat)(J Jx:List (Vx l st)→World→Prop)(hJe:∀pre V V',J pre V→Ext V V'→J pre V')
  (hT:∀pre V,J pre V→Zye Bt Bs b g cap gens l st pre V)
  (hY:∀pre x W,J pre W→pre=Y6 l st x.1→pre.length<l.length→YieldAt Fence.wide (n-1) prog ll (Zwl g x) W fun e W'=>(e=.returned (.bool true)∧J (pre++[x]) W')∨(e=.returned (.bool false)∧Jx (pre++[x]) W'))
  (W:World) (h0:J [] W) :
  CallsIn Fence.wide n prog 375 #[.func (.yield ll) #[] #[],Bt,Bs] W fun e W'=>(∃v,e=.returned v) ∧
   ((∃ys,ys=Y6 l st l.length∧J ys W')∨(∃pre,(∃j,j≤l.length∧pre=Y6 l st j)∧Jx pre W')):=by
 have HY:=Za hY;have JE:=Za hJe;have H0:=Za h0;have HT:=Za hT;obtain⟨hBt,hBs,l0,T0,len0,xx⟩:=hT _ _ h0;obtain⟨n1,n2⟩:=T0.len;obtain⟨p1,p2⟩:=T0.cap;unfold maxLen at p2;obtain⟨L,hL⟩:=Zb (l.length);have HL:=Za hL;have c0:W.cell? b=some (.slice (some ⟨g,0,none⟩) l0.length cap):=T0.box.c 0 _ rfl;rw[len0,hL] at c0 n1 n2 p1;clear xx hY hJe h0 hT hL T0 len0 l0;refine callsIn_of_wp func375 rfl trivial ?_ rfl;simp only[ntmps375,List.size_toArray,List.length_cons,List.length_nil,Nat.reduceAdd,Nat.reduceSub,Array.replicate_succ,Array.replicate_zero,List.push_toArray,List.append_toArray,List.nil_append,List.cons_append]
 gi_wp2
 gi_loopw [11] (fun iv wr=>∃k:Nat,k≤L∧iv=.int .i64 (k:Int)∧Hid (J (Y6 l st k) wr)) (fun iv _=>L-(intOf iv).toNat)
 case atStart=>exact⟨0,Nat.zero_le _,rfl,H0⟩
 case round=>
  obtain⟨k,hk,rfl,HJ⟩:=hrel;by_cases hlt:k<L
  ·have hkl:k<l.length:=by rw[HL.out];exact hlt
   obtain⟨hBt,hBs,l',T1,len1,same⟩:=HT.out _ _ HJ.out;have e0:=(T1.row k (by omega)).st;rw[same k (fun x hx=>Hh hx)] at e0;have c0:wr.cell? b=some (.slice (some ⟨g,0,none⟩) l'.length cap):=T1.box.c 0 _ rfl;rw[len1,HL.out] at c0;have hk0:(0:Int)≤(k:Int):=Int.natCast_nonneg _;have hk1:(k:Int)<(L:Int):=by omega
   have hcl:k<cap:=by omega
   clear T1 len1 same;by_cases ha:(Zx l k).st=st
   ·rw[ha] at e0;have HI:Hid (k<l.length∧(Zx l k).st=st):=Za ⟨hkl,ha⟩;have hl:(Y6 l st k).length<l.length:=by have:=Eg l st k;omega
    have hy0:=HY.out _ ⟨k,HI.out⟩ wr.drew (JE.out _ _ _ HJ.out (Zy2 _).drew) rfl hl;have ef:Zwl g (st:=st) (l:=l) ⟨k,HI.out⟩=#[.int .i64 (k:Int),.pointer (some ⟨g,k*3,none⟩)]:=rfl;rw[ef] at hy0;obtain⟨fn,tmps,assign,body,hy,hR⟩:=hy0;clear ef ha hkl hl
    gi_wp2
    have hR2:=hR.mono (R':=fun e W'=>∃bb:Bool,e=.returned (.bool bb)∧Hid ((bb=true∧J (Y6 l st k++[⟨k,HI.out⟩]) W')∨(bb=false∧Jx (Y6 l st k++[⟨k,HI.out⟩]) W'))) (fun e W' h=>by
     rcases h with ⟨rfl,h1⟩|⟨rfl,h1⟩
     ·exact⟨true,rfl,.inl ⟨rfl,h1⟩⟩
     ·exact⟨false,rfl,.inr ⟨rfl,h1⟩⟩)
    clear hR
    gi_region_with (refine hR2.mono ?_;rintro e W3 ⟨bb,rfl,hbb⟩)
    all_goals
     clear hR2 hy;rcases hbb.out with ⟨rfl,hJ3⟩|⟨rfl,hJx3⟩
     ·have HJ3:=Za hJ3;clear hbb hJ3
      gi_wp2
      go_roundw
      case rel=>exact⟨k+1,by omega,rfl,Za (by rw[Eh HI.out];exact HJ3.out)⟩
      case measure=>simp[intOf];omega
     ·have HX3:=Za hJx3;clear hbb hJx3
      gi_wp2
      refine bodyPost_ret (results_none rfl _ _ _) rfl ?_;exact⟨⟨_,rfl⟩,.inr ⟨_,⟨k+1,by have:=HI.out.1;omega,(Eh HI.out).symm⟩,HX3.out⟩⟩
   ·have HI:=Za ha;obtain⟨a,hA⟩:=Zb ((Zx l k).st);rw[hA] at e0 ha;have te:decide (a=st)=false:=Zyx ha;have te':(a==st)=false:=by simpa using ha
    have te2:((a:Int)==(st:Int))=false:=by simp;omega
    clear hA
    gi_wp2
    first|gi_region_with (refine⟨fun _ h=>(by cases h),?_⟩)|fail
    all_goals
     gi_wp2
     go_roundw
     case rel=>exact⟨k+1,by omega,rfl,Za (by rw[Zi0 HI.out];exact JE.out _ _ _ HJ.out (Zy2 _).drew)⟩
     case measure=>simp[intOf];omega
  ·obtain rfl:k=L:=by omega
   gi_wp2
   go_end0
   exact⟨⟨_,rfl⟩,.inl ⟨_,by rw[HL.out],HJ.out⟩⟩
theorem Zf5(d:Nat)(hd:1≤d)(Bt Bs:Nat)(w:World) :
  Zyd Fence.wide d prog 375 #[Bt,Bs] (Zwl (l:=l) (st:=st) g) (Zye Bt Bs b g cap gens l st) (fun pre x=>pre=Y6 l st x.1) (fun ys=>ys=Y6 l st l.length) (fun pre=>∃j,j≤l.length∧pre=Y6 l st j) l.length w:=
 fun ll J Jx W _ hJ _ hT hY h0=>
  Zwm d hd ll Bt Bs J Jx (fun pre V V' h hz=>hJ pre V V' none h ⟨Below.os hz,Below.tape hz,Below.output hz,Below.size hz,fun k hk _=>Below.block hz k hk⟩ (fun r e=>by cases e)) hT hY W h0
end
section
open Go.RowKit Go.Shelf
attribute [local go_sem] Oper.semAt_some
variable{w w':World}{b g cap:Nat}{gens:Int}{l:List Ent}{st:Nat}
theorem Zbp{l:List Ent}{i:Nat}{v:Ent}(h:i<l.length)(hv:v.st=(Zx l i).st)(k:Nat):Oo (l.set i v) k=Oo l k:=by
 have:=Od (v:=v) k h;rw[hv] at this;omega
theorem Si.setS(h:Si w b g cap gens l){i:Nat}(hi:i<l.length)(s:Int) :
  Si (w.setCell ⟨g,i*3+1,none⟩ (.int .i64 s)) b g cap gens (l.set i ⟨(Zx l i).st,s,(Zx l i).g⟩)∧Chg (taB b g) w (w.setCell ⟨g,i*3+1,none⟩ (.int .i64 s)):=by
 have ne:=h.ne;have hb:Zn (w.setCell ⟨g,i*3+1,none⟩ (.int .i64 s)) b (tbs g cap gens (l.set i ⟨(Zx l i).st,s,(Zx l i).g⟩)):=by
  unfold tbs;rw[List.length_set];simp only[Zbp (v:=⟨(Zx l i).st,s,(Zx l i).g⟩) hi rfl];exact h.box.far (by exact ne.symm) _
 refine⟨⟨hb,fun j hj=>?_,fun o=>by rw[World.frozen?_setCell];exact h.fz o,ne,by rw[List.length_set];exact h.len,by rw[List.length_set];exact h.cap,h.gn,fun j hj=>?_⟩,(Chg.refl _ w).setCell (.inl (.inr rfl)) _⟩
 ·rw[List.length_set] at hj;have r:=h.row j hj;rw[Yq hi];have oth:∀o v',o≠i*3+1→w.cell? ⟨g,o,none⟩=some v'→(w.setCell ⟨g,i*3+1,none⟩ (.int .i64 s)).cell? ⟨g,o,none⟩=some v':=fun o v' ho hc=>by
   rw[Zy0 _ _ _ _ (by intro e;cases e;exact ho rfl)];exact hc
  split
  ·rename_i e;subst e;exact⟨oth _ _ (by omega) r.st,Zyz _ _ _ r.s,oth _ _ (by omega) r.g⟩
  ·exact⟨oth _ _ (by omega) r.st,oth _ _ (by omega) r.s,oth _ _ (by omega) r.g⟩
 ·rw[List.length_set] at hj;rw[Yq hi];split
  ·rename_i e;subst e;exact h.ok j hi
  ·exact h.ok j hj
theorem Si.setG(h:Si w b g cap gens l){i:Nat}(hi:i<l.length){q:Int}(hq:1≤q∧q≤gens) :
  Si (w.setCell ⟨g,i*3+2,none⟩ (.int .u32 q)) b g cap gens (l.set i ⟨(Zx l i).st,(Zx l i).s,q⟩)∧Chg (taB b g) w (w.setCell ⟨g,i*3+2,none⟩ (.int .u32 q)):=by
 have ne:=h.ne;have hb:Zn (w.setCell ⟨g,i*3+2,none⟩ (.int .u32 q)) b (tbs g cap gens (l.set i ⟨(Zx l i).st,(Zx l i).s,q⟩)):=by
  unfold tbs;rw[List.length_set];simp only[Zbp (v:=⟨(Zx l i).st,(Zx l i).s,q⟩) hi rfl];exact h.box.far (by exact ne.symm) _
 refine⟨⟨hb,fun j hj=>?_,fun o=>by rw[World.frozen?_setCell];exact h.fz o,ne,by rw[List.length_set];exact h.len,by rw[List.length_set];exact h.cap,h.gn,fun j hj=>?_⟩,(Chg.refl _ w).setCell (.inl (.inr rfl)) _⟩
 ·rw[List.length_set] at hj;have r:=h.row j hj;rw[Yq hi];have oth:∀o v',o≠i*3+2→w.cell? ⟨g,o,none⟩=some v'→(w.setCell ⟨g,i*3+2,none⟩ (.int .u32 q)).cell? ⟨g,o,none⟩=some v':=fun o v' ho hc=>by
   rw[Zy0 _ _ _ _ (by intro e;cases e;exact ho rfl)];exact hc
  split
  ·rename_i e;subst e;exact⟨oth _ _ (by omega) r.st,oth _ _ (by omega) r.s,Zyz _ _ _ r.g⟩
  ·exact⟨oth _ _ (by omega) r.st,oth _ _ (by omega) r.s,oth _ _ (by omega) r.g⟩
 ·rw[List.length_set] at hj;rw[Yq hi];split
  ·rename_i e;subst e;exact⟨hq.1,hq.2,(h.ok j hi).2.2⟩
  ·exact h.ok j hj
theorem Zi1{k:Nat}(h1:k<l.length)(h2:(Zx l k).st=0)(h3:∀j,j<k→(Zx l j).st≠0):Cj l=some k:=
 Ec (p:=fun i=>decide ((Zx l i).st=0)) h1 (by simp[h2]) (fun j hj=>by simp[h3 j hj])
theorem Zi2(h:Y6 l 0 l.length=[]):Cj l=none:=by
 unfold Cj;rw[List.find?_eq_none];intro k hk;have:=L5 h k (List.mem_range.1 hk) (List.mem_range.1 hk);simp[this]
theorem Zf6(w:World)(v0 v1 v2 v3 v4:Value)(t0 t1 t2 t3 t4:TypeId){z:Nat}(hz:w.heap.size=z):∃W,((((w.alloc (.cells #[v0] t0)).alloc (.cells #[v1] t1)).alloc (.cells #[v2] t2)).alloc (.cells #[v3] t3)).alloc (.cells #[v4] t4)=W∧W.heap.size=z+5∧Ext w W ∧
  Zn W z [v0]∧Zn W (z+1) [v1]∧Zn W (z+2) [v2]∧Zn W (z+3) [v3]∧Zn W (z+4) [v4]:=by
 have e:∀(W:World) (v:Value) (t:TypeId),Ext W (W.alloc (.cells #[v] t)):=fun W v t=>(Zy2 W).alloc _
 refine⟨_,rfl,by simp[hz],((((e _ _ _).trans (e _ _ _)).trans (e _ _ _)).trans (e _ _ _)).trans (e _ _ _),?_,?_,?_,?_,?_⟩
 ·exact((((Zn.new w [v0] t0 hz).ext (e _ _ _)).ext (e _ _ _)).ext (e _ _ _)).ext (e _ _ _)
 ·exact(((Zn.new _ [v1] t1 (by simp[hz])).ext (e _ _ _)).ext (e _ _ _)).ext (e _ _ _)
 ·exact((Zn.new _ [v2] t2 (by simp[hz])).ext (e _ _ _)).ext (e _ _ _)
 ·exact(Zn.new _ [v3] t3 (by simp[hz])).ext (e _ _ _)
 ·exact Zn.new _ [v4] t4 (by simp[hz])
theorem Hj(W:World)(z:Nat){u2 u3 u4:Value}(v2 v3 v4:Value)(h2:W.cell? ⟨z+1+1,0,none⟩=some u2)(h3:W.cell? ⟨z+1+1+1,0,none⟩=some u3)(h4:W.cell? ⟨z+1+1+1+1,0,none⟩=some u4) :
  ((((W.setCell ⟨z+1+1,0,none⟩ v2).setCell ⟨z+1+1+1,0,none⟩ v3).setCell ⟨z+1+1+1+1,0,none⟩ v4).cell? ⟨z+1+1,0,none⟩=some v2 ∧
  (((W.setCell ⟨z+1+1,0,none⟩ v2).setCell ⟨z+1+1+1,0,none⟩ v3).setCell ⟨z+1+1+1+1,0,none⟩ v4).cell? ⟨z+1+1+1,0,none⟩=some v3 ∧
  (((W.setCell ⟨z+1+1,0,none⟩ v2).setCell ⟨z+1+1+1,0,none⟩ v3).setCell ⟨z+1+1+1+1,0,none⟩ v4).cell? ⟨z+1+1+1+1,0,none⟩=some v4) ∧
  KeepsOthers W (((W.setCell ⟨z+1+1,0,none⟩ v2).setCell ⟨z+1+1+1,0,none⟩ v3).setCell ⟨z+1+1+1+1,0,none⟩ v4) ∧
  Chg (fun k=>z≤k) W (((W.setCell ⟨z+1+1,0,none⟩ v2).setCell ⟨z+1+1+1,0,none⟩ v3).setCell ⟨z+1+1+1+1,0,none⟩ v4):=by
 have oth:∀(V:World) (i o:Nat) (u x:Value),i≠o→V.cell? o=some x→(V.setCell i u).cell? o=some x:=fun V i o u x hio hc=>by
  rw[Zy0 _ _ _ _ (by intro e;cases e;exact hio rfl)];exact hc
 have a2:=Zyz W ⟨z+1+1,0,none⟩ v2 h2;have a3:=Zyz _ ⟨z+1+1+1,0,none⟩ v3 (oth W (z+1+1) _ v2 _ (by omega) h3);have a4:=Zyz _ ⟨z+1+1+1+1,0,none⟩ v4 (oth _ (z+1+1+1) _ v3 _ (by omega) (oth W (z+1+1) _ v2 _ (by omega) h4));refine⟨⟨oth _ _ _ _ _ (by omega) (oth _ _ _ _ _ (by omega) a2),oth _ _ _ _ _ (by omega) a3,a4⟩,((KeepsOthers.setCell _ _ _).trans (KeepsOthers.setCell _ _ _)).trans (KeepsOthers.setCell _ _ _),?_⟩;exact((Chg.setCell (P:=fun k=>z≤k) (p:=⟨z+1+1,0,none⟩) (Chg.refl _ W) (.inl (by show z≤z+1+1;omega)) v2).setCell (p:=⟨z+1+1+1,0,none⟩) (.inl (by show z≤z+1+1+1;omega)) v3).setCell (p:=⟨z+1+1+1+1,0,none⟩) (.inl (by show z≤z+1+1+1+1;omega)) v4
theorem Zbq{s:Int}(h:Si w b g cap gens l)(hs:s<0) :
  Calls prog 323 #[b,.int .i64 s] w fun e w'=>e=.returned (.tuple #[(0:Int),.int .u32 0,(2:Int)])∧Ext w w':=by
 obtain⟨z,hz⟩:=Zb (w.heap.size);obtain⟨W0,hW0,sz,x0,k0,k1,k2,k3,k4⟩:=Zf6 w (b:Value) (.int .i64 s) (.int .i64 0) (.int .u32 0) (.int .i64 0) 59 3 3 219 28 hz;have NO:=Za (Vv (h.ext x0));have c0:=k0.c 0 _ rfl;have c1:=k1.c 0 _ rfl;have c2:=k2.c 0 _ rfl;have c3:=k3.c 0 _ rfl;have c4:=k4.c 0 _ rfl;have f2:=k2.f 0;have f3:=k3.f 0;have f4:=k4.f 0;have X0:=Za x0;clear h k0 k1 k2 k3 k4 x0 sz;refine(callsIn_wide (n:=4)).1 ?_;refine callsIn_of_wp_marks func323 rfl trivial ?_ rfl;simp only[ntmps323,List.size_toArray,List.length_cons,List.length_nil,Nat.reduceAdd,Nat.reduceSub,Array.replicate_succ,Array.replicate_zero,List.push_toArray,List.append_toArray,List.nil_append,List.cons_append]
 gi_wp2_with (first|(refine⟨trivial,?_⟩;gi_at_call 46;refine(callsIn_wide.2 NO.out).mono ?_;rintro e w' ⟨rfl,rfl⟩))
 obtain⟨⟨e2,e3,e4⟩,_,ch⟩:=Hj W0 z (.int .i64 0) (.int .u32 0) (.int .i64 2) c2 c3 c4;refine⟨.tuple #[(0:Int),.int .u32 0,(2:Int)],?_,rfl,ch.over X0.out (fun k hk=>by omega)⟩;simp[results,f323,go_sem,e2,e3,e4]
theorem Zd7{s i gn k:Int}{l':List Ent}(h:Si w b g cap gens l)(hs:0≤s)(hr:Lq l s=(l',i,gn,k)) :
  Calls prog 323 #[b,.int .i64 s] w fun e w'=>e=.returned (.tuple #[.int .i64 i,.int .u32 gn,.int .i64 k])∧Si w' b g cap gens l'∧Chg (taB b g) w w':=by
 obtain⟨z,hz⟩:=Zb (w.heap.size);obtain⟨W0,hW0,sz,x0,k0,k1,k2,k3,k4⟩:=Zf6 w (b:Value) (.int .i64 s) (.int .i64 0) (.int .u32 0) (.int .i64 0) 59 3 3 219 28 hz;have H:=Za h;have HR:=Za hr;have HZ:=Za hz;have NO:=Za (Vv (h.ext x0));have lt:=h.lt;have c0:=k0.c 0 _ rfl;have c1:=k1.c 0 _ rfl;have ts:decide (s<0)=false:=Zyx (by omega);have X0:=Za x0;have K:=Za (And.intro k0 (And.intro k1 (And.intro k2 (And.intro k3 k4))));clear h hr k0 k1 k2 k3 k4 x0;refine(callsIn_wide (n:=5)).1 ?_;refine callsIn_of_wp_marks func323 rfl trivial ?_ rfl;simp only[ntmps323,List.size_toArray,List.length_cons,List.length_nil,Nat.reduceAdd,Nat.reduceSub,Array.replicate_succ,Array.replicate_zero,List.push_toArray,List.append_toArray,List.nil_append,List.cons_append]
 gi_wp2_with (first|(refine⟨trivial,?_⟩;gi_at_call 46;refine(callsIn_wide.2 NO.out).mono ?_;rintro e w' ⟨rfl,rfl⟩)|(refine⟨trivial,?_⟩;gi_at_call 356;refine(callsIn_wide.2 (Ztj _ _)).mono ?_;rintro e w' ⟨rfl,rfl⟩))
 obtain⟨Wr,hWr⟩:∃V,(W0.alloc (.cells #[b] 59)).alloc (.cells #[(0:Int)] 3)=V:=⟨_,rfl⟩;have xr:Ext W0 Wr:=by rw[←hWr];exact((Zy2 _).alloc _).alloc _
 have szr:Wr.heap.size=z+7:=by rw[←hWr];simp[sz]
 have cy:Wr.cell? ⟨z+5,0,none⟩=some (b:Value):=by rw[←hWr,←sz];exact((Zy2 _).alloc _).cell (Zg W0 _ _ 0)
 have cs:Wr.cell? ⟨z+5+1,0,none⟩=some (.int .i64 ((0:Nat):Int)):=by
  have:=Zg (W0.alloc (.cells #[b] 59)) #[(0:Int)] 3 0;rw[World.size_alloc,sz,hWr] at this;exact this
 have XR:=Za (X0.out.trans xr);have KR:Hid (Zn Wr z [b]∧Zn Wr (z+1) [.int .i64 s]∧Zn Wr (z+2) [(0:Int)]∧Zn Wr (z+3) [.int .u32 0]∧Zn Wr (z+4) [(0:Int)]):=
  Za ⟨K.out.1.ext xr,K.out.2.1.ext xr,K.out.2.2.1.ext xr,K.out.2.2.2.1.ext xr,K.out.2.2.2.2.ext xr⟩
 have CY:=Za (And.intro cy cs);have ST:=Za (Zf5 (b:=b) (g:=g) (cap:=cap) (gens:=gens) (l:=l) (st:=0) 4 (by decide) (z+5) (z+5+1) Wr);rw[hWr];clear cy cs hWr c0 c1 xr hW0 NO K sz;refine Hg rfl (by decide) (gf:=375) (lb:=#[.pointer (some ⟨z+5,0,none⟩),.pointer (some ⟨z+5+1,0,none⟩)]) rfl trivial (enters_of func375 (by kernel_rfl) rfl)
  ST.out (Below.refl _ _) (fun _=>rfl)
  (fun pre W=>pre=[]∧Below Wr.heap.size Wr W)
  (fun cc q W=>∃(x:Vx l 0),q=[x]∧cc=.ret∧(W.cell? ⟨z+1+1,0,none⟩=some (.int .i64 (x.1:Int))∧W.cell? ⟨z+1+1+1,0,none⟩=some (.int .u32 (Zx l x.1).g)∧W.cell? ⟨z+1+1+1+1,0,none⟩=some (.int .i64 0))∧Si W b g cap gens (l.set x.1 ⟨1,s,(Zx l x.1).g⟩)∧Chg (taB b g) w W)
  (OwnFrom.and (Own.from (fun _ _ _ _ hs _ _=>hs) _) (ownFrom_below (Zy1 _) (Zy1 _)))
  (fun cc s A A' row hs hg hr=>by
   obtain⟨x,e1,e2,⟨e3,e4,e5⟩,e6,e7⟩:=hs;have kk:∀{p:Addr} {v:Value},A.cell? p=some v→A'.cell? p=some v:=fun h=>cell_kept h hg (fun r e=>(hr r e).2)
   exact⟨x,e1,e2,⟨kk e3,kk e4,kk e5⟩,e6.chg (Chg.grown hg hr) (by omega) (by omega),e7.past hg (fun r e=>⟨by have:=(hr r e).1;omega,(hr r e).2⟩)⟩)
  (fun pre W h=>by
   have x:Ext Wr W:=h.2;exact⟨x.cell CY.out.1,x.cell CY.out.2,l,(H.out.ext XR.out).ext x,rfl,fun j _=>rfl⟩)
  ⟨rfl,Below.refl _ _⟩
  (fun x=>{ tmps:=#[(b:Value),.int .i64 s,(z:Value),.pointer (some ⟨z+1,0,none⟩),.pointer (some ⟨z+1+1,0,none⟩),.pointer (some ⟨z+1+1+1,0,none⟩),.pointer (some ⟨z+1+1+1+1,0,none⟩),.int .i64 (x.1:Int),.pointer (some ⟨g,x.1*3,none⟩),.bool false,(b:Value),.bool false,.bool false,.int .i64 s,.bool false,(b:Value),.func (.func 375) #[] #[.pointer (some ⟨z+5,0,none⟩),.pointer (some ⟨z+5+1,0,none⟩)],.int .i64 (x.1:Int),.pointer (some ⟨g,x.1*3,none⟩),undef,undef,undef,undef,undef,undef,undef,undef,undef,undef,undef,undef],defers:=[] }) ?assign ?body ?done ?stop
 case assign=>
  intro l x W K hK;simp only[Zwl]
  gi_wp2
  exact hK
 case body=>
  rintro ll pre x W ⟨rfl,hB⟩ hRx hlen;have hB':Ext Wr W:=hB;have xw:=XR.out.trans hB';have tw:=H.out.ext xw;obtain⟨j,hj⟩:=Zb (x.1);have HX:=Za hj;have xl:=x.2.1;have xs:=x.2.2;rw[hj] at xl xs;have k0:=(KR.out.1.ext hB').c 0 _ rfl;have TU:=Za ((Jo (z:=1) tw xl (.inl ⟨xs,rfl⟩)).mono (R':=fun e W'=>e=.returned (.tuple #[]) ∧
   (W'.cell? ⟨z+1,0,none⟩=some (.int .i64 s)∧W'.cell? ⟨g,j*3+1,none⟩=some (.int .i64 (Zx l j).s)∧W'.frozen? ⟨g,j*3+1,none⟩=false) ∧
   (∃u2 u3 u4,W'.cell? ⟨z+1+1,0,none⟩=some u2∧W'.cell? ⟨z+1+1+1,0,none⟩=some u3∧W'.cell? ⟨z+1+1+1+1,0,none⟩=some u4)∧(W'.frozen? ⟨z+1+1,0,none⟩=false∧W'.frozen? ⟨z+1+1+1,0,none⟩=false∧W'.frozen? ⟨z+1+1+1+1,0,none⟩=false) ∧
   W'.cell? ⟨g,j*3+2,none⟩=some (.int .u32 (Zx l j).g) ∧
   Si W' b g cap gens (l.set j ⟨1,(Zx l j).s,(Zx l j).g⟩)∧Chg (taB b g) W W') (fun e W' ⟨p1,p2,p3⟩=>by
    have nt:∀k,z≤k→¬taB b g k:=fun k hk q=>by unfold taB at q;omega
    have en:Zx (l.set j ⟨1,(Zx l j).s,(Zx l j).g⟩) j=⟨1,(Zx l j).s,(Zx l j).g⟩:=by rw[Yq xl,if_pos rfl]
    have r:=p2.row j (by rw[List.length_set];exact xl);rw[en] at r;have b1:=(KR.out.2.1.ext hB').chg p3 (nt _ (by omega));have b2:=(KR.out.2.2.1.ext hB').chg p3 (nt _ (by omega));have b3:=(KR.out.2.2.2.1.ext hB').chg p3 (nt _ (by omega));have b4:=(KR.out.2.2.2.2.ext hB').chg p3 (nt _ (by omega));exact⟨p1,⟨b1.c 0 _ rfl,r.s,p2.fz _⟩,⟨_,_,_,b2.c 0 _ rfl,b3.c 0 _ rfl,b4.c 0 _ rfl⟩,⟨b2.f 0,b3.f 0,b4.f 0⟩,r.g,p2,p3⟩))
  have HB:=Za xw;simp only[hj];clear hB hB' xw tw hj hRx
  gi_wp2_with (first|(refine⟨trivial,?_⟩;gi_at_call 334;refine(CallsIn.inRound ll (callsIn_wide.2 TU.out)).mono ?_;rintro e W2 ⟨rfl,⟨c1,c5,f5⟩,⟨u2,u3,u4,c2,c3,c4⟩,⟨f2,f3,f4⟩,c6,q1,q2⟩))
  have en:Zx (l.set j ⟨1,(Zx l j).s,(Zx l j).g⟩) j=⟨1,(Zx l j).s,(Zx l j).g⟩:=by rw[Yq xl,if_pos rfl]
  obtain⟨t3,ch3⟩:=q1.setS (i:=j) (by rw[List.length_set];exact xl) s;rw[en,List.set_set] at t3;simp only at t3;have far:∀k o v,z≤k→W2.cell? ⟨k,o,none⟩=some v→(W2.setCell ⟨g,j*3+1,none⟩ (.int .i64 s)).cell? ⟨k,o,none⟩=some v:=fun k o v hk hc=>by
   rw[Zy0 _ _ _ _ (by intro e;cases e;omega)];exact hc
  obtain⟨W3,hW3⟩:∃V,W2.setCell ⟨g,j*3+1,none⟩ (.int .i64 s)=V:=⟨_,rfl⟩;replace c2:=far _ _ _ (by omega) c2;replace c3:=far _ _ _ (by omega) c3;replace c4:=far _ _ _ (by omega) c4;replace f2:W3.frozen? ⟨z+1+1,0,none⟩=false:=by rw[←hW3,World.frozen?_setCell];exact f2
  replace f3:W3.frozen? ⟨z+1+1+1,0,none⟩=false:=by rw[←hW3,World.frozen?_setCell];exact f3
  replace f4:W3.frozen? ⟨z+1+1+1+1,0,none⟩=false:=by rw[←hW3,World.frozen?_setCell];exact f4
  rw[hW3] at t3 ch3 c2 c3 c4;have c6:W3.cell? ⟨g,j*3+2,none⟩=some (.int .u32 (Zx l j).g):=by
   have:=(t3.row j (by rw[List.length_set];exact xl)).g;rw[Yq xl,if_pos rfl] at this;exact this
  have n2:g≠z+1+1:=by omega
  have n3:g≠z+1+1+1:=by omega
  have n4:g≠z+1+1+1+1:=by omega
  have T3:=Za t3;have C3:=Za (q2.trans ch3);have K3:=Za (And.intro c2 (And.intro c3 c4));rw[hW3];clear hW3 t3 ch3 c1 c5 f5 q1 q2 far en TU k0
  gi_region_with fail
  all_goals
   gi_wp2
   obtain⟨e234,ko,ch⟩:=Hj W3.drew z (.int .i64 (j:Int)) (.int .u32 (Zx l j).g) (.int .i64 0) K3.out.1 K3.out.2.1 K3.out.2.2;have chT:Chg (fun k=>z≤k) W3 _:=(Zy3 (Zy2 W3).drew).trans ch;refine⟨((KeepsFrom.of_chg C3.out (fun k q=>by unfold taB at q;omega)).trans ((KeepsOthers.drew _).from _)).trans (ko.from _),⟨x,rfl,rfl,?_,?_,?_⟩⟩
   ·rw[HX.out];exact e234
   ·rw[HX.out];exact T3.out.chg chT (by omega) (by omega)
   ·exact((Zy3 HB.out).trans C3.out).new (chT.mono fun k hk=>by omega)
 case stop=>
  rintro D cc pre W hD ⟨j,hj,hpre⟩ ⟨x,rfl,rfl,⟨e2,e3,e4⟩,e5,e6⟩ hK;have hf:=Zi1 x.2.1 x.2.2 (Hi hpre.symm);have hr:=HR.out;unfold Lq at hr;rw[if_neg (by omega),hf] at hr;cases hr;have E:=Za (And.intro e5 e6);have kk:∀{p:Addr} {v:Value},W.cell? p=some v→(W.putObj D (.deferred none)).cell? p=some v:=fun h=>cell_kept h (grownBy_putObj' _ D (.deferred none)) (fun r e=>by cases e;exact⟨_,hK,rfl⟩)
  have e2:=kk e2;have e3:=kk e3;have e4:=kk e4;clear e5 e6 hf hpre hj kk
  gi_wp2
  refine⟨by simp,.inl ⟨_,_,rfl,run_takeDeferred hK,?_⟩⟩;obtain⟨e5,e6⟩:=E.out;have cw:Chg (fun k=>z≤k) W (W.putObj D (.deferred none)):=(Chg.refl _ W).putObj (by show z≤D;omega) _;refine⟨.tuple #[(x.1:Int),.int .u32 (Zx l x.1).g,(0:Int)],?_,rfl,e5.chg cw (by omega) (by omega),e6.new (cw.mono fun k hk=>by omega)⟩;simp[results,f323,go_sem,e2,e3,e4]
 case done=>
  rintro D ys W hD rfl ⟨Ce,hB⟩ hK;have hf:=Zi2 Ce;have hB':Ext Wr W:=hB;have hr:=HR.out;unfold Lq at hr;rw[if_neg (by omega),hf] at hr;simp only at hr;cases hr;have b2:=KR.out.2.2.1.ext hB';have b3:=KR.out.2.2.2.1.ext hB';have b4:=KR.out.2.2.2.2.ext hB';have c2:W.cell? ⟨z+1+1,0,none⟩=some (.int .i64 0):=b2.c 0 _ rfl;have c3:W.cell? ⟨z+1+1+1,0,none⟩=some (.int .u32 0):=b3.c 0 _ rfl;have c4:W.cell? ⟨z+1+1+1+1,0,none⟩=some (.int .i64 0):=b4.c 0 _ rfl;have f2:W.frozen? ⟨z+1+1,0,none⟩=false:=b2.f 0;have f3:W.frozen? ⟨z+1+1+1,0,none⟩=false:=b3.f 0;have f4:W.frozen? ⟨z+1+1+1+1,0,none⟩=false:=b4.f 0;have XW:=Za (XR.out.trans hB');clear hB hB' Ce hf b2 b3 b4
  gi_wp2
  obtain⟨⟨e2,e3,e4⟩,ko,ch⟩:=Hj W z (.int .i64 0) (.int .u32 0) (.int .i64 131) c2 c3 c4;have e0:=ko.same D _ hK rfl;have kk:∀{p:Addr} {v:Value},(((W.setCell ⟨z+1+1,0,none⟩ (.int .i64 0)).setCell ⟨z+1+1+1,0,none⟩ (.int .u32 0)).setCell ⟨z+1+1+1+1,0,none⟩ (.int .i64 131)).cell? p=some v→((((W.setCell ⟨z+1+1,0,none⟩ (.int .i64 0)).setCell ⟨z+1+1+1,0,none⟩ (.int .u32 0)).setCell ⟨z+1+1+1+1,0,none⟩ (.int .i64 131)).putObj D (.deferred none)).cell? p=some v:=fun h=>cell_kept h (grownBy_putObj' _ D (.deferred none)) (fun r e=>by cases e;exact⟨_,e0,rfl⟩)
  have e2:=kk e2;have e3:=kk e3;have e4:=kk e4;refine⟨by simp,.inl ⟨_,_,rfl,run_takeDeferred e0,?_⟩⟩;have cw:=ch.putObj (by show z≤D;omega) (.deferred none);refine⟨.tuple #[(0:Int),.int .u32 0,(131:Int)],?_,rfl,(H.out.ext XW.out).chg cw (by omega) (by omega),(Zy3 XW.out).new (cw.mono fun k hk=>by omega)⟩;simp[results,f323,go_sem,e2,e3,e4]
theorem Zq9{s i gn k:Int}{l':List Ent}(h:Si w b g cap gens l)(hr:Lq l s=(l',i,gn,k)) :
  Calls prog 323 #[b,.int .i64 s] w fun e w'=>e=.returned (.tuple #[.int .i64 i,.int .u32 gn,.int .i64 k])∧Si w' b g cap gens l'∧Chg (taB b g) w w':=by
 by_cases hs:s<0
 ·unfold Lq at hr;rw[if_pos hs] at hr;cases hr;exact(Zbq h hs).mono fun _ _ h1=>⟨h1.1,h.ext h1.2,Zy3 h1.2⟩
 ·exact Zd7 h (by omega) hr
end
section
variable{F:Fence}{n l:Nat}{P:Program}{ops:Array Oper}{md:Region.Mode}
def Hl(ops:Array Oper):Bool:=ops.all fun o=>match o.op with|.defer _=>false|_=>true
theorem Zi3{i:Nat}{o:Oper}(h:Hl ops=true)(hi:ops[i]?=some o):∀c,o.op≠.defer c:=by
 intro c hc;unfold Hl at h;rw[Array.all_eq_true] at h;obtain⟨hlt,e⟩:=Array.getElem?_eq_some_iff.1 hi;have:=h i hlt;rw[e,hc] at this;cases this
theorem Zbr{Q:Exit→Act→World→Prop}{i:Nat}{K:Act→World→Prop}{a:Act}{w:World}(hro:F.round=none)(hd:Hl ops=true)(h:wpOpIn F n P ops Q i K a w):wpOpIn (F.inRound l) n P ops Q i K a w:=by
 unfold wpOpIn at h ⊢;split
 ·rename_i e;rw[e] at h;exact h
 ·rename_i o e;rw[e] at h;simp only at h;split
  ·rename_i hw;rw[if_pos hw] at h;refine⟨h.1,?_⟩;have h2:=h.2;have e1:o.semAt (F.inRound l).round a.eval=o.semAt F.round a.eval:=by
    rw[hro];exact Oper.semAt_some l _ _ (Zi3 hd e)
   rw[e1];exact h2
  ·rename_i hw;rw[if_neg hw] at h;exact h
theorem Mp{Q:Exit→Act→World→Prop}(hro:F.round=none)(hd:Hl ops=true):∀(fuel:Nat) (listed:Array Bool) (a:Act) (w:World),wpAnyIn F n P md ops Q fuel listed a w→wpAnyIn (F.inRound l) n P md ops Q fuel listed a w
 | 0,_,_,_,h=>h
 | fuel+1,_,_,_,h=>⟨h.1,fun i hi=>Zbr hro hd (wpOpIn_mono (fun a' w' q=>Mp hro hd fuel _ a' w' q) (h.2 i hi))⟩
theorem K8{id:Nat}{Q:Exit→Act→World→Prop}{a:Act}{w:World}{os:List Oper}(hro:F.round=none)(hm:P.follows .mixedOrders=true)(hB:Region.lexB .any os.toArray=true)(hd:Hl os.toArray=true)
  (h:wpQuietIn F n P os.toArray (fun w'=>∃n,w'=w.drewN n) (fun a'=>∀w',(∃n,w'=w.drewN n)→Q .normal a' w') os a):(Code.region id os.toArray true).wpIn (F.inRound l) n P Q a w:=by
 simp only[Region.lexB,Bool.and_eq_true] at hB;refine wpIn_region_any hm (Mp hro hd _ _ _ _ (wpAnyIn_of_quiet (C:=fun w'=>∃n,w'=w.drewN n) (Q:=fun a'=>∀w',(∃n,w'=w.drewN n)→Q .normal a' w') hro (fun _ w' hw' h=>h w' hw') _ _ _ _ ⟨1,rfl⟩ ?_));have:=wpAnyQIn_lex (F:=F) (n:=n) (C:=fun w'=>∃n,w'=w.drewN n) (md:=.any) hB.1 os 0 (Array.replicate os.length false) a (by simp) (by simpa using hB.2) h;simpa using this
end
section
open Go.RowKit Go.Shelf
attribute [local go_sem] Oper.semAt_some
variable{w w':World}{b g cap:Nat}{gens:Int}{l:List Ent}
def Zbs(gens:Int)(l:List Ent)(pre:List (Vx l 2)):List Ent:=(List.range l.length).map fun j=>if pre.any (fun x=>x.1==j) then Om gens (Zx l j) else Zx l j
theorem Vy(pre:List (Vx l 2)):(Zbs gens l pre).length=l.length:=by simp[Zbs]
theorem Mq(pre:List (Vx l 2)){j:Nat}(hj:j<l.length):Zx (Zbs gens l pre) j=if pre.any (fun x=>x.1==j) then Om gens (Zx l j) else Zx l j:=by
 unfold Zbs;show List.getD _ j Zxb=_
 rw[List.getD_eq_getElem?_getD,List.getElem?_map,List.getElem?_range hj];rfl
theorem Bh{l l':List Ent}(h:l.length=l'.length)(hn:∀j,j<l.length→Zx l j=Zx l' j):l=l':=by
 refine List.ext_getElem h fun j h1 h2=>?_
 have:=hn j h1;unfold Zx at this
 rwa [List.getD_eq_getElem?_getD,List.getD_eq_getElem?_getD,List.getElem?_eq_getElem h1,List.getElem?_eq_getElem h2] at this
theorem Zra:Zbs gens l []=l:=Bh (Vy _) fun j hj=>by rw[Vy] at hj;rw[Mq _ hj];simp
theorem Zm8(pre:List (Vx l 2))(x:Vx l 2):Zbs gens l (pre++[x])=(Zbs gens l pre).set x.1 (Om gens (Zx l x.1)):=by
 refine Bh (by rw[List.length_set,Vy,Vy]) fun j hj=>?_
 rw[Vy] at hj;rw[Mq _ hj,Yq (by rw[Vy];exact x.2.1),List.any_append];by_cases e:j=x.1
 ·subst e;simp
 ·have e':(x.1==j)=false:=by simpa using Ne.symm e
  rw[if_neg e,Mq _ hj];simp[e']
theorem Zm9{pre:List (Vx l 2)}{j:Nat}(h:∀x∈pre,x.1<j):Zx (Zbs gens l pre) j=Zx l j:=by
 by_cases hj:j<l.length
 ·rw[Mq _ hj];have:pre.any (fun x=>x.1==j)=false:=by
   rw[List.any_eq_false];intro x hx;have:=h x hx;simp;omega
  rw[this];rfl
 ·rw[Jn (by rw[Vy];omega),Jn (by omega)]
theorem Ei{st:Nat}{x:Vx l st}:∀{n:Nat},x.1<n→x∈Y6 l st n
 | 0,h=>absurd h (Zzb _)
 | n+1,h=>by
  rw[Y6,List.mem_append];by_cases e:x.1<n
  ·exact .inl (Ei e)
  ·have e':x.1=n:=by omega
   right
   rw[dif_pos (by rw[←e'];exact x.2),List.mem_singleton];exact Subtype.ext e'
theorem Zrb:Zbs gens l (Y6 l 2 l.length)=Y4 gens l:=by
 refine Bh (by rw[Vy];simp[Y4]) fun j hj=>?_
 rw[Vy] at hj;have e:Zx (Y4 gens l) j=Om gens (Zx l j):=by
  unfold Y4 Zx;rw[List.getD_eq_getElem?_getD,List.getD_eq_getElem?_getD,List.getElem?_map,List.getElem?_eq_getElem hj];rfl
 rw[Mq _ hj,e];by_cases h2:(Zx l j).st=2
 ·rw[if_pos];rw[List.any_eq_true];exact⟨⟨j,hj,h2⟩,Ei hj,by simp⟩
 ·have:Om gens (Zx l j)=Zx l j:=by unfold Om;rw[if_neg h2]
  rw[this];simp
structure Zi4(w:World)(b g cap:Nat)(gens:Int)(l:List Ent)(z:Nat)(pre:List (Vx l 2))(W:World):Prop where
 tab:Si W b g cap gens (Zbs gens l pre)
 box:W.cell? z=some (b:Value)
 cnt:∃n:Nat,n≤pre.length∧W.cell? ⟨z+1,0,none⟩=some (.int .i64 (n:Int))
 fz:W.frozen? ⟨z+1,0,none⟩=false
 t:W.cell? ⟨z+2,0,none⟩=some (b:Value)
 s:W.cell? ⟨z+2+1,0,none⟩=some (.int .i64 ((2:Nat):Int))
 ch:Chg (taB b g) w W
theorem Zi4.own{z:Nat}{pre:List (Vx l 2)}{A A':World}{row:Option Nat}{N:Nat}(h:Zi4 w b g cap gens l z pre A)(hw:w.heap.size≤N)(lt:b<w.heap.size∧g<w.heap.size)(hg:A.grownBy A' row)
  (hr:∀r,row=some r→N≤r∧∃o:Obj,A.heap[r]?=some o∧o.isCells=false):Zi4 w b g cap gens l z pre A':=by
 have kk:∀{p:Addr} {v:Value},A.cell? p=some v→A'.cell? p=some v:=fun h=>cell_kept h hg (fun r e=>(hr r e).2)
 obtain⟨n,n1,n2⟩:=h.cnt;exact⟨h.tab.chg (Chg.grown hg hr) (by omega) (by omega),kk h.box,⟨n,n1,kk n2⟩,(frozen_kept n2 hg (fun r e=>(hr r e).2)).trans h.fz,kk h.t,kk h.s,h.ch.past hg (fun r e=>⟨by have:=(hr r e).1;omega,(hr r e).2⟩)⟩
theorem Zi4.go{z:Nat}{pre pre':List (Vx l 2)}{W W':World}(h:Zi4 w b g cap gens l z pre W)(hz:w.heap.size≤z)(lt:b<w.heap.size∧g<w.heap.size)(hp:pre.length≤pre'.length)(x:Chg (taB b g) W W')(ht:Si W' b g cap gens (Zbs gens l pre')):Zi4 w b g cap gens l z pre' W':=by
 have nt:∀k,z≤k→¬taB b g k:=fun k hk q=>by unfold taB at q;omega
 obtain⟨n,n1,n2⟩:=h.cnt;exact⟨ht,x.cell (nt _ (Zy1 _)) h.box,⟨n,by omega,x.cell (nt _ (by show z≤z+1;omega)) n2⟩,by rw[x.frozen (p:=⟨z+1,0,none⟩) (Zj n2) (nt _ (by show z≤z+1;omega))];exact h.fz,x.cell (nt _ (by show z≤z+2;omega)) h.t,x.cell (nt _ (by show z≤z+2+1;omega)) h.s,h.ch.trans x⟩
theorem Zi4.inc{z n':Nat}{pre:List (Vx l 2)}{W:World}(h:Zi4 w b g cap gens l z pre W)(hz:w.heap.size≤z)(lt:b<w.heap.size∧g<w.heap.size)(hn:n'≤pre.length):Zi4 w b g cap gens l z pre (W.setCell ⟨z+1,0,none⟩ (.int .i64 (n':Int))):=by
 obtain⟨n,n1,n2⟩:=h.cnt;have oth:∀{o:Nat} {v:Value},z+1≠o→W.cell? ⟨o,0,none⟩=some v→(W.setCell ⟨z+1,0,none⟩ (.int .i64 (n':Int))).cell? ⟨o,0,none⟩=some v:=fun ho hc=>by
  rw[Zy0 _ _ _ _ (by intro e;cases e;exact ho rfl)];exact hc
 have c1:Chg (fun k=>z≤k) W (W.setCell ⟨z+1,0,none⟩ (.int .i64 (n':Int))):=(Chg.refl _ W).setCell (.inl (by show z≤z+1;omega)) _;exact⟨h.tab.chg c1 (by omega) (by omega),oth (by omega) h.box,⟨n',hn,Zyz _ _ _ n2⟩,by rw[World.frozen?_setCell];exact h.fz,oth (by omega) h.t,oth (by omega) h.s,h.ch.setCell (.inr (by show w.heap.size≤z+1;omega)) _⟩
theorem Zn.one{W:World}{b:Nat}{v:Value}(h:Zn W b [v]):W.cell? b=some v:=h.c 0 _ rfl
theorem Zd8(h:Si w b g cap gens l) :
  Calls prog 368 #[b] w fun e w'=>(∃n:Int,e=.returned (.int .i64 n))∧Si w' b g cap gens (Y4 gens l)∧Chg (taB b g) w w':=by
 obtain⟨z,hz⟩:=Zb (w.heap.size);obtain⟨W0,hW0⟩:=Zb (w.alloc (.cells #[b] 59));have x0:Ext w W0:=by rw[←hW0];exact(Zy2 _).alloc _
 have k0:Zn W0 z [b]:=by rw[←hW0];exact Zn.new w _ _ hz
 have sz:W0.heap.size=z+1:=by rw[←hW0,←hz];simp
 obtain⟨W1,hW1⟩:=Zb (W0.alloc (.cells #[(0:Int)] 3));have x1:Ext W0 W1:=by rw[←hW1];exact(Zy2 _).alloc _
 have k1:Zn W1 (z+1) [(0:Int)]:=by rw[←hW1];exact Zn.new W0 _ _ sz
 have sz1:W1.heap.size=z+2:=by rw[←hW1,World.size_alloc,sz]
 have H:=Za h;have lt:=h.lt;have NO:=Za (Vv (h.ext x0));have c0:=k0.one;have f1:=k1.f 0;have c1:=k1.one;have c01:=x1.cell c0;have HZ:=Za hz;have x01:=x0.trans x1;refine(callsIn_wide (n:=5)).1 ?_;refine callsIn_of_wp_marks func368 rfl trivial ?_ rfl;simp only[ntmps368,List.size_toArray,List.length_cons,List.length_nil,Nat.reduceAdd,Nat.reduceSub,Array.replicate_succ,Array.replicate_zero,List.push_toArray,List.append_toArray,List.nil_append,List.cons_append]
 gi_wp2_with (first|(refine⟨trivial,?_⟩;gi_at_call 46;refine(callsIn_wide.2 NO.out).mono ?_;rintro e w' ⟨rfl,rfl⟩)|(refine⟨trivial,?_⟩;gi_at_call 356;refine(callsIn_wide.2 (Ztj _ _)).mono ?_;rintro e w' ⟨rfl,rfl⟩))
 obtain⟨V1,hV1⟩:∃V,W1.setCell ⟨z+1,0,none⟩ (.int .i64 0)=V:=⟨_,rfl⟩;have b1:Zn V1 (z+1) [(0:Int)]:=by rw[←hV1];exact k1.set (i:=0) (by decide) (.int .i64 0)
 have d01:V1.cell? z=some (b:Value):=by
  rw[←hV1,Zy0 _ _ _ _ (by intro e;cases e)];exact c01
 have xV:Ext w V1:=by rw[←hV1];exact x01.setCell (p:=⟨z+1,0,none⟩) (by show w.heap.size≤z+1;omega) _
 have szV:V1.heap.size=z+2:=by rw[←hV1];simp[sz1]
 obtain⟨Wr,hWr⟩:∃V,(V1.alloc (.cells #[b] 59)).alloc (.cells #[(2:Int)] 3)=V:=⟨_,rfl⟩;have xr:Ext V1 Wr:=by rw[←hWr];exact((Zy2 _).alloc _).alloc _
 have szr:Wr.heap.size=z+4:=by rw[←hWr];simp[szV]
 have cy:Wr.cell? ⟨z+2,0,none⟩=some (b:Value):=by rw[←hWr,←szV];exact((Zy2 _).alloc _).cell (Zg V1 _ _ 0)
 have cs:Wr.cell? ⟨z+2+1,0,none⟩=some (.int .i64 ((2:Nat):Int)):=by
  have:=Zg (V1.alloc (.cells #[b] 59)) #[(2:Int)] 3 0;rw[World.size_alloc,szV,hWr] at this;exact this
 have XR:=xV.trans xr;have I0:Zi4 w b g cap gens l z [] Wr:=⟨by rw[Zra];exact h.ext XR,xr.cell d01,⟨0,Nat.zero_le _,(b1.ext xr).one⟩,(b1.ext xr).f 0,cy,cs,Zy3 XR⟩;have ST:=Za (Zf5 (b:=b) (g:=g) (cap:=cap) (gens:=gens) (l:=l) (st:=2) 4 (by decide) (z+2) (z+2+1) Wr);rw[hV1,hWr];clear cy cs hWr hV1 hW1 hW0 c0 c1 c01 f1 x0 x1 x01 xr xV XR NO b1 d01 k0 k1 h sz sz1 szV;have I0:=Za I0;refine Hg rfl (by decide) (gf:=375) (lb:=#[.pointer (some ⟨z+2,0,none⟩),.pointer (some ⟨z+2+1,0,none⟩)]) rfl trivial (enters_of func375 (by kernel_rfl) rfl)
  ST.out (Below.refl _ _) (fun _=>rfl)
  (fun pre W=>Zi4 w b g cap gens l z pre W)
  (fun _ _ _=>False)
  (fun pre A A' row hs hg hr=>hs.own (by omega) lt hg hr)
  (fun _ _ _ _ _ hs _ _=>hs)
  (fun pre W h=>⟨h.t,h.s,_,h.tab,Vy _,fun j hj=>Zm9 hj⟩)
  I0.out
  (fun x=>{ tmps:=#[(b:Value),(z:Value),.int .i64 0,.pointer (some ⟨z+1,0,none⟩),undef,.pointer (some ⟨g,x.1*3,none⟩),(b:Value),.bool false,(b:Value),.func (.func 375) #[] #[.pointer (some ⟨z+2,0,none⟩),.pointer (some ⟨z+2+1,0,none⟩)],.int .i64 (x.1:Int),.pointer (some ⟨g,x.1*3,none⟩),undef,undef,undef,undef,undef,undef,undef,undef,undef,undef,undef,undef,undef,undef,undef,undef,undef,undef,undef,undef,undef,undef,undef,undef,undef,undef,undef,undef,undef],defers:=[] }) ?assign ?body ?done ?stop
 case assign=>
  intro l x W K hK;simp only[Zwl]
  gi_wp2
  exact hK
 case stop=>
  rintro D c pre W _ _ h _;exact h.elim
 case done=>
  rintro D ys W hD rfl hI hK;obtain⟨n,_,cn⟩:=hI.cnt;have bx:=hI.box;have tb:=hI.tab;rw[Zrb] at tb;have T:=Za tb;have C:=Za hI.ch;clear hI tb
  gi_wp2
  refine⟨by simp,.inl ⟨_,_,rfl,run_takeDeferred hK,?_⟩⟩;have cw:Chg (fun k=>z≤k) W (W.putObj D (.deferred none)):=(Chg.refl _ W).putObj (by show z≤D;omega) _;refine⟨.int .i64 (n:Int),?_,⟨_,rfl⟩,T.out.chg cw (by omega) (by omega),C.out.new (cw.mono fun k hk=>by omega)⟩;simp[results,f368,go_sem]
 case body=>
  rintro ll pre x W hI hRx hlen;obtain⟨j,hj⟩:=Zb (x.1);have xl:=x.2.1;have xs:=x.2.2;have same:Zx (Zbs gens l pre) x.1=Zx l x.1:=Zm9 (fun y hy=>by rw[hRx] at hy;exact Hh hy);have sn:=Zm8 (gens:=gens) pre x;rw[hj] at xl xs same sn;have HX:=Za hj;obtain⟨gn,hgn⟩:∃q,(Zx l j).g=q:=⟨_,rfl⟩;have gok:=H.out.ok j xl;rw[hgn] at gok;have g31:=H.out.gn;have jl:j<(Zbs gens l pre).length:=by rw[Vy];exact xl
  have e5:=(hI.tab.row j jl).s;have f5:=hI.tab.fz (j*3+1);obtain⟨t2,ch2⟩:=hI.tab.setS jl 0;rw[same,xs,hgn] at t2;obtain⟨W2,hW2⟩:∃V,W.setCell ⟨g,j*3+1,none⟩ (.int .i64 0)=V:=⟨_,rfl⟩;rw[hW2] at t2 ch2;have en2:Zx ((Zbs gens l pre).set j ⟨2,0,gn⟩) j=⟨2,0,gn⟩:=by rw[Yq jl,if_pos rfl]
  have jl2:j<((Zbs gens l pre).set j ⟨2,0,gn⟩).length:=by rw[List.length_set];exact jl
  have nt:∀k,z≤k→¬taB b g k:=fun k hk q=>by unfold taB at q;omega
  have bz:=ch2.cell (nt z (Zy1 _)) hI.box;have bz':=(Zy2 W2).drew.cell bz;have cg:W2.cell? ⟨b,1,none⟩=some (.int .i64 gens):=t2.box.c 1 _ rfl;have cn:W2.cell? ⟨g,j*3+2,none⟩=some (.int .u32 gn):=by have:=(t2.row j jl2).g;rw[en2] at this;exact this
  have cn':=(Zy2 W2).drew.cell cn;have hw1:IntKind.i64.wrap gn=gn:=IntWalk.i64_in _ (by omega);have HI:=Za hI;have T2:=Za t2;have C2:=Za ch2;simp only[hj]
  gi_wp2
  clear hW2 e5 f5;refine K8 (F:=Fence.wide) rfl (by kernel_rfl) (by kernel_rfl) (by kernel_rfl) ?_
  repeat (refine wpQuietIn_step (fun _ _ _ _=>trivial) (fun K hK=>?_);go_simp;(refine hK _ ?_;clear hK K))
  refine wpQuietIn_nil ?_;intro _ hw';obtain⟨nq,hw''⟩:=hw';subst hw'';obtain⟨V,hV⟩:=Zb (W2.drewN nq);have xv:Ext W2 V:=by rw[←hV];exact(Zy2 _).drewN _
  rw[hV];clear hV bz' cn';have bzV:=xv.cell bz;have cnV:=xv.cell cn;have fV:V.frozen? ⟨g,j*3+2,none⟩=false:=xv.frozenAt cn (t2.fz _);have tV:=t2.ext xv;have CV:=Za (C2.out.trans (Zy3 xv));by_cases hge:gens≤gn
  ·have te:decide (gens≤gn)=true:=Zyy hge;have fin:Om gens (Zx l j)=⟨3,0,gn⟩:=by unfold Om;rw[if_pos xs,hgn,if_pos hge]
   have TU:=Za ((Jo (z:=3) tV jl2 (by rw[en2];exact .inr (.inr (.inl ⟨rfl,rfl⟩)))).mono (R':=fun e W'=>e=.returned (.tuple #[])∧Zi4 w b g cap gens l z (pre++[x]) W'∧KeepsFrom Wr.heap.size W W') fun e W' ⟨p1,p2,p3⟩=>by
    rw[en2,List.set_set] at p2;rw[fin] at sn;rw[←sn] at p2;have ca:=CV.out.trans p3;exact⟨p1,HI.out.go (by omega) lt (by simp) ca p2,KeepsFrom.of_chg ca (fun k q=>by unfold taB at q;omega)⟩)
   clear hI t2 ch2 hge fin sn same hRx hj tV bz cn cg;simp only[te]
   gi_wp2_with (first|(refine⟨trivial,?_⟩;gi_at_call 334;refine(CallsIn.inRound ll (callsIn_wide.2 TU.out)).mono ?_;rintro e W3 ⟨rfl,q1,q2⟩))
   exact⟨q2,q1⟩
  ·have te:decide (gens≤gn)=false:=Zyx hge;have fin:Om gens (Zx l j)=⟨0,0,gn+1⟩:=by unfold Om;rw[if_pos xs,hgn,if_neg hge]
   have hw2:IntKind.u32.wrap (gn+1)=gn+1:=IntWalk.u32_in _ (by omega);obtain⟨t3,ch3⟩:=tV.setG jl2 (q:=gn+1) (by omega);rw[en2,List.set_set] at t3;simp only at t3;obtain⟨W3,hW3⟩:∃X,V.setCell ⟨g,j*3+2,none⟩ (.int .u32 (gn+1))=X:=⟨_,rfl⟩;rw[hW3] at t3 ch3;have en3:Zx ((Zbs gens l pre).set j ⟨2,0,gn+1⟩) j=⟨2,0,gn+1⟩:=by rw[Yq jl,if_pos rfl]
   have jl3:j<((Zbs gens l pre).set j ⟨2,0,gn+1⟩).length:=by rw[List.length_set];exact jl
   have C3:=Za (CV.out.trans ch3);have bz3:=C3.out.cell (nt z (Zy1 _)) hI.box;obtain⟨nn,n1,n2⟩:=hI.cnt;have hw3:IntKind.i64.wrap ((nn:Int)+1)=((nn+1:Nat):Int):=by rw[IntWalk.i64_in _ (by have:=H.out.len;omega)];omega
   obtain⟨n',hn'⟩:∃n',nn+1=n':=⟨_,rfl⟩;rw[hn'] at hw3;have N1:=Za n1;have HN:=Za hn';have TU:=Za ((Jo (z:=0) t3 jl3 (by rw[en3];exact .inr (.inr (.inr ⟨rfl,rfl⟩)))).mono (R':=fun e W'=>e=.returned (.tuple #[])∧(W'.cell? ⟨z+1,0,none⟩=some (.int .i64 (nn:Int))∧W'.frozen? ⟨z+1,0,none⟩=false)∧Zi4 w b g cap gens l z (pre++[x]) W'∧KeepsFrom Wr.heap.size W W') fun e W' ⟨p1,p2,p3⟩=>by
    rw[en3,List.set_set] at p2;rw[fin] at sn;rw[←sn] at p2;have ca:=C3.out.trans p3;have g:=HI.out.go (by omega) lt (by simp) ca p2;exact⟨p1,⟨ca.cell (nt _ (by show z≤z+1;omega)) n2,g.fz⟩,g,KeepsFrom.of_chg ca (fun k q=>by unfold taB at q;omega)⟩)
   clear hI t2 ch2 hge fin sn same hRx hj t3 ch3 hn' n1 n2 tV bz cn cg;simp only[te]
   gi_wp2_with (first|(refine⟨trivial,?_⟩;gi_at_call 334;refine(CallsIn.inRound ll (callsIn_wide.2 TU.out)).mono ?_;rintro e W4 ⟨rfl,⟨c4,f4⟩,q1,q2⟩))
   exact⟨q2.trans ((KeepsOthers.setCell _ _ _).from _),q1.inc (by omega) lt (by rw[Zy9,List.length_singleton];have:=N1.out;have:=HN.out;omega)⟩
end
section
variable{w w':World}{B:CB}{c:Zh}{t n F:Nat}{gens wk:Int}{y:CY}
theorem Zi5{y':CY}{k:Nat}(h:Vw w B c t n gens wk y)(hy:YOk c t n gens wk y)(hm:Z7 c t y.l≤176214016)(hp:y.ph≠0)(hF:Z7 c t y.l<F)(hr:Kz c t n F y=(y',k)) :
  Calls prog 344 #[B.yb] w fun e w'=>e=.returned (.tuple #[(k:Int),(0:Int)])∧Vw w' B c t n gens wk y'∧Chg B.cyP w w':=by
 have c8:=h.box.c 8 _ rfl;have H:=Za h;have HY:=Za hy;have HR:=Za hr;have HF:=Za hF;have HM:=Za hm;obtain⟨q,hq⟩:=Zb (y.ph);rw[hq] at c8 hp;have tp:((q:Int)==0)=false:=by simp;omega
 clear h hy hr hF hp hq hm;go_enter func344,ntmps344;go_wp2_with fail;refine(Xc H.out).zz ?_;go_wp2_with fail
 go_loopw [2] (fun sv wr=>∃(j f:Nat) (z:CY),sv=.int .i64 (j:Int)∧Hid (Vw wr B c t n gens wk z)∧Hid (YOk c t n gens wk z)∧Hid (z.l=y.l)∧Hid (Z7 c t z.l<f+z.steps)∧Hid (j+z.steps≤Z7 c t y.l+j∧j+f≤F∧j≤z.steps)∧Hid (Chg B.cyP w wr) ∧
  Hid (Kz c t n F y=((Kz c t n f z).1,(Kz c t n f z).2+j))) (fun sv _=>F-(intOf sv).toNat)
 case atStart=>exact⟨0,F,y,rfl,H,HY,Za rfl,Za (by have:=HF.out;omega),Za ⟨by have:=HY.out.st.1;omega,by omega,by omega⟩,Za (Chg.refl _ _),Za rfl⟩
 case round=>
  obtain⟨j,f,z,rfl,HZ,OK,HL,HB,HC,X,E⟩:=hrel;have zs:=OK.out.st.1;have ml:Z7 c t z.l=Z7 c t y.l:=by unfold Z7;rw[HL.out]
  obtain⟨z2,r,hz⟩:∃z2 r,Vn c t n z=(z2,r):=⟨_,_,rfl⟩;have b40:z.steps+1<1099511627776:=by have:=HM.out;omega
  have HP:=Za (Zf4 HZ.out b40 hz);have fpos:f≠0:=by have:=HB.out;omega
  obtain⟨f',rfl⟩:∃f',f=f'+1:=⟨f-1,by omega⟩;have md:=Tr OK.out;rw[hz] at md;have MD:=Za md;have jb:j≤176214016:=by have:=HM.out;have:=HC.out;omega
  have wj:IntKind.i64.wrap ((j:Int)+1)=((j+1:Nat):Int):=by rw[IntWalk.i64_in _ (by omega)];omega
  obtain⟨J,hJ⟩:=Zb (j+1);rw[hJ] at wj;have HJ:=Za hJ;have HZ2:=Za hz;have ML:=Za (And.intro ml zs);clear md hz zs ml b40 fpos hJ jb;go_wp2_with fail;refine HP.out.mono ?_;rintro e w1 ⟨rfl,a1,x1⟩;have A1:=Za (And.intro a1 (X.out.trans x1));clear a1 x1 HP;cases r
  ·have e2:z2=z:=MD.out.no rfl;subst e2;have ef:Kz c t n (f'+1) z2=(z2,0):=by
    unfold Kz;rw[HZ2.out];rfl
   have er:=HR.out;rw[E.out,ef] at er;simp only[Nat.zero_add] at er;cases er;go_wp2;go_ret2;exact⟨rfl,A1.out.1,A1.out.2⟩
  ·go_wp2;go_roundw
   case rel=>
    have s1:=MD.out.yes rfl;have l1:=MD.out.l;simp only at s1 l1;refine⟨J,f',z2,rfl,Za A1.out.1,Za MD.out.ok,Za (by rw[l1];exact HL.out),Za (by rw[l1,s1];have:=HB.out;omega),Za ⟨?_,?_,?_⟩,Za A1.out.2,Za ?_⟩
    ·have q1:=MD.out.ok.st.1;have ml:Z7 c t z2.l=Z7 c t y.l:=by unfold Z7;rw[l1,HL.out]
     rw[ml] at q1;simp only at q1;omega
    ·have:=HC.out.2.1;have:=HJ.out;omega
    ·have:=HC.out.2.2;have:=HJ.out;omega
    ·rw[E.out];have ef:Kz c t n (f'+1) z=((Kz c t n f' z2).1,(Kz c t n f' z2).2+1):=by
      conv=>lhs;unfold Kz
      rw[HZ2.out];rfl
     rw[ef];have:=HJ.out;refine Prod.ext rfl ?_;show(Kz c t n f' z2).2+1+j=(Kz c t n f' z2).2+J
     omega
   case measure=>have:=HC.out.2.1;have:=HJ.out;simp[intOf];omega
theorem Zd9(h:Vw w B c t n gens wk y)(hd:y.ph=3→Qn y.s=true):Calls prog 345 #[B.yb] w fun e w'=>(∃a b d:Int,e=.returned (.tuple #[.int .i64 a,.int .i64 b,.int .i64 d]))∧Vw w' B c t n gens wk (Xl gens y)∧Chg B.cyP w w':=by
 have c8:=h.box.c 8 _ rfl;have c6:=h.box.c 6 _ rfl;have H:=Za h;unfold Xl;by_cases p3:y.ph=3
 ·rw[if_pos p3];rw[p3] at c8;obtain⟨y1,hy1⟩:∃y1:CY,{ y with bs:=(Wz y.bs y.s.d).1,s:=⟨List.replicate y.s.d.length false,0,false⟩ }=y1:=⟨_,rfl⟩;have e1:y1.ph=y.ph∧y1.steps=y.steps∧y1.m=y.m∧y1.l=y.l:=by rw[←hy1];exact⟨rfl,rfl,rfl,rfl⟩
  have SS:Hid (Calls prog 367 #[B.sb] w fun e W'=>(∃k:Int,e=.returned (.tuple #[.int .i64 k,(0:Int)]))∧Vw W' B c t n gens wk y1∧Chg B.cyP w W'):=
   Za ((Zir h.i (hd p3)).mono fun e W' q=>by
    rw[hy1] at q;exact⟨q.1,h.inTo q.2.1 q.2.2 e1.1 e1.2.1 (by rw[e1.2.2.1,e1.2.1];exact h.le)⟩)
  have RE:Hid (∀W,Vw W B c t n gens wk y1→Calls prog 368 #[B.tb] W fun e W'=>(∃k:Int,e=.returned (.int .i64 k))∧Vw W' B c t n gens wk { y1 with l:=Y4 gens y1.l }∧Chg B.cyP W W'):=
   Za fun W hW=>(Zd8 hW.i.k.tab).mono fun e W' q=>by
    obtain⟨a,b⟩:=hW.i.tabTo q.2.1 q.2.2 (by unfold Y4;rw[List.length_map]);exact⟨q.1,hW.inTo a b rfl rfl hW.le⟩
  have MS:Hid (∀W,Vw W B c t n gens wk { y1 with l:=Y4 gens y1.l }→Calls prog 369 #[B.kb] W fun e W'=>(∃k:Int,e=.returned (.int .i64 k))∧Vw W' B c t n gens wk { y1 with l:=Y4 gens y1.l,m:={ y1.m with act:=false } }∧Chg B.cyP W W'):=
   Za fun W hW=>(Zmu hW.i.k).mono fun e W' ⟨k,q1,q2,q3⟩=>by
    obtain⟨a,b⟩:=hW.i.mkTo q2 q3;exact⟨⟨k,q1⟩,hW.inTo a b rfl rfl hW.le⟩
  have FE:{ y with bs:=(Wz y.bs y.s.d).1,s:=⟨List.replicate y.s.d.length false,0,false⟩,l:=Y4 gens y.l,m:={ y.m with act:=false },ph:=0 }={ { y1 with l:=Y4 gens y1.l,m:={ y1.m with act:=false } } with ph:=0 }:=by rw[←hy1]
  rw[FE];clear h hd p3 FE hy1 e1;go_enter func345,ntmps345;go_wp2_with fail;refine(Xc H.out).zz ?_;go_wp2_with fail;refine SS.out.mono ?_;rintro e w1 ⟨⟨k1,rfl⟩,a1,x1⟩;have c3:=a1.box.c 3 _ rfl;have A1:=Za a1;clear a1;go_wp2_with fail;refine(RE.out _ A1.out).mono ?_;rintro e w2 ⟨⟨k2,rfl⟩,a2,x2⟩;have c5:=a2.box.c 5 _ rfl;have A2:=Za a2;clear a2;go_wp2_with fail;refine(MS.out _ A2.out).mono ?_;rintro e w3 ⟨⟨k3,rfl⟩,a3,x3⟩;have c8:=a3.box.c 8 _ rfl;have f8:=a3.box.f 8;have FIN:=Za (And.intro (a3.phTo (p:=0) (by decide)).1 (((x1.trans x2).trans x3).trans (a3.phTo (p:=0) (by decide)).2));clear a3 x1 x2 x3;go_wp2
  go_ret3
  exact⟨⟨_,_,_,rfl⟩,FIN.out.1,FIN.out.2⟩
 ·rw[if_neg p3];obtain⟨q,hq⟩:=Zb (y.ph);rw[hq] at c8 p3;have tp:((q:Int) != 3)=true:=by simp;omega
  clear h hd hq p3;go_enter func345,ntmps345;go_wp2_with fail;refine(Xc H.out).zz ?_;go_wp2
  go_ret3
  exact⟨⟨_,_,_,rfl⟩,H.out,Chg.refl _ _⟩
end
section
open Go.RowKit Go.Lib
namespace Mul64
theorem maskN(a:Nat)(ha:a<18446744073709551616):bits .and .u64 (a:Int) 4294967295=((a % 4294967296:Nat):Int):=by
 have h:=bits_and_u64_nat a 4294967295 ha (by omega);have e:a &&& 4294967295=a % 4294967296:=Nat.and_two_pow_sub_one_eq_mod a 32;rw[e] at h;exact h
theorem divN(a:Nat):(a:Int) / 4294967296=((a / 4294967296:Nat):Int):=by omega
theorem mulN(a b:Nat):(a:Int)*(b:Int)=((a*b:Nat):Int):=(Int.natCast_mul a b).symm
theorem addN(a b:Nat):(a:Int)+(b:Int)=((a+b:Nat):Int):=(Int.natCast_add a b).symm
theorem wrapN(a:Nat)(ha:a<18446744073709551616):IntKind.u64.wrap (a:Int)=(a:Int):=by rw[IntKind.wrap_u64];omega
theorem wrapM(a:Nat):IntKind.u64.wrap (a:Int)=((a % 18446744073709551616:Nat):Int):=by rw[IntKind.wrap_u64];omega
end Mul64
theorem Zi6(x y:Nat)(hx:x<18446744073709551616)(hy:y<18446744073709551616)(w:World) :
  Calls prog 259 #[.int .u64 x,.int .u64 y] w fun e w'=>e=.returned (.tuple #[.int .u64 ((x*y / 18446744073709551616:Nat):Int),.int .u64 ((x*y % 18446744073709551616:Nat):Int)])∧w=w':=by
 obtain⟨bd,bt,bw,hhi⟩:=Lib.mul64_hi x y hx hy;have ba:=Lib.half_mul_le (a:=x / 4294967296) (b:=y / 4294967296) (by omega) (by omega);have bb:=Lib.half_mul_le (a:=x / 4294967296) (b:=y % 4294967296) (by omega) (by omega);have bc:=Lib.half_mul_le (a:=x % 4294967296) (b:=y / 4294967296) (by omega) (by omega);have ba':x / 4294967296*(y / 4294967296)<18446744073709551616:=by omega
 have bb':x / 4294967296*(y % 4294967296)<18446744073709551616:=by omega
 have bc':x % 4294967296*(y / 4294967296)<18446744073709551616:=by omega
 have bh1:x / 4294967296*(y / 4294967296)+(x / 4294967296*(y % 4294967296)+x % 4294967296*(y % 4294967296) / 4294967296) / 4294967296<18446744073709551616:=by omega
 have bh:x / 4294967296*(y / 4294967296)+(x / 4294967296*(y % 4294967296)+x % 4294967296*(y % 4294967296) / 4294967296) / 4294967296+((x / 4294967296*(y % 4294967296)+x % 4294967296*(y % 4294967296) / 4294967296) % 4294967296+x % 4294967296*(y / 4294967296)) / 4294967296<18446744073709551616:=by omega
 go_enter func259,ntmps259
 go_wp2
 simp only[Mul64.maskN x hx,Mul64.maskN y hy,Mul64.divN,Mul64.mulN,Mul64.addN,Mul64.wrapN _ bd,Mul64.wrapN _ bb',Mul64.wrapN _ bt,Mul64.maskN _ bt,Mul64.wrapN _ bc',Mul64.wrapN _ bw,Mul64.wrapN _ ba',Mul64.wrapN _ bh1,Mul64.wrapN _ bh,Mul64.wrapM (x*y)];rw[hhi];go_ret2;exact⟨rfl,rfl⟩
theorem Hm(x y:Nat)(p:Nat)(hp:x*y=p)(hp64:p<18446744073709551616)(hx:x<18446744073709551616)(hy:y<18446744073709551616)(w:World) :
  Calls prog 259 #[.int .u64 x,.int .u64 y] w fun e w'=>e=.returned (.tuple #[.int .u64 0,.int .u64 p])∧w=w':=
 (Zi6 x y hx hy w).mono fun _ _ ⟨e,h⟩=>⟨by
  rw[e,hp,Nat.div_eq_of_lt hp64,Nat.mod_eq_of_lt hp64];rfl,h⟩
theorem Zna(x y:Nat)(p:Nat)(hp:x*y=p)(hp64:p<18446744073709551616)(hx:x<18446744073709551616)(hy:y<18446744073709551616)(w:World) :
  Calls prog 218 #[.int .u64 x,.int .u64 y] w fun e w'=>e=.returned (.tuple #[.int .u64 0,.int .u64 p])∧w=w':=by
 have H:=Za (Hm x y p hp hp64 hx hy);clear hp;go_enter func218,ntmps218;go_wp2_with fail;refine(H.out _).zz ?_;go_wp2;go_ret2;exact⟨rfl,rfl⟩
theorem Zf7{a:Int}(h:0≤a∧a<4611686018427387904){w:World}:Calls prog 378 #[.int .i64 a] w fun e w'=>e=.returned (.int .i64 a)∧w=w':=by
 obtain⟨h0,h1⟩:=h;have t1:(if 0<a then a else 0)=a:=by split<;>omega
 have t2:(if a<0 then 0 else a)=a:=by split<;>omega
 have t3:(if a<4611686018427387904 then a else 4611686018427387904)=a:=by split<;>omega
 have t4:(if 4611686018427387904<a then 4611686018427387904 else a)=a:=by split<;>omega
 go_enter func378,ntmps378;go_wp2;go_ret;exact⟨rfl,rfl⟩
theorem Bj{a b s:Int}(ha:0≤a∧a<1125899906842624)(hb:0≤b∧b<1125899906842624)(hs:a+b=s){w:World}:Calls prog 359 #[.int .i64 a,.int .i64 b] w fun e w'=>e=.returned (.int .i64 s)∧w=w':=by
 obtain⟨a0,a1⟩:=ha;obtain⟨b0,b1⟩:=hb;have CL:=Za (fun w=>Zf7 (a:=a+b) ⟨by omega,by omega⟩ (w:=w));have t1:decide (a<0)=false:=Zyx (by omega);have t2:decide (b<0)=false:=Zyx (by omega);have t3:decide (a+b<0)=false:=Zyx (by omega);subst hs;go_enter func359,ntmps359;go_wp2_with fail
 all_goals
  refine(CL.out _).zz ?_;go_wp2;go_ret;exact⟨rfl,rfl⟩
theorem Zul{a b s:Int}(ha:0≤a∧a<1125899906842624)(hb:0≤b∧b<1125899906842624)(hs:(if a≤b then 0 else a-b)=s){w:World}:Calls prog 361 #[.int .i64 a,.int .i64 b] w fun e w'=>e=.returned (.int .i64 s)∧w=w':=by
 obtain⟨a0,a1⟩:=ha;obtain⟨b0,b1⟩:=hb;by_cases h:a≤b
 ·rw[if_pos h] at hs;subst hs;go_enter func361,ntmps361;go_wp2;go_ret;exact⟨rfl,rfl⟩
 ·rw[if_neg h] at hs;subst hs;have CL:=Za (fun w=>Zf7 (a:=a-b) ⟨by omega,by omega⟩ (w:=w));have t3:decide (a-b<0)=false:=Zyx (by omega);have t4:decide (a≤b)=false:=Zyx h;go_enter func361,ntmps361;go_wp2_with fail;refine(CL.out _).zz ?_;go_wp2;go_ret;exact⟨rfl,rfl⟩
theorem Oj{a:Int}(h:0≤a)(h1:a<1125899906842624){w:World}:Calls prog 390 #[.int .i64 a] w fun e w'=>e=.returned (.tuple #[.int .u64 a,false])∧w=w':=by
 have t3:decide (a<0)=false:=Zyx (by omega);go_enter func390,ntmps390;go_wp2;go_ret2;exact⟨rfl,rfl⟩
theorem Zea:Zi prog 380:=Zi.mk func380 (by kernel_rfl) rfl
theorem Zrc{p:Int}{w:World}:Calls prog 380 #[.int .u64 0,.int .u64 p] w fun e w'=>e=.returned (.int .u64 p)∧w=w':=by
 go_enter func380,ntmps380;go_wp2;go_ret;exact⟨rfl,rfl⟩
theorem Zeb{a b:Nat}{s:Int}(ha:a<1048577)(hb:b<1048577)(hs:(a:Int)*b=s){w:World}:Calls prog 379 #[.int .i64 a,.int .i64 b,.func (.func 380) #[] #[]] w fun e w'=>e=.returned (.int .i64 s)∧w=w':=by
 have hk:=Zea;unfold Zi at hk;by_cases ha0:a=0
 ·subst ha0;have e:s=0:=by omega
  subst e;have b0:(0:Int)≤(b:Int):=Int.natCast_nonneg _;go_enter func379,ntmps379;go_wp2_with fail;refine(Oj (a:=0) (by omega) (by omega)).zz ?_;go_wp2_with fail;refine(Oj (a:=(b:Int)) (by omega) (by omega)).zz ?_;go_wp2;go_ret;exact⟨rfl,rfl⟩
 ·by_cases hb0:b=0
  ·subst hb0;have e:s=0:=by omega
   subst e;have t1:((a:Int)==0)=false:=by simp;omega
   go_enter func379,ntmps379;go_wp2_with fail;refine(Oj (a:=(a:Int)) (by omega) (by omega)).zz ?_;go_wp2_with fail;refine(Oj (a:=((0:Nat):Int)) (by omega) (by omega)).zz ?_;go_wp2;go_ret;exact⟨rfl,rfl⟩
  ·have t1:((a:Int)==0)=false:=by simp;omega
   have t2:((b:Int)==0)=false:=by simp;omega
   obtain⟨p,hp⟩:=Zb (a*b);have hpb:p≤1048576*1048576:=by rw[←hp];exact Nat.mul_le_mul (by omega) (by omega)
   have MU:=Za (fun w=>Hm a b p hp (by omega) (by omega) (by omega) w);have e:s=(p:Int):=by rw[←hs,←hp];exact(Int.natCast_mul a b).symm
   subst e;have t3:(if (p:Int)<4611686018427387904 then (p:Int) else 4611686018427387904)=p:=by split<;>omega
   have t4:(if (4611686018427387904:Int)<(p:Int) then 4611686018427387904 else (p:Int))=p:=by split<;>omega
   clear hs hp;go_enter func379,ntmps379;go_wp2_with fail;refine(Oj (a:=(a:Int)) (by omega) (by omega)).zz ?_;go_wp2_with fail;refine(Oj (a:=(b:Int)) (by omega) (by omega)).zz ?_;go_wp2_with fail;refine(MU.out _).zz ?_;go_wp2_with fail;refine(Zrc).zz ?_;go_wp2;go_ret;exact⟨rfl,rfl⟩
theorem Zum{a b s:Int}(ha:0≤a∧a<1048577)(hb:0≤b∧b<1048577)(hs:a*b=s){w:World}:Calls prog 360 #[.int .i64 a,.int .i64 b] w fun e w'=>e=.returned (.int .i64 s)∧w=w':=by
 obtain⟨a,rfl⟩:=Int.eq_ofNat_of_zero_le ha.1;obtain⟨b,rfl⟩:=Int.eq_ofNat_of_zero_le hb.1;have PR:=Za (fun w=>Zeb (a:=a) (b:=b) (s:=s) (by omega) (by omega) hs (w:=w));clear hs ha hb;go_enter func360,ntmps360;go_wp2_with fail;refine(PR.out _).zz ?_;go_wp2;go_ret;exact⟨rfl,rfl⟩
end
end Go.Proofs.YtfcldaembdedjaaGreatDoor
