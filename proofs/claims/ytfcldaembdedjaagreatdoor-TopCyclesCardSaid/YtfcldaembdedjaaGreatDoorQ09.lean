/-
  Parts of the proof of TopCycles: Mk6, MkF, Mk7, Cyc, Swp2.
-/
import Derived.Test.YtfcldaembdedjaaGreatDoorQ08
import Derived.RangeFuncWrites
set_option linter.unusedVariables false
set_option linter.unusedSimpArgs false
set_option maxRecDepth 100000
set_option maxHeartbeats 16000000
namespace Go.Proofs.YtfcldaembdedjaaGreatDoor
open Go.RowKit Tryz
section
variable{w w':World}{B:CB}{c:Zh}{t n:Nat}{gens:Int}{ws:List Int}{l:List Ent}{ms:List Int}{m m':MK}
theorem Zf0{k:Nat}{i:Int}(ho:KOk c)(ht:t<c.ts.length)(h:MOk c t n l m)(hr:(mDo c t n ws l ms m k i).2=false):(mDo c t n ws l ms m k i).1=m:=by
 unfold mDo at hr ⊢;split
 ·rename_i e;rw[if_pos e] at hr;unfold Lr at hr ⊢;split at hr
  ·rename_i q;rw[if_pos q]
  ·cases hr
 ·rename_i e;rw[if_neg e] at hr;split
  ·rename_i e2;rw[if_pos e2] at hr;split at hr
   ·cases hr
   ·rename_i q;rw[if_neg q]
  ·rename_i e2;rw[if_neg e2] at hr;split
   ·rfl
   ·rename_i e3;rw[if_neg e3] at hr;split
    ·rename_i e4;rw[if_pos e4] at hr;unfold Ls at hr ⊢;split at hr
     ·cases hr
     ·rename_i q;rw[if_neg q]
    ·rename_i e4;rw[if_neg e4] at hr;have f:=Cm ho ht h.g h.d;have s:=f.same hr;unfold Ky;simp only[s.1,s.2];rfl
theorem Mn{ws:List Int}{l:List Ent}{ms:List Int}(m:MK)(k:Nat)(i:Int):(mDo c t n ws l ms m k i).1.steps=m.steps:=by
 unfold mDo;split
 ·unfold Lr;split
  ·rfl
  ·simp only;split
   ·exact(Wx m _).2.2.2.1
   ·rfl
 ·split
  ·split
   ·unfold St;have h:=(Pg (c:=c) (t:=t) (n:=n) (ws:=ws) m (Zq m.hs k)).2.2.2.1;split
    ·have:(Yf c t (Xx c t n ws m (Zq m.hs k)) (Zq m.hs k).slot).steps=(Xx c t n ws m (Zq m.hs k)).steps:=by unfold Yf;split<;>rfl
     simp only[this];exact h
    ·exact h
   ·rfl
  ·split
   ·rfl
   ·split
    ·unfold Ls;split<;>rfl
    ·rfl
def K7(r:Bool)(m1 m:MK):MK:=if r=true then { m1 with steps:=m.steps+1 } else m
theorem Ye.stepEnd{m1:MK}(h:Ye w B c t n gens ws l ms m1)(hs:m1.steps=m.steps)(h1:m.steps+1<1099511627776):Ye (w.setCell ⟨B.kb,9,none⟩ (.int .i64 ((m.steps:Int)+1))) B c t n gens ws l ms (K7 true m1 m)∧Chg B.mkP w (w.setCell ⟨B.kb,9,none⟩ (.int .i64 ((m.steps:Int)+1))):=by
 unfold K7;rw[if_pos rfl];exact h.boxSet (i:=9) (v:=.int .i64 ((m.steps:Int)+1)) (r:=m1.root) (a:=m1.act) (s:=m.steps+1) (by decide) rfl h.ok.rt h1
theorem Zbe{k i:Int}(h:Ye w B c t n gens ws l ms m)(hn:¬(m.act=true∧0≤k∧k<(m.hs.length:Int)∧1≤i∧i≤4)):Calls prog 226 #[B.kb,.int .i64 k,.int .u8 i] w fun e w'=>e=.returned (.bool false)∧w=w':=by
 have c6:=h.box.c 6 _ rfl;have hl:=h.hl;obtain⟨a,ha⟩:=Zb (m.act);have AC:=Za (X8 h ha);obtain⟨L,hL⟩:=Zb (m.hs.length);change w.cell? ⟨B.kb,6,none⟩=some (.slice (some ⟨B.hd,0,none⟩) m.hs.length B.hcap) at c6;rw[hL] at hn c6;rw[ha] at hn;clear h ha hL hl;cases a
 ·clear hn;go_enter func226,ntmps226;go_wp2_with fail;refine(AC.out).zz ?_;go_wp2;go_ret;exact⟨rfl,rfl⟩
 ·by_cases h0:k<0
  ·clear hn;go_enter func226,ntmps226;go_wp2_with fail;refine(AC.out).zz ?_;go_wp2;go_ret;exact⟨rfl,rfl⟩
  ·have t0:decide (k<0)=false:=Zyx h0;by_cases h1:(L:Int)≤k
   ·clear hn h0;go_enter func226,ntmps226;go_wp2_with fail;refine(AC.out).zz ?_;go_wp2;go_ret;exact⟨rfl,rfl⟩
   ·have t1:decide ((L:Int)≤k)=false:=Zyx h1;by_cases h2:i<1
    ·clear hn h0 h1;go_enter func226,ntmps226;go_wp2_with fail;refine(AC.out).zz ?_;go_wp2;go_ret;exact⟨rfl,rfl⟩
    ·have t2:decide (i<1)=false:=Zyx h2;have h3:4<i:=by
      have a1:0≤k:=by omega
      have a2:k<(L:Int):=by omega
      have a3:1≤i:=by omega
      exact Int.not_le.1 (fun q=>hn ⟨rfl,a1,a2,a3,q⟩)
     clear hn h0 h1 h2;go_enter func226,ntmps226;go_wp2_with fail;refine(AC.out).zz ?_;go_wp2;go_ret;exact⟨rfl,rfl⟩
theorem Ziu{k:Nat}{m1:MK}{r:Bool}(h:Ye w B c t n gens ws l ms m)(ha:m.act=true)(hk:k<m.hs.length)(hn:mDo c t n ws l ms m k 1=(m1,r))(hs:m.steps+1<1099511627776):Calls prog 226 #[B.kb,.int .i64 k,.int .u8 1] w fun e w'=>e=.returned (.bool r)∧Ye w' B c t n gens ws l ms (K7 r m1 m)∧Chg B.mkP w w':=by
 have H:=Za h;have c6:w.cell? ⟨B.kb,6,none⟩=some (.slice (some ⟨B.hd,0,none⟩) m.hs.length B.hcap):=h.box.c 6 _ rfl;obtain⟨hl1,hl2,hl3,hl4⟩:=h.hl;have AC:=Za (X8 h ha);have k0:(0:Int)≤(k:Int):=Int.natCast_nonneg _;have k1:(k:Int)<(m.hs.length:Int):=by omega
 have kc:k<B.hcap:=by omega
 have ci:=h.hands.is k hk;obtain⟨A,hA⟩:=Zb (w.alloc (.cells #[false,false,.nilFunc] 360));obtain⟨zb,hzb⟩:∃z,w.heap.size=z:=⟨_,rfl⟩;have xA:Ext w A:=by rw[←hA];exact(Zy2 _).alloc _
 have bA:Zn A zb [false,false,.nilFunc]:=by rw[←hA];exact Zn.new w _ _ hzb
 have c6A:=xA.cell c6;obtain⟨p0,p1,p2⟩:=bA.k3;obtain⟨q0,q1,q2⟩:=bA.g3;have MC:=Uk (w:=w.drew);unfold Zti at MC;have MI1:=Za (MC.mono (R':=fun e w'=>e=.returned (.agg #[false,false,.nilFunc,false,true,.func (.func 304) #[] #[],false,false,.func (.func 305) #[] #[],true,false,.func (.func 308) #[] #[],false,false,.func (.func 309) #[] #[]])∧Ext w w'∧w'.cell? ⟨B.kb,6,none⟩=some (.slice (some ⟨B.hd,0,none⟩) m.hs.length B.hcap)∧∀o,(w'.alloc o).cell? ⟨B.kb,6,none⟩=some (.slice (some ⟨B.hd,0,none⟩) m.hs.length B.hcap)) fun e w' ⟨p,x⟩=>⟨p,(Zy2 w).drew.trans x,((Zy2 w).drew.trans x).cell c6,fun o=>(((Zy2 w).drew.trans x).alloc o).cell c6⟩);have MC2:=Uk (w:=A.drew);unfold Zti at MC2;have MI2:Hid (Calls prog 266 #[] A.drew fun e w'=>e=.returned (.agg #[false,false,.nilFunc,false,true,.func (.func 304) #[] #[],false,false,.func (.func 305) #[] #[],true,false,.func (.func 308) #[] #[],false,false,.func (.func 309) #[] #[]])∧Ext w w'∧Zn w' zb [false,false,.nilFunc]∧(w'.cell? ⟨B.kb,6,none⟩=some (.slice (some ⟨B.hd,0,none⟩) m.hs.length B.hcap)∧w'.cell? zb=some (.bool false)∧w'.cell? ⟨zb,1,none⟩=some (.bool false)∧w'.cell? ⟨zb,2,none⟩=some .nilFunc)∧(w'.frozen? zb=false∧w'.frozen? ⟨zb,1,none⟩=false∧w'.frozen? ⟨zb,2,none⟩=false)):=
  Za (MC2.mono fun e w' ⟨p,x⟩=>by
   have bx:=bA.ext ((Zy2 _).drew.trans x);exact⟨p,xA.drew.trans x,bx,⟨(xA.drew.trans x).cell c6,bx.c 0 _ rfl,bx.c 1 _ rfl,bx.c 2 _ rfl⟩,bx.f 0,bx.f 1,bx.f 2⟩)
 have sf:=fun p w=>run_store prog w p (.func (.func 304) #[] #[]) .plain rfl
 have DN:=Za (fun e=>by have:=Zf0 (k:=k) (i:=1) (ws:=ws) (ms:=ms) h.ko h.ti h.ok;rw[hn] at this;exact this e);have EQ:=Ztf (c:=c) (t:=t) (n:=n) (ws:=ws) (l:=l) (ms:=ms) m k 1;have ok1:r=true→m1.root≤Xy c t l:=fun e=>by have:=(Zte (k:=k) (i:=1) (ws:=ws) (ms:=ms) h.ko h.ti h.ok hk (by rw[hn];exact e)).1.rt;rw[hn] at this;exact this
 have ST:=Mn (c:=c) (t:=t) (n:=n) (ws:=ws) (l:=l) (ms:=ms) m k 1;rw[hn] at EQ ST;have ST:=Za ST;have HS:=Za hs;have hd:_=(m1,r):=hn;unfold mDo at hd;rw[if_pos rfl] at hd;have EQ:=Za EQ;have OK1:=Za ok1;have DO:Hid (∀W,Ext w W→Calls prog 304 #[B.kb,.pointer (some ⟨B.hd,k*3,none⟩)] W fun e w'=>e=.returned (.bool r)∧Ye w' B c t n gens ws l ms m1∧Chg B.mkP W w'):=Za (fun W x=>Zmw (h.ext x) hd);have hen:Zi prog 304:=Zi.mk func304 (by kernel_rfl) rfl;unfold Zi at hen;have hix:∀w,(Instr.index 361 (.agg #[false,false,.nilFunc,false,true,.func (.func 304) #[] #[],false,false,.func (.func 305) #[] #[],true,false,.func (.func 308) #[] #[],false,false,.func (.func 309) #[] #[]]) (.int .u8 1)).run prog w=.ok (.agg #[false,true,.func (.func 304) #[] #[]]) w:=fun w=>by kernel_rfl
 generalize (Zq m.hs k).is=isv at ci
 clear h ha hk MC MC2;go_enter func226,ntmps226;go_wp2_with fail;refine AC.out.zz ?_;go_wp2_with fail
 go_cut [7,8] from 9 to 68 (fun s7 s8 wx=>s7=.pointer (some ⟨B.hd,k*3,none⟩)∧∃z,s8=.pointer (some ⟨z,0,none⟩)∧Hid (Ext w wx∧Zn wx z [false,true,.func (.func 304) #[] #[]]∧w.heap.size≤z))
 case first=>
  go_region_with (go_at_call 266;first|(with_reducible refine MI1.out.mono ?_;rintro e w1 ⟨rfl,x1,c6w,c6x⟩)|(with_reducible refine MI2.out.mono ?_;rintro e w1 ⟨rfl,x1,bx,⟨c6w,d0,d1,d2⟩,g0,g1,g2⟩))
  all_goals
   go_wp2
   go_meet
   first
    | exact⟨rfl,_,rfl,Za ⟨x1.alloc _,Zn.new w1 _ _ rfl,x1.size⟩⟩
    | exact⟨rfl,_,rfl,Za ⟨((x1.setCell (p:=⟨zb,0,none⟩) (by show w.heap.size≤zb;omega) _).setCell (p:=⟨zb,1,none⟩) (by show w.heap.size≤zb;omega) _).setCell (p:=⟨zb,2,none⟩) (by show w.heap.size≤zb;omega) _,bx.set3 _ _ _,by omega⟩⟩
 case rest=>
  obtain⟨rfl,z,rfl,HC⟩:=hcut;clear hA hzb c6A p0 p1 p2 q0 q1 q2 MI1 MI2 sf;have ci:=HC.out.1.cell ci;obtain⟨z0,z1,z2⟩:=HC.out.2.1.k3;clear hix;go_wp2_with fail;have NZ:Hid (∀W,Chg B.mkP wc W→W.cell? ⟨z,0,none⟩=some (.bool false)∧W.cell? ⟨z,1,none⟩=some (.bool true)∧W.cell? ⟨z,2,none⟩=some (.func (.func 304) #[] #[])):=Za (fun W x=>by
   have nz:¬B.mkP z:=fun q=>by unfold CB.mkP at q;have:=H.out.top;have:=HC.out.2.2;omega
   exact⟨x.cell nz (HC.out.2.1.c 0 _ rfl),x.cell nz (HC.out.2.1.c 1 _ rfl),x.cell nz (HC.out.2.1.c 2 _ rfl)⟩)
  refine wp_region_held_drew (S:=(fun w'=>w'.cell? ⟨z,0,none⟩=some (.bool false)∧w'.cell? ⟨z,1,none⟩=some (.bool true)∧w'.cell? ⟨z,2,none⟩=some (.func (.func 304) #[] #[]))) (by kernel_rfl) ?_ (fun hHeld=>?_)
  focus ((try dsimp only);go_keep)
  refine Zyv 0 (v:=?_) ?_ ?_;rotate_left
  focus (intro w hSw;(try dsimp only at hSw);go_simp;try with_reducible rfl)
  try simp only[Zyt]
  refine Zyv 1 (v:=?_) ?_ ?_;rotate_left
  focus (intro w hSw;(try dsimp only at hSw);go_simp;try with_reducible rfl)
  try simp only[Zyt]
  refine Zyv 2 (v:=?_) ?_ ?_;rotate_left
  focus (intro w hSw;(try dsimp only at hSw);go_simp;try with_reducible rfl)
  try simp only[Zyt]
  refine Zyv 3 (v:=?_) ?_ ?_;rotate_left
  focus (intro w hSw;(try dsimp only at hSw);go_simp;try with_reducible rfl)
  try simp only[Zyt]
  refine Zyw 4 ?_
  try simp only[Zyt]
  refine Zyw 5 ?_
  try simp only[Zyt]
  refine Zyw 6 ?_
  try simp only[Zyt]
  refine Zyw 7 ?_
  try simp only[Zyt]
  refine Zyw 8 ?_
  try simp only[Zyt]
  refine Zyw 9 ?_
  try simp only[Zyt]
  refine Zyw 10 ?_
  try simp only[Zyt]
  refine Zyv 11 (v:=?_) ?_ ?_;rotate_left
  focus (intro w hSw;(try dsimp only at hSw);go_simp;try with_reducible rfl)
  try simp only[Zyt]
  refine Zyv 12 (v:=?_) ?_ ?_;rotate_left
  focus (intro w hSw;(try dsimp only at hSw);go_simp;try with_reducible rfl)
  try simp only[Zyt]
  refine Zyv 13 (v:=?_) ?_ ?_;rotate_left
  focus (intro w hSw;(try dsimp only at hSw);go_simp;try with_reducible rfl)
  try simp only[Zyt]
  refine Zyv 14 (v:=?_) ?_ ?_;rotate_left
  focus (intro w hSw;(try dsimp only at hSw);go_simp;try with_reducible rfl)
  try simp only[Zyt]
  refine Zyv 15 (v:=?_) ?_ ?_;rotate_left
  focus (intro w hSw;(try dsimp only at hSw);go_simp;try with_reducible rfl)
  try simp only[Zyt]
  refine Zyv 16 (v:=?_) ?_ ?_;rotate_left
  focus (intro w hSw;(try dsimp only at hSw);go_simp;try with_reducible rfl)
  try simp only[Zyt]
  refine wpAnyH_ready (rs:=[17]) (by kernel_rfl) (by simp) ?_;refine AllReadyH.cons (i:=17) rfl (fun K hK=>?_) AllReadyH.nil;go_simp
  go_at_call 304
  with_reducible refine(DO.out _ ?_).mono ?_
  focus (repeat (first|with_reducible exact HC.out.1|with_reducible refine Ext.drew ?_|with_reducible refine Ext.drewN ?_ _))
  rintro e w5 ⟨rfl,h5,x5⟩;have FN:=Za (And.intro h5 ((Zy3 (P:=B.mkP) (Zy2 wc).drew).trans x5));have CX:=Za ((Zy3 (P:=B.mkP) (Zy2 wc).drew).trans x5);clear h5 x5;refine hK.out _ _ ?_ (fun hHeld=>?_)
  focus ((try dsimp only);exact NZ.out _ CX.out)
  clear hK K
  try simp only[Zyt]
  refine Zyv 18 (v:=?_) ?_ ?_;rotate_left
  focus (intro w hSw;(try dsimp only at hSw);go_simp;try with_reducible rfl)
  try simp only[Zyt]
  refine Zyv 19 (v:=?_) ?_ ?_;rotate_left
  focus (intro w hSw;(try dsimp only at hSw);go_simp;try with_reducible rfl)
  try simp only[Zyt]
  refine wpAnyH_done (by kernel_rfl) ?_ _
  all_goals
   have FA:=FN.out.1;have c9:w5.cell? ⟨B.kb,9,none⟩=some (.int .i64 (m.steps:Int)):=by have:=FA.box.c 9 _ rfl;rw[ST.out] at this;exact this
   have f9:=FA.box.f 9;have hs9:m.steps+1<1099511627776:=HS.out;have X5:=Za ((Zy3 (P:=B.mkP) HC.out.1).trans FN.out.2);cases r
   ·have D:=DN.out rfl;go_wp2;go_ret;refine⟨rfl,?_,X5.out⟩;unfold K7;rw[if_neg (by decide)];rw[D] at FA;exact FA
   ·go_wp2;go_ret;have en:=FA.stepEnd (m:=m) ST.out HS.out;exact⟨rfl,en.1,X5.out.trans en.2⟩
theorem Ly{k fk:Nat}{iv:Int}{full:Bool}{m1:MK}{r:Bool}(h:Ye w B c t n gens ws l ms m)(ha:m.act=true)(hk:k<m.hs.length)(hi:(Zq m.hs k).is=full)(hiv:1≤iv∧iv≤4)
  (hix:∀w,(Instr.index 361 (.agg #[false,false,.nilFunc,false,true,.func (.func 304) #[] #[],false,false,.func (.func 305) #[] #[],true,false,.func (.func 308) #[] #[],false,false,.func (.func 309) #[] #[]]) (.int .u8 iv)).run prog w=.ok (.agg #[full,false,.func (.func fk) #[] #[]]) w)
  (hs:m.steps+1<1099511627776) (ST0:m1.steps=m.steps) (DN0:r=false→m1=m) (hen:Zi prog fk)
  (DO0:∀W,Ext w W→Calls prog fk #[B.kb,.pointer (some ⟨B.hd,k*3,none⟩)] W fun e w'=>e=.returned (.bool r)∧Ye w' B c t n gens ws l ms m1∧Chg B.mkP W w'):Calls prog 226 #[B.kb,.int .i64 k,.int .u8 iv] w fun e w'=>e=.returned (.bool r)∧Ye w' B c t n gens ws l ms (K7 r m1 m)∧Chg B.mkP w w':=by
 have H:=Za h;have c6:w.cell? ⟨B.kb,6,none⟩=some (.slice (some ⟨B.hd,0,none⟩) m.hs.length B.hcap):=h.box.c 6 _ rfl;obtain⟨hl1,hl2,hl3,hl4⟩:=h.hl;have AC:=Za (X8 h ha);have k0:(0:Int)≤(k:Int):=Int.natCast_nonneg _;have k1:(k:Int)<(m.hs.length:Int):=by omega
 have kc:k<B.hcap:=by omega
 have ci:=h.hands.is k hk;obtain⟨A,hA⟩:=Zb (w.alloc (.cells #[false,false,.nilFunc] 360));obtain⟨zb,hzb⟩:∃z,w.heap.size=z:=⟨_,rfl⟩;have xA:Ext w A:=by rw[←hA];exact(Zy2 _).alloc _
 have bA:Zn A zb [false,false,.nilFunc]:=by rw[←hA];exact Zn.new w _ _ hzb
 have c6A:=xA.cell c6;obtain⟨p0,p1,p2⟩:=bA.k3;obtain⟨q0,q1,q2⟩:=bA.g3;have MC:=Uk (w:=w.drew);unfold Zti at MC;have MI1:=Za (MC.mono (R':=fun e w'=>e=.returned (.agg #[false,false,.nilFunc,false,true,.func (.func 304) #[] #[],false,false,.func (.func 305) #[] #[],true,false,.func (.func 308) #[] #[],false,false,.func (.func 309) #[] #[]])∧Ext w w'∧w'.cell? ⟨B.kb,6,none⟩=some (.slice (some ⟨B.hd,0,none⟩) m.hs.length B.hcap)∧∀o,(w'.alloc o).cell? ⟨B.kb,6,none⟩=some (.slice (some ⟨B.hd,0,none⟩) m.hs.length B.hcap)) fun e w' ⟨p,x⟩=>⟨p,(Zy2 w).drew.trans x,((Zy2 w).drew.trans x).cell c6,fun o=>(((Zy2 w).drew.trans x).alloc o).cell c6⟩);have MC2:=Uk (w:=A.drew);unfold Zti at MC2;have MI2:Hid (Calls prog 266 #[] A.drew fun e w'=>e=.returned (.agg #[false,false,.nilFunc,false,true,.func (.func 304) #[] #[],false,false,.func (.func 305) #[] #[],true,false,.func (.func 308) #[] #[],false,false,.func (.func 309) #[] #[]])∧Ext w w'∧Zn w' zb [false,false,.nilFunc]∧(w'.cell? ⟨B.kb,6,none⟩=some (.slice (some ⟨B.hd,0,none⟩) m.hs.length B.hcap)∧w'.cell? zb=some (.bool false)∧w'.cell? ⟨zb,1,none⟩=some (.bool false)∧w'.cell? ⟨zb,2,none⟩=some .nilFunc)∧(w'.frozen? zb=false∧w'.frozen? ⟨zb,1,none⟩=false∧w'.frozen? ⟨zb,2,none⟩=false)):=
  Za (MC2.mono fun e w' ⟨p,x⟩=>by
   have bx:=bA.ext ((Zy2 _).drew.trans x);exact⟨p,xA.drew.trans x,bx,⟨(xA.drew.trans x).cell c6,bx.c 0 _ rfl,bx.c 1 _ rfl,bx.c 2 _ rfl⟩,bx.f 0,bx.f 1,bx.f 2⟩)
 have sf:=fun p w=>run_store prog w p (.func (.func fk) #[] #[]) .plain rfl
 have DN:=Za DN0;have ST:=Za ST0;have HS:=Za hs;have DO:=Za DO0;clear DN0 ST0 hs DO0;unfold Zi at hen;have v1:decide (iv<1)=false:=Zyx (by omega);have v4:decide (4<iv)=false:=Zyx (by omega);have v0:0≤iv:=by omega
 have v5:iv<5:=by omega
 clear hiv;rw[hi] at ci;clear h ha hk MC MC2;go_enter func226,ntmps226;go_wp2_with fail;refine AC.out.zz ?_;go_wp2_with fail
 go_cut [7,8] from 9 to 68 (fun s7 s8 wx=>s7=.pointer (some ⟨B.hd,k*3,none⟩)∧∃z,s8=.pointer (some ⟨z,0,none⟩)∧Hid (Ext w wx∧Zn wx z [full,false,.func (.func fk) #[] #[]]∧w.heap.size≤z))
 case first=>
  go_region_with (go_at_call 266;first|(with_reducible refine MI1.out.mono ?_;rintro e w1 ⟨rfl,x1,c6w,c6x⟩)|(with_reducible refine MI2.out.mono ?_;rintro e w1 ⟨rfl,x1,bx,⟨c6w,d0,d1,d2⟩,g0,g1,g2⟩))
  all_goals
   go_wp2
   go_meet
   first
    | exact⟨rfl,_,rfl,Za ⟨x1.alloc _,Zn.new w1 _ _ rfl,x1.size⟩⟩
    | exact⟨rfl,_,rfl,Za ⟨((x1.setCell (p:=⟨zb,0,none⟩) (by show w.heap.size≤zb;omega) _).setCell (p:=⟨zb,1,none⟩) (by show w.heap.size≤zb;omega) _).setCell (p:=⟨zb,2,none⟩) (by show w.heap.size≤zb;omega) _,bx.set3 _ _ _,by omega⟩⟩
 case rest=>
  obtain⟨rfl,z,rfl,HC⟩:=hcut;clear hA hzb c6A p0 p1 p2 q0 q1 q2 MI1 MI2 sf;have ci:=HC.out.1.cell ci;obtain⟨z0,z1,z2⟩:=HC.out.2.1.k3;have NZ:Hid (∀W,Chg B.mkP wc W→W.cell? ⟨z,0,none⟩=some (.bool full)∧W.cell? ⟨z,1,none⟩=some (.bool false)∧W.cell? ⟨z,2,none⟩=some (.func (.func fk) #[] #[])):=Za (fun W x=>by
   have nz:¬B.mkP z:=fun q=>by unfold CB.mkP at q;have:=H.out.top;have:=HC.out.2.2;omega
   exact⟨x.cell nz (HC.out.2.1.c 0 _ rfl),x.cell nz (HC.out.2.1.c 1 _ rfl),x.cell nz (HC.out.2.1.c 2 _ rfl)⟩)
  clear hix;cases full
  all_goals
   go_wp2_with fail
   go_region_with (with_reducible refine(DO.out _ ?_).mono ?_;(focus (repeat (first|with_reducible exact HC.out.1|with_reducible refine Ext.drew ?_|with_reducible refine Ext.drewN ?_ _)));rintro e w5 ⟨rfl,h5,x5⟩;have FN:=Za (And.intro h5 ((Zy3 (P:=B.mkP) ((Zy2 wc).drew)).trans x5));clear h5 x5)
   all_goals
    have FA:=FN.out.1;have c9:w5.cell? ⟨B.kb,9,none⟩=some (.int .i64 (m.steps:Int)):=by have:=FA.box.c 9 _ rfl;rw[ST.out] at this;exact this
    have f9:=FA.box.f 9;have hs9:m.steps+1<1099511627776:=HS.out;have X5:=Za ((Zy3 (P:=B.mkP) HC.out.1).trans FN.out.2);cases r
    ·have D:=DN.out rfl;go_wp2;go_ret;refine⟨rfl,?_,X5.out⟩;unfold K7;rw[if_neg (by decide)];rw[D] at FA;exact FA
    ·go_wp2;go_ret;have en:=FA.stepEnd (m:=m) ST.out HS.out;exact⟨rfl,en.1,X5.out.trans en.2⟩
theorem Lz{k fk:Nat}{iv:Int}{full:Bool}(h:Ye w B c t n gens ws l ms m)(ha:m.act=true)(hk:k<m.hs.length)(hi:(Zq m.hs k).is=!full)(hiv:1≤iv∧iv≤4)
  (hix:∀w,(Instr.index 361 (.agg #[false,false,.nilFunc,false,true,.func (.func 304) #[] #[],false,false,.func (.func 305) #[] #[],true,false,.func (.func 308) #[] #[],false,false,.func (.func 309) #[] #[]]) (.int .u8 iv)).run prog w=.ok (.agg #[full,false,.func (.func fk) #[] #[]]) w):Calls prog 226 #[B.kb,.int .i64 k,.int .u8 iv] w fun e w'=>e=.returned (.bool false)∧Ye w' B c t n gens ws l ms m∧Chg B.mkP w w':=by
 have H:=Za h;have c6:w.cell? ⟨B.kb,6,none⟩=some (.slice (some ⟨B.hd,0,none⟩) m.hs.length B.hcap):=h.box.c 6 _ rfl;obtain⟨hl1,hl2,hl3,hl4⟩:=h.hl;have AC:=Za (X8 h ha);have k0:(0:Int)≤(k:Int):=Int.natCast_nonneg _;have k1:(k:Int)<(m.hs.length:Int):=by omega
 have kc:k<B.hcap:=by omega
 have ci:=h.hands.is k hk;obtain⟨A,hA⟩:=Zb (w.alloc (.cells #[false,false,.nilFunc] 360));obtain⟨zb,hzb⟩:∃z,w.heap.size=z:=⟨_,rfl⟩;have xA:Ext w A:=by rw[←hA];exact(Zy2 _).alloc _
 have bA:Zn A zb [false,false,.nilFunc]:=by rw[←hA];exact Zn.new w _ _ hzb
 have c6A:=xA.cell c6;obtain⟨p0,p1,p2⟩:=bA.k3;obtain⟨q0,q1,q2⟩:=bA.g3;have MC:=Uk (w:=w.drew);unfold Zti at MC;have MI1:=Za (MC.mono (R':=fun e w'=>e=.returned (.agg #[false,false,.nilFunc,false,true,.func (.func 304) #[] #[],false,false,.func (.func 305) #[] #[],true,false,.func (.func 308) #[] #[],false,false,.func (.func 309) #[] #[]])∧Ext w w'∧w'.cell? ⟨B.kb,6,none⟩=some (.slice (some ⟨B.hd,0,none⟩) m.hs.length B.hcap)∧∀o,(w'.alloc o).cell? ⟨B.kb,6,none⟩=some (.slice (some ⟨B.hd,0,none⟩) m.hs.length B.hcap)) fun e w' ⟨p,x⟩=>⟨p,(Zy2 w).drew.trans x,((Zy2 w).drew.trans x).cell c6,fun o=>(((Zy2 w).drew.trans x).alloc o).cell c6⟩);have MC2:=Uk (w:=A.drew);unfold Zti at MC2;have MI2:Hid (Calls prog 266 #[] A.drew fun e w'=>e=.returned (.agg #[false,false,.nilFunc,false,true,.func (.func 304) #[] #[],false,false,.func (.func 305) #[] #[],true,false,.func (.func 308) #[] #[],false,false,.func (.func 309) #[] #[]])∧Ext w w'∧Zn w' zb [false,false,.nilFunc]∧(w'.cell? ⟨B.kb,6,none⟩=some (.slice (some ⟨B.hd,0,none⟩) m.hs.length B.hcap)∧w'.cell? zb=some (.bool false)∧w'.cell? ⟨zb,1,none⟩=some (.bool false)∧w'.cell? ⟨zb,2,none⟩=some .nilFunc)∧(w'.frozen? zb=false∧w'.frozen? ⟨zb,1,none⟩=false∧w'.frozen? ⟨zb,2,none⟩=false)):=
  Za (MC2.mono fun e w' ⟨p,x⟩=>by
   have bx:=bA.ext ((Zy2 _).drew.trans x);exact⟨p,xA.drew.trans x,bx,⟨(xA.drew.trans x).cell c6,bx.c 0 _ rfl,bx.c 1 _ rfl,bx.c 2 _ rfl⟩,bx.f 0,bx.f 1,bx.f 2⟩)
 have sf:=fun p w=>run_store prog w p (.func (.func fk) #[] #[]) .plain rfl
 have v1:decide (iv<1)=false:=Zyx (by omega);have v4:decide (4<iv)=false:=Zyx (by omega);have v0:0≤iv:=by omega
 have v5:iv<5:=by omega
 clear hiv;rw[hi] at ci;clear h ha hk MC MC2;go_enter func226,ntmps226;go_wp2_with fail;refine AC.out.zz ?_;go_wp2_with fail
 go_cut [7,8] from 9 to 68 (fun s7 s8 wx=>s7=.pointer (some ⟨B.hd,k*3,none⟩)∧∃z,s8=.pointer (some ⟨z,0,none⟩)∧Hid (Ext w wx∧Zn wx z [full,false,.func (.func fk) #[] #[]]∧w.heap.size≤z))
 case first=>
  go_region_with (go_at_call 266;first|(with_reducible refine MI1.out.mono ?_;rintro e w1 ⟨rfl,x1,c6w,c6x⟩)|(with_reducible refine MI2.out.mono ?_;rintro e w1 ⟨rfl,x1,bx,⟨c6w,d0,d1,d2⟩,g0,g1,g2⟩))
  all_goals
   go_wp2
   go_meet
   first
    | exact⟨rfl,_,rfl,Za ⟨x1.alloc _,Zn.new w1 _ _ rfl,x1.size⟩⟩
    | exact⟨rfl,_,rfl,Za ⟨((x1.setCell (p:=⟨zb,0,none⟩) (by show w.heap.size≤zb;omega) _).setCell (p:=⟨zb,1,none⟩) (by show w.heap.size≤zb;omega) _).setCell (p:=⟨zb,2,none⟩) (by show w.heap.size≤zb;omega) _,bx.set3 _ _ _,by omega⟩⟩
 case rest=>
  obtain⟨rfl,z,rfl,HC⟩:=hcut;clear hA hzb c6A p0 p1 p2 q0 q1 q2 MI1 MI2 sf;have ci:=HC.out.1.cell ci;obtain⟨z0,z1,z2⟩:=HC.out.2.1.k3;clear hix;cases full
  all_goals
   go_wp2_with fail
   go_quiet (fail)
   go_wp2;go_ret;exact⟨rfl,H.out.ext (HC.out.1.drewN _),Zy3 (HC.out.1.drewN _)⟩
theorem Zdz{k:Nat}{m1:MK}{r:Bool}(h:Ye w B c t n gens ws l ms m)(ha:m.act=true)(hk:k<m.hs.length)(hi:(Zq m.hs k).is=false)(hn:mDo c t n ws l ms m k 2=(m1,r))(hs:m.steps+1<1099511627776):Calls prog 226 #[B.kb,.int .i64 k,.int .u8 2] w fun e w'=>e=.returned (.bool r)∧Ye w' B c t n gens ws l ms (K7 r m1 m)∧Chg B.mkP w w':=by
 have DN:=Zf0 (k:=k) (i:=2) (ws:=ws) (ms:=ms) h.ko h.ti h.ok;have ST:=Mn (c:=c) (t:=t) (n:=n) (ws:=ws) (l:=l) (ms:=ms) m k 2;rw[hn] at DN ST;have hd:_=(m1,r):=hn;unfold mDo at hd;rw[if_neg (by decide),if_neg (by decide),if_neg (by simp[hi]),if_pos rfl] at hd;exact Ly h ha hk hi (by decide) (fun w=>by kernel_rfl) hs ST DN (Zi.mk func305 (by kernel_rfl) rfl) (fun W x=>Zis (h.ext x) hk hd)
theorem Zd0{k:Nat}(h:Ye w B c t n gens ws l ms m)(ha:m.act=true)(hk:k<m.hs.length)(hi:(Zq m.hs k).is=true):Calls prog 226 #[B.kb,.int .i64 k,.int .u8 2] w fun e w'=>e=.returned (.bool false)∧Ye w' B c t n gens ws l ms m∧Chg B.mkP w w':=
 Lz (full:=false) (fk:=305) h ha hk hi (by decide) (fun w=>by kernel_rfl)
theorem Zd1{k:Nat}(h:Ye w B c t n gens ws l ms m)(ha:m.act=true)(hk:k<m.hs.length)(hi:(Zq m.hs k).is=false):Calls prog 226 #[B.kb,.int .i64 k,.int .u8 3] w fun e w'=>e=.returned (.bool false)∧Ye w' B c t n gens ws l ms m∧Chg B.mkP w w':=
 Lz (full:=true) (fk:=308) h ha hk hi (by decide) (fun w=>by kernel_rfl)
theorem Zd2{k:Nat}{m1:MK}{r:Bool}(h:Ye w B c t n gens ws l ms m)(ha:m.act=true)(hk:k<m.hs.length)(hi:(Zq m.hs k).is=true)(hn:mDo c t n ws l ms m k 3=(m1,r))(hs:m.steps+1<1099511627776):Calls prog 226 #[B.kb,.int .i64 k,.int .u8 3] w fun e w'=>e=.returned (.bool r)∧Ye w' B c t n gens ws l ms (K7 r m1 m)∧Chg B.mkP w w':=by
 have DN:=Zf0 (k:=k) (i:=3) (ws:=ws) (ms:=ms) h.ko h.ti h.ok;have ST:=Mn (c:=c) (t:=t) (n:=n) (ws:=ws) (l:=l) (ms:=ms) m k 3;rw[hn] at DN ST;have hd:_=(m1,r):=hn;unfold mDo at hd;rw[if_neg (by decide),if_pos rfl,if_pos hi] at hd;cases hd;exact Ly h ha hk hi (by decide) (fun w=>by kernel_rfl) hs ST DN (Zi.mk func308 (by kernel_rfl) rfl) (fun W x=>Zmv (h.ext x) hk hi)
theorem Zd3{k:Nat}{m1:MK}{r:Bool}(h:Ye w B c t n gens ws l ms m)(ha:m.act=true)(hk:k<m.hs.length)(hi:(Zq m.hs k).is=false)(hn:mDo c t n ws l ms m k 4=(m1,r))(hs:m.steps+1<1099511627776):Calls prog 226 #[B.kb,.int .i64 k,.int .u8 4] w fun e w'=>e=.returned (.bool r)∧Ye w' B c t n gens ws l ms (K7 r m1 m)∧Chg B.mkP w w':=by
 have DN:=Zf0 (k:=k) (i:=4) (ws:=ws) (ms:=ms) h.ko h.ti h.ok;have ST:=Mn (c:=c) (t:=t) (n:=n) (ws:=ws) (l:=l) (ms:=ms) m k 4;rw[hn] at DN ST;have hd:_=(m1,r):=hn;unfold mDo at hd;rw[if_neg (by decide),if_neg (by decide),if_neg (by simp[hi]),if_neg (by decide)] at hd;exact Ly h ha hk hi (by decide) (fun w=>by kernel_rfl) hs ST DN (Zi.mk func309 (by kernel_rfl) rfl) (fun W x=>Zit (h.ext x) hk hd)
theorem Zd4{k:Nat}(h:Ye w B c t n gens ws l ms m)(ha:m.act=true)(hk:k<m.hs.length)(hi:(Zq m.hs k).is=true):Calls prog 226 #[B.kb,.int .i64 k,.int .u8 4] w fun e w'=>e=.returned (.bool false)∧Ye w' B c t n gens ws l ms m∧Chg B.mkP w w':=
 Lz (full:=false) (fk:=309) h ha hk hi (by decide) (fun w=>by kernel_rfl)
end
section
open Go.RowKit Go.Shelf
attribute [local go_sem] Oper.semAt_some
abbrev Ni(hs:List Pe):={ k:Nat // k<hs.length∧(Zq hs k).is=true }
def Zwk{hs:List Pe}(x:Ni hs):Array Value:=#[.int .i64 (x.1:Int)]
def Wc(hs:List Pe):Nat→List (Ni hs)
 | 0=>[]
 | n+1=>Wc hs n++if h:n<hs.length∧(Zq hs n).is=true then [⟨n,h⟩] else []
theorem Ea(hs:List Pe):∀n,(Wc hs n).length≤n
 | 0=>Zy1 _
 | n+1=>by
  have:=Ea hs n;rw[Wc,Zy9];split<;>simp<;>omega
theorem Eb{hs:List Pe}{n:Nat}(h:n<hs.length∧(Zq hs n).is=true):Wc hs (n+1)=Wc hs n++[⟨n,h⟩]:=by rw[Wc,dif_pos h]
theorem Ziv{hs:List Pe}{n:Nat}(h:(Zq hs n).is=false):Wc hs (n+1)=Wc hs n:=by rw[Wc,dif_neg (by rw[h];simp),List.append_nil]
theorem Zq4(n:Nat)(hn:1≤n)(l n₀ Bl kb hd cap:Nat){hs:List Pe}(b0:Bl<n₀)(b1:kb<n₀)(b2:hd<n₀)(hc:hs.length≤cap∧cap≤maxLen∧hs.length≤9)(J Jx:List (Ni hs)→World→Prop)(hJe:∀pre V V',J pre V→Ext V V'→J pre V')
  (hY:∀pre x W,J pre W→pre.length<hs.length→YieldAt Fence.wide (n-1) prog l (Zwk x) W fun e W'=>
   (e=.returned (.bool true)∧J (pre++[x]) W'∧Below n₀ W W')∨(e=.returned (.bool false)∧Jx (pre++[x]) W'))
  (W:World) (hn0:n₀≤W.heap.size) (cl:W.cell? Bl=some (kb:Value)) (c6:W.cell? ⟨kb,6,none⟩=some (.slice (some ⟨hd,0,none⟩) hs.length cap)) (hR:Yr W hd hs) (h0:J [] W) :
  CallsIn Fence.wide n prog 311 #[.func (.yield l) #[] #[],Bl] W fun e W'=>(∃v,e=.returned v) ∧
   ((∃ys,ys=Wc hs hs.length∧J ys W')∨(∃pre,(∃j,j≤hs.length∧pre=Wc hs j)∧Jx pre W')):=by
 have HY:=Za hY;have JE:=Za hJe;have H0:=Za h0;have HR:=Za hR;obtain⟨hc1,hc2,hc3⟩:=hc;unfold maxLen at hc2;obtain⟨L,hL⟩:=Zb (hs.length);have HL:=Za hL;rw[hL] at hc1 hc3 c6;clear hY hJe h0 hR hL;refine callsIn_of_wp func311 rfl trivial ?_ rfl;simp only[ntmps311,List.size_toArray,List.length_cons,List.length_nil,Nat.reduceAdd,Nat.reduceSub,Array.replicate_succ,Array.replicate_zero,List.push_toArray,List.append_toArray,List.nil_append,List.cons_append]
 gi_wp2
 gi_loopw [3,4,10] (fun _ _ iv wr=>∃k:Nat,k≤L∧iv=.int .i64 (k:Int)∧Hid (J (Wc hs k) wr)∧Hid (Below n₀ W wr)) (fun _ _ iv _=>L-(intOf iv).toNat)
 case atStart=>exact⟨0,Nat.zero_le _,rfl,Za H0.out,Za (Below.refl _ _)⟩
 case round=>
  obtain⟨k,hk,rfl,HJ,HB⟩:=hrel;by_cases hlt:k<L
  ·have hkl:k<hs.length:=by rw[HL.out];exact hlt
   have e0:=(HB.out.cell (p:=⟨hd,k*3,none⟩) b2).trans (HR.out.slot k hkl);have e1:=(HB.out.cell (p:=⟨hd,k*3+1,none⟩) b2).trans (HR.out.fld k hkl);have e2:=(HB.out.cell (p:=⟨hd,k*3+2,none⟩) b2).trans (HR.out.is k hkl);have hk0:(0:Int)≤(k:Int):=Int.natCast_nonneg _;have hk1:(k:Int)<(L:Int):=by omega
   have hcl:k<cap:=by omega
   generalize (Zq hs k).slot=hs0 at e0
   generalize (Zq hs k).fld=hs1 at e1
   cases his:(Zq hs k).is
   ·rw[his] at e2;have HI:=Za his;clear his hkl
    gi_wp2
    refine⟨fun _ _=>trivial,?_⟩
    gi_wp2
    go_roundw
    case rel=>exact⟨k+1,by omega,rfl,Za (by rw[Ziv HI.out];exact JE.out _ _ _ HJ.out ((Zy2 _).alloc _)),Za (HB.out.alloc (Zy6 hn0 HB.out.size) _)⟩
    case measure=>simp[intOf];omega
   ·rw[his] at e2;have HI:Hid (k<hs.length∧(Zq hs k).is=true):=Za ⟨hkl,his⟩;have hl:(Wc hs k).length<hs.length:=by have:=Ea hs k;omega
    have hy0:=HY.out _ ⟨k,HI.out⟩ (wr.alloc (.cells #[.int .i64 hs0,.int .i64 hs1,true] 357)) (JE.out _ _ _ HJ.out ((Zy2 _).alloc _)) hl;have ef:Zwk (hs:=hs) ⟨k,HI.out⟩=#[.int .i64 (k:Int)]:=rfl;rw[ef] at hy0;obtain⟨fn,tmps,assign,body,hy,hR⟩:=hy0;clear ef his hkl hl
    gi_wp2
    have hR2:=hR.mono (R':=fun e W'=>∃bb:Bool,e=.returned (.bool bb)∧Hid ((bb=true∧J (Wc hs k++[⟨k,HI.out⟩]) W'∧Below n₀ (wr.alloc (.cells #[.int .i64 hs0,.int .i64 hs1,true] 357)) W')∨(bb=false∧Jx (Wc hs k++[⟨k,HI.out⟩]) W'))) (fun e W' h=>by
     rcases h with ⟨rfl,h1,h2⟩|⟨rfl,h1⟩
     ·exact⟨true,rfl,.inl ⟨rfl,h1,h2⟩⟩
     ·exact⟨false,rfl,.inr ⟨rfl,h1⟩⟩)
    clear hR;refine hR2.mono ?_;rintro e W4 ⟨bb,rfl,hbb⟩;clear hR2 hy;rcases hbb.out with ⟨rfl,hJ3,hk3⟩|⟨rfl,hJx3⟩
    ·have HJ3:=Za hJ3;have HK3:=Za ((HB.out.alloc (Zy6 hn0 HB.out.size) _).trans hk3);clear hbb hJ3 hk3
     gi_wp2
     go_roundw
     case rel=>exact⟨k+1,by omega,rfl,Za (by rw[Eb HI.out];exact HJ3.out),HK3⟩
     case measure=>simp[intOf];omega
    ·have HX3:=Za hJx3;clear hbb hJx3
     gi_wp2
     refine bodyPost_ret (results_none rfl _ _ _) rfl ?_;exact⟨⟨_,rfl⟩,.inr ⟨_,⟨k+1,by have:=HI.out.1;omega,(Eb HI.out).symm⟩,HX3.out⟩⟩
  ·obtain rfl:k=L:=by omega
   gi_wp2
   go_end0
   exact⟨⟨_,rfl⟩,.inl ⟨_,by rw[HL.out],HJ.out⟩⟩
end
section
open Go.RowKit Go.Shelf
attribute [local go_sem] Oper.semAt_some
variable{w w':World}{B:CB}{c:Zh}{t n:Nat}{gens:Int}{ws:List Int}{l:List Ent}{ms:List Int}{m m':MK}
theorem Zmx{k:Nat}{i:Int}{m1:MK}{r:Bool}(ha:m.act=true)(hk:k<m.hs.length)(hi:1≤i∧i≤4)(h:mDo c t n ws l ms m k i=(m1,r)):Yy c t n ws l ms m k i=(K7 r m1 m,r):=by
 unfold Yy K7;rw[if_pos ⟨ha,by omega,by omega,hi.1,hi.2⟩];simp only[Zy4,h];cases r<;>rfl
theorem Zmy{k:Int}{i:Int}(h:¬(m.act=true∧0≤k∧k<(m.hs.length:Int)∧1≤i∧i≤4)):Yy c t n ws l ms m k i=(m,false):=by unfold Yy;rw[if_neg h]
theorem Ha{k i:Int}{m1:MK}{r:Bool}(h:Ye w B c t n gens ws l ms m)(hs:m.steps+1<1099511627776)(hr:Yy c t n ws l ms m k i=(m1,r)) :
  Calls prog 226 #[B.kb,.int .i64 k,.int .u8 i] w fun e w'=>e=.returned (.bool r)∧Ye w' B c t n gens ws l ms m1∧Chg B.mkP w w':=by
 by_cases hc:m.act=true∧0≤k∧k<(m.hs.length:Int)∧1≤i∧i≤4
 ·obtain⟨ha,k0,k1,i1,i4⟩:=hc;obtain⟨j,rfl⟩:∃j:Nat,k=(j:Int):=⟨k.toNat,by omega⟩;have hj:j<m.hs.length:=by omega
  cases hd:mDo c t n ws l ms m j i with
  | mk m2 q=>
   rw[Zmx ha hj ⟨i1,i4⟩ hd] at hr;obtain⟨rfl,rfl⟩:K7 q m2 m=m1∧q=r:=by cases hr;exact⟨rfl,rfl⟩
   have i4':i=1∨i=2∨i=3∨i=4:=by omega
   have np:(Zq m.hs j).is=true→i=2∨i=4→m2=m∧q=false:=by
    intro hi h24;unfold mDo at hd;rw[if_neg (by omega),if_neg (by omega),if_pos hi] at hd;cases hd;exact⟨rfl,rfl⟩
   have np3:(Zq m.hs j).is=false→i=3→m2=m∧q=false:=by
    intro hi h24;unfold mDo at hd;rw[if_neg (by omega),if_pos h24,if_neg (by rw[hi];simp)] at hd;cases hd;exact⟨rfl,rfl⟩
   rcases i4' with rfl|rfl|rfl|rfl
   ·exact Ziu h ha hj hd hs
   ·cases hi:(Zq m.hs j).is
    ·exact Zdz h ha hj hi hd hs
    ·obtain⟨rfl,rfl⟩:=np hi (.inl rfl);exact Zd0 h ha hj hi
   ·cases hi:(Zq m.hs j).is
    ·obtain⟨rfl,rfl⟩:=np3 hi rfl;exact Zd1 h ha hj hi
    ·exact Zd2 h ha hj hi hd hs
   ·cases hi:(Zq m.hs j).is
    ·exact Zd3 h ha hj hi hd hs
    ·obtain⟨rfl,rfl⟩:=np hi (.inr rfl);exact Zd4 h ha hj hi
 ·rw[Zmy hc] at hr;cases hr;exact(Zbe h hc).mono fun _ _ h1=>⟨h1.1,by rw[←h1.2];exact h,by rw[←h1.2];exact Chg.refl _ _⟩
theorem KeepsFrom.of_chg{P:Nat→Prop}{A A':World}{n:Nat}(h:Chg P A A')(hp:∀k,P k→k<n):KeepsFrom n A A':=
 ⟨h.size,fun k o hk ho _=>(h.block k (Array.getElem?_eq_some_iff.1 ho).1 (fun q=>by have:=hp k q;omega)).trans ho⟩
theorem L4{hs:List Pe}:∀{n:Nat},Wc hs n=[]→∀k,k<n→k<hs.length→(Zq hs k).is=false
 | 0,_,k,hk,_=>absurd hk (Zzb _)
 | n+1,h,k,hk,hl=>by
  rw[Wc] at h;obtain⟨h1,h2⟩:=List.append_eq_nil_iff.1 h;by_cases e:k<n
  ·exact L4 h1 k e hl
  ·have e':k=n:=by omega
   subst e';split at h2
   ·cases h2
   ·rename_i q;cases hb:(Zq hs k).is
    ·rfl
    ·exact absurd ⟨hl,hb⟩ q
theorem Nj{hs:List Pe}{x:Ni hs}{r:List (Ni hs)}:∀{n:Nat},Wc hs n=x :: r→∀k,k<x.1→(Zq hs k).is=false
 | 0,h=>by cases h
 | n+1,h=>by
  rw[Wc] at h;intro k hk;cases hq:Wc hs n with
  | nil=>
   rw[hq,List.nil_append] at h;split at h
   ·rename_i q
    injection h with h _
    subst h;exact L4 hq k hk (Nat.lt_trans hk q.1)
   ·cases h
  | cons y q=>
   rw[hq] at h
   injection h with h1 h2
   subst h1;exact Nj hq k hk
theorem Ec{p:Nat→Bool}{k:Nat}:∀{n:Nat},k<n→p k=true→(∀j,j<k→p j=false)→(List.range n).find? p=some k:=by
 intro n hk hp hj;rw[List.find?_range_eq_some];exact⟨hp,List.mem_range.2 hk,fun j h=>by rw[hj j h];rfl⟩
theorem Zf1{m:MK}{k:Nat}(hk:k<m.hs.length)(hp:(Zq m.hs k).is=true)(hj:∀j,j<k→(Zq m.hs j).is=false):Gj m=some k:=Ec (p:=fun k=>(Zq m.hs k).is) hk hp hj
theorem Zf2{m:MK}(h:Wc m.hs m.hs.length=[]):Gj m=none:=by
 unfold Gj;rw[List.find?_eq_none];intro k hk;rw[L4 h k (List.mem_range.1 hk) (List.mem_range.1 hk)];simp
theorem Zbf(pp:Option Addr){w:World} :
  Calls prog 267 #[.pointer pp] w fun e w'=>e=.returned (.func (.func 311) #[] #[w.heap.size]) ∧
   w'=w.alloc (.cells #[.pointer pp] 114):=by
 go_enter func267,ntmps267;go_wp2;go_ret;exact⟨rfl,rfl⟩
theorem Ed(d:Nat)(hn:1≤d)(n₀ Bl:Nat)(w:World)(h:Ye w B c t n gens ws l ms m)(b0:Bl<n₀)(b1:B.a8≤n₀)(hw:n₀≤w.heap.size)(cl:w.cell? Bl=some (B.kb:Value)) :
  SeqStopsK Fence.wide d prog 311 #[Bl] (Zwk (hs:=m.hs)) (Below n₀) (fun ys=>ys=Wc m.hs m.hs.length) (fun pre=>∃j,j≤m.hs.length∧pre=Wc m.hs j) m.hs.length w:=fun ll J Jx W hW hJ _ hY h0=>by
 have hx:Ext w W:=hW;have c6:=h.box.c 6 _ rfl;obtain⟨h1,h2,h3,h4⟩:=h.hl;have oh:=h.ord.h;exact Zq4 d hn ll n₀ Bl B.kb B.hd B.hcap b0 (by omega) (by omega) ⟨h3,h4,h2⟩ J Jx (fun pre V V' h hz=>hJ pre V V' none h ⟨Below.os hz,Below.tape hz,Below.output hz,Below.size hz,fun k hk _=>Below.block hz k hk⟩ (fun r e=>by cases e)) hY W (by have:=hx.size;omega) (hx.cell cl) (hx.cell c6) (h.hands.chg h1 (Zy3 (P:=fun _=>False) hx) id) h0
theorem Zbg(h:Ye w B c t n gens ws l ms m)(ha:m.act=false) :
  Calls prog 227 #[B.kb] w fun e w'=>e=.returned (.bool false)∧Ext w w':=by
 obtain⟨z,hz⟩:=Zb (w.heap.size);obtain⟨W0,hW0,⟨k0,f0⟩,⟨k1,f1⟩,x0⟩:=Cz w (B.kb:Value) (.bool false) 114 4 hz;have AC:=Za (X8 (h.ext x0) ha);clear h;refine(callsIn_wide (n:=4)).1 ?_;refine callsIn_of_wp_marks func227 rfl trivial ?_ rfl;simp only[ntmps227,List.size_toArray,List.length_cons,List.length_nil,Nat.reduceAdd,Nat.reduceSub,Array.replicate_succ,Array.replicate_zero,List.push_toArray,List.append_toArray,List.nil_append,List.cons_append]
 gi_wp2_with (first|(refine⟨trivial,?_⟩;gi_at_call 265;refine(callsIn_wide.2 AC.out).mono ?_;rintro e w' ⟨rfl,rfl⟩))
 have d1:=Zyz W0 ⟨z+1,0,none⟩ (.bool false) k1;refine⟨.bool false,?_,rfl,x0.setCell (p:=⟨z+1,0,none⟩) (by show w.heap.size≤z+1;omega) _⟩;simp[results,f227,go_sem,d1]
structure Hb(w W:World)(B:CB)(c:Zh)(t n:Nat)(gens:Int)(ws:List Int)(l:List Ent)(ms:List Int)(z D:Nat)(m:MK):Prop where
 k0:W.cell? z=some (B.kb:Value)
 k1:∃b:Bool,W.cell? ⟨z+1,0,none⟩=some (.bool b)
 f1:W.frozen? ⟨z+1,0,none⟩=false
 at_:Ye W B c t n gens ws l ms m
 ch:Chg B.mkP w W
 d:W.heap[D]?=some (.deferred (some []))
theorem Hb.go{W W':World}{z D:Nat}(h:Hb w W B c t n gens ws l ms z D m)(hz:B.a8≤z)(hD:B.a8≤D)(mk:Ye W' B c t n gens ws l ms m')(x:Chg B.mkP W W'):Hb w W' B c t n gens ws l ms z D m':=by
 have q:∀k,B.a8≤k→¬B.mkP k:=fun k hk e=>by unfold CB.mkP at e;omega
 obtain⟨b,k1⟩:=h.k1;exact⟨x.cell (q _ hz) h.k0,⟨b,x.cell (q _ (by show B.a8≤z+1;omega)) k1⟩,by rw[x.frozen (p:=⟨z+1,0,none⟩) (Zj k1) (q _ (by show B.a8≤z+1;omega))];exact h.f1,mk,h.ch.trans x,by rw[x.block D (Array.getElem?_eq_some_iff.1 h.d).1 (q _ hD)];exact h.d⟩
theorem Hb.fin{W:World}{z D:Nat}(h:Hb w W B c t n gens ws l ms z D m)(hw:w.heap.size=z)(hz:B.a8≤z)(hD:z≤D)(r:Bool) :
  (W.setCell ⟨z+1,0,none⟩ (.bool r)).heap[D]?=some (.deferred (some []))∧((W.setCell ⟨z+1,0,none⟩ (.bool r)).putObj D (.deferred none)).cell? ⟨z+1,0,none⟩=some (.bool r) ∧
   Ye ((W.setCell ⟨z+1,0,none⟩ (.bool r)).putObj D (.deferred none)) B c t n gens ws l ms m∧Chg B.mkP w ((W.setCell ⟨z+1,0,none⟩ (.bool r)).putObj D (.deferred none)):=by
 obtain⟨b,k1⟩:=h.k1;have d1:=Zyz W ⟨z+1,0,none⟩ (.bool r) k1;have hd:=(KeepsOthers.setCell W ⟨z+1,0,none⟩ (.bool r)).same D _ h.d rfl;have c1:Chg (fun k=>B.a8≤k) W ((W.setCell ⟨z+1,0,none⟩ (.bool r)).putObj D (.deferred none)):=((Chg.refl _ W).setCell (.inl (by show B.a8≤z+1;omega)) _).putObj (by show B.a8≤D;omega) _;have c2:Chg (fun k=>w.heap.size≤k) W ((W.setCell ⟨z+1,0,none⟩ (.bool r)).putObj D (.deferred none)):=((Chg.refl _ W).setCell (.inl (by show w.heap.size≤z+1;omega)) _).putObj (by show w.heap.size≤D;omega) _;exact⟨hd,cell_kept d1 (grownBy_putObj' _ D (.deferred none)) (fun r e=>by cases e;exact⟨_,hd,rfl⟩),h.at_.chg c1 (fun k hk q=>by omega),h.ch.new c2⟩
theorem Ee{k i:Int}(h:(Yy c t n ws l ms m k i).2=false):Yy c t n ws l ms m k i=(m,false):=by
 unfold Yy at h ⊢;split
 ·rename_i q;rw[if_pos q] at h;split
  ·rename_i q2;rw[if_pos q2] at h;cases h
  ·rfl
 ·rfl
theorem Zbh{m1:MK}{r:Bool}(h:Ye w B c t n gens ws l ms m)(ha:m.act=true)(hs:m.steps+1<1099511627776)(hr:Tl c t n ws l ms m=(m1,r)) :
  Calls prog 227 #[B.kb] w fun e w'=>e=.returned (.bool r)∧Ye w' B c t n gens ws l ms m1∧Chg B.mkP w w':=by
 have H:=Za h;have HR:=Za hr;have HS:=Za hs;have HA:=Za ha;have oh:=h.ord.h;have top:=h.top;obtain⟨z,hz⟩:=Zb (w.heap.size);obtain⟨W0,hW0,⟨k0,f0⟩,⟨k1,f1⟩,x0⟩:=Cz w (B.kb:Value) (.bool false) 114 4 hz;have sz:W0.heap.size=z+2:=by rw[←hW0,←hz];simp
 have AC:=Za (X8 (h.ext x0) ha);have HZ:=Za hz;have x0':=x0.size;clear h hr hs ha;refine(callsIn_wide (n:=5)).1 ?_;refine callsIn_of_wp_marks func227 rfl trivial ?_ rfl;simp only[ntmps227,List.size_toArray,List.length_cons,List.length_nil,Nat.reduceAdd,Nat.reduceSub,Array.replicate_succ,Array.replicate_zero,List.push_toArray,List.append_toArray,List.nil_append,List.cons_append]
 gi_wp2_with (first|(refine⟨trivial,?_⟩;gi_at_call 265;refine(callsIn_wide.2 AC.out).mono ?_;rintro e w' ⟨rfl,rfl⟩)|(refine⟨trivial,?_⟩;gi_at_call 267;refine(callsIn_wide.2 (Zbf _)).mono ?_;rintro e w' ⟨rfl,rfl⟩))
 obtain⟨Wr,hWr⟩:∃V,W0.alloc (.cells #[B.kb] 114)=V:=⟨_,rfl⟩;have xr:Ext W0 Wr:=by rw[←hWr];exact(Zy2 _).alloc _
 have cy:Wr.cell? ⟨z+2,0,none⟩=some (B.kb:Value):=by rw[←hWr,←sz];exact Zg W0 _ _ 0
 have szr:Wr.heap.size=z+3:=by rw[←hWr];simp[sz]
 have XR:=Za (x0.trans xr);have K:=Za (And.intro (xr.cell k0) (And.intro (xr.cell k1) (xr.frozenAt k1 f1)));have ST:=Za (Ed 4 (by decide) (z+3) (z+2) Wr (H.out.ext XR.out) (by omega) (by omega) (by omega) cy);rw[hWr];clear cy hWr k0 k1 f0 f1 x0 xr hW0 AC;have big:∀k,Wr.heap.size≤k→¬B.mkP k:=fun k hk q=>by unfold CB.mkP at q;omega
 refine wpIn_rangeFunc_ownG rfl (by decide) (gf:=311) (lb:=#[.pointer (some ⟨z+2,0,none⟩)]) rfl trivial (enters_of func311 (by kernel_rfl) rfl)
  ST.out (fun h k=>h.trans k) (belowK_b (by omega)) (Below.refl _ _) (fun _=>rfl)
  (fun pre W=>pre=[]∧Below Wr.heap.size Wr W)
  (fun cc q W=>∃(x:Ni m.hs) (m2:MK) (r2:Bool),q=[x]∧cc=.ret∧Yy c t n ws l ms m x.1 3=(m2,r2)∧W.cell? ⟨z+1,0,none⟩=some (.bool r2)∧Ye W B c t n gens ws l ms m2∧Chg B.mkP w W)
  (OwnFrom.and (Own.from (fun _ _ _ _ hs _ _=>hs) _) (ownFrom_below (Zy1 _) (Zy1 _)))
  (fun cc s A A' row hs hg hr=>by
   obtain⟨x,m2,r2,e1,e2,e3,e4,e5,e6⟩:=hs;exact⟨x,m2,r2,e1,e2,e3,cell_kept e4 hg (fun r e=>(hr r e).2),e5.chg (Chg.grown hg hr) (fun k hk q=>by omega),e6.past hg (fun r e=>⟨by have:=(hr r e).1;omega,(hr r e).2⟩)⟩)
  ⟨rfl,Below.refl _ _⟩
  (fun x=>{ tmps:=#[(B.kb:Value),(z:Value),.pointer (some ⟨z+1,0,none⟩),.int .i64 (x.1:Int),undef,(B.kb:Value),.bool true,.bool false,(B.kb:Value),.func (.func 311) #[] #[.pointer (some ⟨z+2,0,none⟩)],.int .i64 (x.1:Int),undef,undef,undef,undef,undef,undef,undef,undef,undef,undef,undef,undef,undef,undef,undef,undef,undef,undef,undef,undef,undef,undef],defers:=[] }) ?assign ?body ?done ?stop
 case assign=>
  intro l x W K hK;simp only[Zwk]
  gi_wp2
  exact hK
 case body=>
  rintro ll pre x W ⟨rfl,hB⟩ hlen;have hB':Ext Wr W:=hB;have k0:=hB'.cell K.out.1;have k1:=hB'.cell K.out.2.1;have f1:=hB'.frozenAt K.out.2.1 K.out.2.2;obtain⟨j,hj⟩:=Zb (x.1);have HX:=Za hj;obtain⟨m2,r2,h2⟩:∃m2 r2,Yy c t n ws l ms m (j:Int) 3=(m2,r2):=⟨_,_,rfl⟩;have SP:=Za ((Ha (H.out.ext (XR.out.trans hB')) HS.out h2).mono (R':=fun e W'=>e=.returned (.bool r2)∧(W'.cell? ⟨z+1,0,none⟩=some (.bool false)∧W'.frozen? ⟨z+1,0,none⟩=false)∧Ye W' B c t n gens ws l ms m2∧Chg B.mkP W W') fun e W' ⟨p1,p2,p3⟩=>
   ⟨p1,⟨p3.cell (fun q=>by unfold CB.mkP at q;simp at q;omega) k1,by rw[p3.frozen (p:=⟨z+1,0,none⟩) (Zj k1) (fun q=>by unfold CB.mkP at q;simp at q;omega)];exact f1⟩,p2,p3⟩)
  have H2:=Za h2;have HB:=Za (XR.out.trans hB');simp only[hj];clear hB hB' k1 f1 hj h2
  gi_wp2_with (first|(refine⟨trivial,?_⟩;gi_at_call 226;refine(CallsIn.inRound ll (callsIn_wide.2 SP.out)).mono ?_;rintro e W2 ⟨rfl,⟨k1,f1⟩,q1,q2⟩))
  have cw:Chg (fun k=>B.a8≤k) W2 (W2.setCell ⟨z+1,0,none⟩ (.bool r2)):=(Chg.refl _ W2).setCell (.inl (by show B.a8≤z+1;omega)) _;exact⟨(KeepsFrom.of_chg q2 (fun k q=>by unfold CB.mkP at q;omega)).trans ((KeepsOthers.setCell _ _ _).from _),⟨x,m2,r2,rfl,rfl,by rw[HX.out];exact H2.out,Zyz _ _ _ k1,q1.chg cw (fun k hk q=>by omega),((Zy3 HB.out).trans q2).setCell (.inr (by show w.heap.size≤z+1;omega)) _⟩⟩
 case stop=>
  rintro D cc pre W hD ⟨j,hj,hpre⟩ ⟨x,m2,r2,rfl,rfl,e3,e4,e5,e6⟩ hK;have hf:=Zf1 x.2.1 x.2.2 (Nj hpre.symm);have hr:=HR.out;unfold Tl at hr;rw[if_pos HA.out,hf] at hr;simp only[e3] at hr;cases hr;have E:=Za (And.intro e4 (And.intro e5 e6));clear e3 e4 e5 e6 hf hpre hj
  gi_wp2
  refine⟨by simp,.inl ⟨_,_,rfl,run_takeDeferred hK,?_⟩⟩;obtain⟨e4,e5,e6⟩:=E.out;have e1:=cell_kept e4 (grownBy_putObj' _ D (.deferred none)) (fun r e=>by cases e;exact⟨_,hK,rfl⟩);have cw:Chg (fun k=>B.a8≤k) W (W.putObj D (.deferred none)):=(Chg.refl _ W).putObj (by show B.a8≤D;omega) _;have cw2:Chg (fun k=>w.heap.size≤k) W (W.putObj D (.deferred none)):=(Chg.refl _ W).putObj (by show w.heap.size≤D;omega) _;refine⟨.bool r,?_,rfl,e5.chg cw (fun k hk q=>by omega),e6.new cw2⟩;simp[results,f227,go_sem,e1]
 case done=>
  rintro D ys W hD rfl ⟨Ce,hB⟩ hK;have hf:=Zf2 Ce;have hB':Ext Wr W:=hB;have hr:=HR.out;unfold Tl at hr;rw[if_pos HA.out,hf] at hr;simp only at hr;have HW:Hb w W B c t n gens ws l ms z D m:=⟨hB'.cell K.out.1,⟨_,hB'.cell K.out.2.1⟩,hB'.frozenAt K.out.2.1 K.out.2.2,H.out.ext (XR.out.trans hB'),Zy3 (XR.out.trans hB'),hK⟩;obtain⟨L,hL⟩:=Zb (m.hs.length);have c6:W.cell? ⟨B.kb,6,none⟩=some (.slice (some ⟨B.hd,0,none⟩) m.hs.length B.hcap):=HW.at_.box.c 6 _ rfl;obtain⟨hl1,hl2,_,_⟩:=H.out.hl;obtain⟨o,ho⟩:∃o:Int,(L:Int)-1=o:=⟨_,rfl⟩;have hw:IntKind.i64.wrap ((L:Int)-1)=o:=by rw[←ho];exact IntWalk.i64_in _ (by omega)
  rw[hL,ho] at hr;rw[hL] at c6;have DZ:Hid (B.a8≤z∧z≤D∧B.a8≤D):=Za ⟨by omega,by omega,by omega⟩;have STG:Hid (∀V,Hb w V B c t n gens ws l ms z D m→∀(i:Int) (m2:MK) (r2:Bool),Yy c t n ws l ms m o i=(m2,r2)→Calls prog 226 #[B.kb,.int .i64 o,.int .u8 i] V fun e V'=>e=.returned (.bool r2)∧(V'.cell? z=some (B.kb:Value)∧(∃b,V'.cell? ⟨z+1,0,none⟩=some (.bool b))∧V'.frozen? ⟨z+1,0,none⟩=false)∧Hb w V' B c t n gens ws l ms z D m2):=
   Za fun V hV i m2 r2 hm=>(Ha hV.at_ HS.out hm).mono fun e V' ⟨p1,p2,p3⟩=>by
    have g:=hV.go DZ.out.1 DZ.out.2.2 p2 p3;exact⟨p1,⟨g.k0,g.k1,g.f1⟩,g⟩
  have k0:=HW.k0;have HW1:=Za HW;clear hB hB' hK hf Ce HW ho hl1 hl2 hL;cases h2:Yy c t n ws l ms m o 2 with
  | mk m2 r2=>
  rw[h2] at hr;have S2:=Za (STG.out W HW1.out 2 m2 r2 h2);cases r2 with
  | true=>
   cases hr
   gi_wp2_with (first|(refine⟨trivial,?_⟩;gi_at_call 226;refine(callsIn_wide.2 S2.out).mono ?_;clear S2;rintro e W2 ⟨rfl,⟨k0,⟨b,k1⟩,f1⟩,q1⟩))
   refine⟨trivial,?_⟩
   gi_wp2
   refine⟨trivial,?_⟩
   gi_wp2
   obtain⟨e0,e1,e2,e3⟩:=q1.fin HZ.out DZ.out.1 DZ.out.2.1 true;refine⟨by simp,.inl ⟨_,_,rfl,run_takeDeferred e0,?_⟩⟩;refine⟨.bool true,?_,rfl,e2,e3⟩;simp[results,f227,go_sem,e1]
  | false=>
   have e2m:m2=m:=by have:=Ee (by rw[h2]:(Yy c t n ws l ms m o 2).2=false);rw[h2] at this;cases this;rfl
   subst e2m;cases h1:Yy c t n ws l ms m2 o 1 with
   | mk m3 r3=>
   rw[h1] at hr;cases r3 with
   | true=>
    cases hr;have S1:Hid (∀V,Hb w V B c t n gens ws l ms z D m2→_):=Za (fun V hV=>STG.out V hV 1 m1 true h1)
    gi_wp2_with (first|(refine⟨trivial,?_⟩;gi_at_call 226;refine(callsIn_wide.2 S2.out).mono ?_;clear S2;rintro e W2 ⟨rfl,⟨k0,⟨b,k1⟩,f1⟩,q1⟩)|(refine⟨trivial,?_⟩;gi_at_call 226;refine(callsIn_wide.2 (S1.out _ q1)).mono ?_;clear S1;rintro e W3 ⟨rfl,⟨k0,⟨b3,k1⟩,f1⟩,q3⟩))
    refine⟨trivial,?_⟩
    gi_wp2
    obtain⟨e0,e1,e2,e3⟩:=q3.fin HZ.out DZ.out.1 DZ.out.2.1 true;refine⟨by simp,.inl ⟨_,_,rfl,run_takeDeferred e0,?_⟩⟩;refine⟨.bool true,?_,rfl,e2,e3⟩;simp[results,f227,go_sem,e1]
   | false=>
    have e3m:m3=m2:=by have:=Ee (by rw[h1]:(Yy c t n ws l ms m2 o 1).2=false);rw[h1] at this;cases this;rfl
    subst e3m;simp only[Bool.false_eq_true,if_false] at hr;have S1:Hid (∀V,Hb w V B c t n gens ws l ms z D m3→_):=Za (fun V hV=>STG.out V hV 1 m3 false h1);have S4:Hid (∀V,Hb w V B c t n gens ws l ms z D m3→_):=Za (fun V hV=>STG.out V hV 4 m1 r hr)
    gi_wp2_with (first|(refine⟨trivial,?_⟩;gi_at_call 226;refine(callsIn_wide.2 S2.out).mono ?_;clear S2;rintro e W2 ⟨rfl,⟨k0,⟨b,k1⟩,f1⟩,q1⟩)|(refine⟨trivial,?_⟩;gi_at_call 226;refine(callsIn_wide.2 (S1.out _ q1)).mono ?_;clear S1;rintro e W3 ⟨rfl,⟨k0,⟨b3,k1⟩,f1⟩,q3⟩)|(refine⟨trivial,?_⟩;gi_at_call 226;refine(callsIn_wide.2 (S4.out _ q3)).mono ?_;clear S4;rintro e W4 ⟨rfl,⟨k0,⟨b4,k1⟩,f1⟩,q4⟩))
    obtain⟨e0,e1,e2,e3⟩:=q4.fin HZ.out DZ.out.1 DZ.out.2.1 r;refine⟨by simp,.inl ⟨_,_,rfl,run_takeDeferred e0,?_⟩⟩;refine⟨.bool r,?_,rfl,e2,e3⟩;simp[results,f227,go_sem,e1]
theorem Zmz{m1:MK}{r:Bool}(h:Ye w B c t n gens ws l ms m)(hs:m.steps+1<1099511627776)(hr:Tl c t n ws l ms m=(m1,r)) :
  Calls prog 227 #[B.kb] w fun e w'=>e=.returned (.bool r)∧Ye w' B c t n gens ws l ms m1∧Chg B.mkP w w':=by
 cases ha:m.act
 ·have hr':=hr;unfold Tl at hr';rw[if_neg (by rw[ha];simp)] at hr';cases hr';exact(Zbg h ha).mono fun _ _ h1=>⟨h1.1,h.ext h1.2,Zy3 h1.2⟩
 ·exact Zbh h ha hs hr
theorem Zbi(h:Ye w B c t n gens ws l ms m)(ha:m.act=false) :
  Calls prog 262 #[B.kb] w fun e w'=>e=.returned (.bool false)∧Ext w w':=by
 obtain⟨z,hz⟩:=Zb (w.heap.size);obtain⟨W0,hW0⟩:=Zb (w.alloc (.cells #[false] 4));have x0:Ext w W0:=by rw[←hW0];exact(Zy2 _).alloc _
 obtain⟨k0,f0⟩:=(by rw[←hW0];exact U6 w (.bool false) _ hz:W0.cell? z=some (.bool false)∧W0.frozen? z=false);have AC:=Za (X8 (h.ext x0) ha);clear h;refine(callsIn_wide (n:=4)).1 ?_;refine callsIn_of_wp_marks func262 rfl trivial ?_ rfl;simp only[ntmps262,List.size_toArray,List.length_cons,List.length_nil,Nat.reduceAdd,Nat.reduceSub,Array.replicate_succ,Array.replicate_zero,List.push_toArray,List.append_toArray,List.nil_append,List.cons_append]
 gi_wp2_with (first|(refine⟨trivial,?_⟩;gi_at_call 265;refine(callsIn_wide.2 AC.out).mono ?_;rintro e w' ⟨rfl,rfl⟩))
 have d1:=Zyz W0 ⟨z,0,none⟩ (.bool false) k0;refine⟨.bool false,?_,rfl,x0.setCell (p:=⟨z,0,none⟩) (by show w.heap.size≤z;omega) _⟩;simp[results,f262,go_sem,d1]
theorem Zbj{r:Bool}(h:Ye w B c t n gens ws l ms m)(ha:m.act=true)(hr:Tz c t l m=r) :
  Calls prog 262 #[B.kb] w fun e w'=>e=.returned (.bool r)∧Ext w w':=by
 have H:=Za h;have HR:=Za hr;have HA:=Za ha;have oh:=h.ord.h;have top:=h.top;obtain⟨z,hz⟩:=Zb (w.heap.size);obtain⟨W0,hW0⟩:=Zb (w.alloc (.cells #[false] 4));have x0:Ext w W0:=by rw[←hW0];exact(Zy2 _).alloc _
 obtain⟨k0,f0⟩:=(by rw[←hW0];exact U6 w (.bool false) _ hz:W0.cell? z=some (.bool false)∧W0.frozen? z=false);have sz:W0.heap.size=z+1:=by rw[←hW0,←hz];simp
 have AC:=Za (X8 (h.ext x0) ha);have HZ:=Za hz;have x0':=x0.size;clear h hr ha;refine(callsIn_wide (n:=5)).1 ?_;refine callsIn_of_wp_marks func262 rfl trivial ?_ rfl;simp only[ntmps262,List.size_toArray,List.length_cons,List.length_nil,Nat.reduceAdd,Nat.reduceSub,Array.replicate_succ,Array.replicate_zero,List.push_toArray,List.append_toArray,List.nil_append,List.cons_append]
 gi_wp2_with (first|(refine⟨trivial,?_⟩;gi_at_call 265;refine(callsIn_wide.2 AC.out).mono ?_;rintro e w' ⟨rfl,rfl⟩)|(refine⟨trivial,?_⟩;gi_at_call 267;refine(callsIn_wide.2 (Zbf _)).mono ?_;rintro e w' ⟨rfl,rfl⟩))
 obtain⟨Wr,hWr⟩:∃V,W0.alloc (.cells #[B.kb] 114)=V:=⟨_,rfl⟩;have xr:Ext W0 Wr:=by rw[←hWr];exact(Zy2 _).alloc _
 have cy:Wr.cell? ⟨z+1,0,none⟩=some (B.kb:Value):=by rw[←hWr,←sz];exact Zg W0 _ _ 0
 have szr:Wr.heap.size=z+2:=by rw[←hWr];simp[sz]
 have XR:=Za (x0.trans xr);have K:=Za (And.intro (xr.cell k0) (xr.frozenAt k0 f0));have ST:=Za (Ed 4 (by decide) (z+2) (z+1) Wr (H.out.ext XR.out) (by omega) (by omega) (by omega) cy);rw[hWr];clear cy hWr k0 f0 x0 xr hW0 AC;refine wpIn_rangeFunc_ownG rfl (by decide) (gf:=311) (lb:=#[.pointer (some ⟨z+1,0,none⟩)]) rfl trivial (enters_of func311 (by kernel_rfl) rfl)
  ST.out (fun h k=>h.trans k) (belowK_b (by omega)) (Below.refl _ _) (fun _=>rfl)
  (fun pre W=>pre=[]∧Below Wr.heap.size Wr W)
  (fun cc q W=>∃(x:Ni m.hs),q=[x]∧cc=.ret∧W.cell? z=some (.bool false)∧Ext w W)
  (OwnFrom.and (Own.from (fun _ _ _ _ hs _ _=>hs) _) (ownFrom_below (Zy1 _) (Zy1 _)))
  (fun cc s A A' row hs hg hr=>by
   obtain⟨x,e1,e2,e4,e6⟩:=hs;exact⟨x,e1,e2,cell_kept e4 hg (fun r e=>(hr r e).2),Chg.ext ((Zy3 e6).past hg (fun r e=>⟨by have:=(hr r e).1;omega,(hr r e).2⟩))⟩)
  ⟨rfl,Below.refl _ _⟩
  (fun x=>{ tmps:=#[(B.kb:Value),undef,(z:Value),(B.kb:Value),.bool true,.bool false,(B.kb:Value),.func (.func 311) #[] #[.pointer (some ⟨z+1,0,none⟩)],.int .i64 (x.1:Int),undef,undef,undef,undef,undef,undef,undef,undef,undef,undef,undef,undef,undef,undef],defers:=[] }) ?assign ?body ?done ?stop
 case assign=>
  intro l x W K hK;simp only[Zwk]
  gi_wp2
  simpa using hK
 case body=>
  rintro ll pre x W ⟨rfl,hB⟩ hlen;have hB':Ext Wr W:=hB;have k0:=hB'.cell K.out.1;have f0:=hB'.frozenAt K.out.1 K.out.2;have HB:=Za (XR.out.trans hB');clear hB hB'
  gi_wp2
  exact⟨(KeepsOthers.setCell _ _ _).from _,⟨x,rfl,rfl,Zyz _ _ _ k0,HB.out.setCell (p:=⟨z,0,none⟩) (by show w.heap.size≤z;omega) _⟩⟩
 case stop=>
  rintro D cc pre W hD ⟨j,hj,hpre⟩ ⟨x,rfl,rfl,e4,e6⟩ hK;have hf:=Zf1 x.2.1 x.2.2 (Nj hpre.symm);have hr:=HR.out;unfold Tz at hr;rw[hf] at hr;simp at hr;subst hr;have E:=Za (And.intro e4 e6);clear e4 e6 hf hpre hj
  gi_wp2
  refine⟨by simp,.inl ⟨_,_,rfl,run_takeDeferred hK,?_⟩⟩;obtain⟨e4,e6⟩:=E.out;have e1:=cell_kept e4 (grownBy_putObj' _ D (.deferred none)) (fun r e=>by cases e;exact⟨_,hK,rfl⟩);refine⟨.bool false,?_,rfl,Chg.ext (((Zy3 (P:=fun _=>False) e6).new ((Chg.refl _ W).putObj (by show w.heap.size≤D;omega) _)))⟩;simp[results,f262,go_sem,e1]
 case done=>
  rintro D ys W hD rfl ⟨Ce,hB⟩ hK;have hf:=Zf2 Ce;have hB':Ext Wr W:=hB;have hr:=HR.out;unfold Tz at hr;rw[hf,HA.out] at hr;simp only[Option.isNone_none,Bool.true_and] at hr;have xw:=XR.out.trans hB';obtain⟨R,hR⟩:=Zb (Xy c t l);obtain⟨q,hq⟩:=Zb (N5 m.g);obtain⟨a,ha⟩:=Zb (m.root);have RO:=Za (fun V (x:Ext w V)=>Fy (H.out.ext x) hR);have EM:Hid (∀V,Ext w V→Calls prog 302 #[B.gb] V fun e V'=>e=.returned (.bool q)∧Ext V V'):=Za fun V x=>by
   obtain⟨f,hg⟩:=(H.out.ext x).grey;exact Zh7 q hg hq
  have c5:w.cell? ⟨B.kb,5,none⟩=some (B.gb:Value):=H.out.box.c 5 _ rfl;have c7:w.cell? ⟨B.kb,7,none⟩=some (.int .i64 (m.root:Int)):=H.out.box.c 7 _ rfl;rw[ha] at c7;rw[hR,hq,ha] at hr;have k0:=hB'.cell K.out.1;have f0:=hB'.frozenAt K.out.1 K.out.2;have KK:=Za (And.intro k0 f0);have RO2:Hid (Calls prog 301 #[B.kb] W.drew fun e V'=>e=.returned (.int .i64 R)∧Ext W V'∧Ext w V'∧V'.cell? ⟨B.kb,5,none⟩=some (B.gb:Value)∧V'.cell? ⟨B.kb,7,none⟩=some (.int .i64 (a:Int))∧V'.cell? z=some (.bool false)∧V'.frozen? z=false):=
   Za ((RO.out _ xw.drew).mono fun e V' ⟨p1,p2⟩=>by
    have g:=(Zy2 W).drew.trans p2;have g':=xw.trans g;exact⟨p1,g,g',g'.cell c5,g'.cell c7,g.cell KK.out.1,g.frozenAt KK.out.1 KK.out.2⟩)
  have EM2:Hid (∀V,Ext W V→Calls prog 302 #[B.gb] V fun e V'=>e=.returned (.bool q)∧Ext W V'∧V'.cell? z=some (.bool false)∧V'.frozen? z=false):=
   Za fun V x=>(EM.out V (xw.trans x)).mono fun e V' ⟨p1,p2⟩=>⟨p1,x.trans p2,(x.trans p2).cell KK.out.1,(x.trans p2).frozenAt KK.out.1 KK.out.2⟩
  have c5':=xw.cell c5;have c7':=xw.cell c7;have XW:=Za xw;have HK:=Za hK;have FIN:Hid (∀V (r:Bool),Ext W V→V.cell? z=some (.bool false)→(V.setCell z (.bool r)).heap[D]?=some (.deferred (some []))∧((V.setCell z (.bool r)).putObj D (.deferred none)).cell? z=some (.bool r)∧Ext w ((V.setCell z (.bool r)).putObj D (.deferred none))):=Za fun V r x k=>by
   have d1:=Zyz V ⟨z,0,none⟩ (.bool r) k;have hd:=(KeepsOthers.setCell V ⟨z,0,none⟩ (.bool r)).same D _ ((Below.block x D (Array.getElem?_eq_some_iff.1 hK).1).trans hK) rfl;exact⟨hd,cell_kept d1 (grownBy_putObj' _ D (.deferred none)) (fun r e=>by cases e;exact⟨_,hd,rfl⟩),
    Chg.ext (((Zy3 (P:=fun _=>False) (xw.trans x)).setCell (.inr (by show w.heap.size≤z;omega)) _).new ((Chg.refl _ _).putObj (by show w.heap.size≤D;omega) _))⟩
  clear c5 c7 RO EM hB hB' xw hf Ce hq hR ha hK;by_cases e:a=R
  ·subst e;have hr':q=r:=by simpa using hr
   subst hr';clear hr
   gi_wp2
   refine Vb ?_
   gi_region_with (first
    | (refine⟨trivial,?_⟩;gi_at_call 301;with_reducible refine(callsIn_wide.2 RO2.out).mono ?_;rintro e V1 ⟨rfl,x1,x1',c5',c7',k0,f0⟩)
    | (refine⟨trivial,?_⟩;gi_at_call 302;with_reducible refine(callsIn_wide.2 (EM2.out _ x1)).mono ?_;rintro e V2 ⟨rfl,x2,k0,f0⟩))
   all_goals
    refine NoPanic.normal ?_
    gi_wp2
    obtain⟨e0,e1,e2⟩:=FIN.out V2 q x2 k0;refine⟨by simp,.inl ⟨_,_,rfl,run_takeDeferred e0,?_⟩⟩;refine⟨.bool q,?_,rfl,e2⟩;simp[results,f262,go_sem,e1]
  ·have hr':r=false:=by rw[←hr];simp[e]
   subst hr';have fw:Fence.wide.fn 302:=trivial;have te:decide (a=R)=false:=Zyx e;have te':(a==R)=false:=by simpa using e
   have te2:((a:Int)==(R:Int))=false:=by simp;omega
   clear hr e
   gi_wp2
   refine Vb ?_
   first|gi_region_with (first
    | (refine⟨trivial,?_⟩;gi_at_call 301;with_reducible refine(callsIn_wide.2 RO2.out).mono ?_;rintro e V1 ⟨rfl,x1,x1',c5',c7',k0,f0⟩))|fail
   all_goals
    refine NoPanic.normal ?_
    gi_wp2
    obtain⟨e0,e1,e2⟩:=FIN.out V1 false x1 k0;refine⟨by simp,.inl ⟨_,_,rfl,run_takeDeferred e0,?_⟩⟩;refine⟨.bool false,?_,rfl,e2⟩;simp[results,f262,go_sem,e1]
theorem Zm0{r:Bool}(h:Ye w B c t n gens ws l ms m)(hr:Tz c t l m=r) :
  Calls prog 262 #[B.kb] w fun e w'=>e=.returned (.bool r)∧Ext w w':=by
 cases ha:m.act
 ·have hr':=hr;unfold Tz at hr';rw[ha] at hr';simp at hr';subst hr';exact Zbi h ha
 ·exact Zbj h ha hr
end
section
variable{w w':World}{B:CB}{c:Zh}{t n:Nat}{gens wk:Int}{y:CY}
def ycs(B:CB)(wk:Int)(y:CY):List Value:=[(B.pb:Value),(B.ab:Value),(B.bb:Value),(B.tb:Value),(B.nb:Value),(B.kb:Value),(B.sb:Value),.int .i64 wk,.int .u8 (y.ph:Int),.int .i64 (y.steps:Int)]
structure Gn(w:World)(B:CB)(c:Zh)(t n:Nat)(gens wk:Int)(y:CY):Prop where
 i:Vl w B c t n gens y
 box:Zn w B.yb (ycs B wk y)
 st:y.steps<1099511627776
 ph:y.ph≤3
structure Vw(w:World)(B:CB)(c:Zh)(t n:Nat)(gens wk:Int)(y:CY):Prop extends Gn w B c t n gens wk y where
 le:y.m.steps≤y.steps
theorem Vw.chg{P:Nat→Prop}(h:Vw w B c t n gens wk y)(hx:Chg P w w')(hP:∀k,k<B.a9→¬P k):Vw w' B c t n gens wk y:=by
 obtain⟨o1,o2,o3,o4,o5,o6,o7,o8,o9,o10⟩:=h.i.k.ord;have p:=h.i.o9;exact⟨⟨h.i.chg hx (fun k _ hk=>hP k hk),h.box.chg hx (hP _ (by omega)),h.st,h.ph⟩,h.le⟩
theorem Vw.ext(h:Vw w B c t n gens wk y)(hx:Ext w w'):Vw w' B c t n gens wk y:=h.chg (P:=fun _=>False) (Zy3 hx) (fun _ _ a=>a)
theorem CB.inCy{B:CB}(h:B.Ord)(k:Nat):B.inP k→B.cyP k:=fun q=>by have:=h.p;unfold CB.inP at q;unfold CB.cyP;omega
theorem Gn.inTo{y':CY}(h:Gn w B c t n gens wk y)(hi:Vl w' B c t n gens y')(hx:Chg B.inP w w')(e1:y'.ph=y.ph)(e2:y'.steps=y.steps):Gn w' B c t n gens wk y'∧Chg B.cyP w w':=by
 have o:=h.i.k.ord;refine⟨⟨hi,?_,by rw[e2];exact h.st,by rw[e1];exact h.ph⟩,hx.mono (CB.inCy o)⟩;have e:ycs B wk y'=ycs B wk y:=by unfold ycs;rw[e1,e2]
 rw[e];exact h.box.chg hx (fun q=>by have:=o.p;have:=o.m;unfold CB.inP at q;omega)
theorem Vw.inTo{y':CY}(h:Vw w B c t n gens wk y)(hi:Vl w' B c t n gens y')(hx:Chg B.inP w w')(e1:y'.ph=y.ph)(e2:y'.steps=y.steps)(le:y'.m.steps≤y'.steps):Vw w' B c t n gens wk y'∧Chg B.cyP w w':=by
 obtain⟨a,b⟩:=h.toGn.inTo hi hx e1 e2;exact⟨⟨a,le⟩,b⟩
theorem Vl.same{y':CY}(h:Vl w B c t n gens y)(e1:y'.ws=y.ws)(e2:y'.bs=y.bs)(e3:y'.l=y.l)(e4:y'.ms=y.ms)(e5:y'.m=y.m)(e6:y'.s=y.s):Vl w B c t n gens y':=
 ⟨by rw[e1,e3,e4,e5];exact h.k,by rw[e2];exact h.ar,by rw[e6];exact h.box,by rw[e6];exact h.row,h.o9,by rw[e6];exact h.dl,by rw[e6];exact h.sl,h.top⟩
theorem Vl.offY{P:Nat→Prop}(h:Vl w B c t n gens y)(hx:Chg P w w')(hP:∀k,P k→k=B.yb):Vl w' B c t n gens y:=h.chg hx (fun k hk _ q=>hk (hP k q))
theorem Vw.phTo(h:Vw w B c t n gens wk y){p:Nat}(hp:p≤3):Vw (w.setCell ⟨B.yb,8,none⟩ (.int .u8 (p:Int))) B c t n gens wk { y with ph:=p }∧Chg B.cyP w (w.setCell ⟨B.yb,8,none⟩ (.int .u8 (p:Int))):=by
 have o:=h.i.k.ord;have p9:=h.i.o9;have hx:=Wn w B.yb 8 (.int .u8 (p:Int));refine⟨⟨⟨(h.i.offY hx fun k q=>q).same rfl rfl rfl rfl rfl rfl,h.box.set (i:=8) (by simp[ycs]) (.int .u8 (p:Int)),h.st,hp⟩,h.le⟩,hx.mono fun k q=>.inr ?_⟩;have:=o.p;have:=o.b;have:=o.a;have:=o.t;have:=o.n;have:=o.k;have:=o.c;have:=o.h;omega
theorem Gn.stTo(h:Gn w B c t n gens wk y){k:Nat}(hl:y.m.steps≤k)(hk:k<1099511627776):Vw (w.setCell ⟨B.yb,9,none⟩ (.int .i64 (k:Int))) B c t n gens wk { y with steps:=k }∧Chg B.cyP w (w.setCell ⟨B.yb,9,none⟩ (.int .i64 (k:Int))):=by
 have o:=h.i.k.ord;have p9:=h.i.o9;have hx:=Wn w B.yb 9 (.int .i64 (k:Int));refine⟨⟨⟨(h.i.offY hx fun k q=>q).same rfl rfl rfl rfl rfl rfl,h.box.set (i:=9) (by simp[ycs]) (.int .i64 (k:Int)),hk,h.ph⟩,hl⟩,hx.mono fun k q=>.inr ?_⟩;have:=o.p;have:=o.b;have:=o.a;have:=o.t;have:=o.n;have:=o.k;have:=o.c;have:=o.h;omega
theorem Xc(h:Vw w B c t n gens wk y):Calls prog 44 #[B.yb] w fun e w'=>e=.returned (.bool false)∧w=w':=by
 have c0:=h.box.c 0 _ rfl;clear h;go_enter func44,ntmps44;go_wp2;go_ret;exact⟨rfl,rfl⟩
theorem Zbk{p:Nat}(h:Vw w B c t n gens wk y)(hp:y.ph=p):Calls prog 225 #[B.yb] w fun e w'=>e=.returned (.int .u8 (p:Int))∧w=w':=by
 have c8:=h.box.c 8 _ rfl;rw[hp] at c8;have H:=Za h;clear h hp;go_enter func225,ntmps225;go_wp2_with fail;refine(Xc H.out).zz ?_;go_wp2;go_ret;exact⟨rfl,rfl⟩
theorem Zm1{p:Nat}(h:Vw w B c t n gens wk y)(hp:y.steps=p):Calls prog 20 #[B.yb] w fun e w'=>e=.returned (.int .i64 (p:Int))∧w=w':=by
 have c8:=h.box.c 9 _ rfl;rw[hp] at c8;have H:=Za h;clear h hp;go_enter func20,ntmps20;go_wp2_with fail;refine(Xc H.out).zz ?_;go_wp2;go_ret;exact⟨rfl,rfl⟩
theorem Og(h:Vw w B c t n gens wk y):Calls prog 15 #[B.yb] w fun e w'=>e=.returned (B.pb:Value)∧w=w':=by
 have c8:=h.box.c 0 _ rfl;have H:=Za h;clear h;go_enter func15,ntmps15;go_wp2_with fail;refine(Xc H.out).zz ?_;go_wp2;go_ret;exact⟨rfl,rfl⟩
theorem Rm(h:Vw w B c t n gens wk y):Calls prog 22 #[B.yb] w fun e w'=>e=.returned (B.ab:Value)∧w=w':=by
 have c8:=h.box.c 1 _ rfl;have H:=Za h;clear h;go_enter func22,ntmps22;go_wp2_with fail;refine(Xc H.out).zz ?_;go_wp2;go_ret;exact⟨rfl,rfl⟩
theorem Oh(h:Vw w B c t n gens wk y):Calls prog 82 #[B.yb] w fun e w'=>e=.returned (B.bb:Value)∧w=w':=by
 have c8:=h.box.c 2 _ rfl;have H:=Za h;clear h;go_enter func82,ntmps82;go_wp2_with fail;refine(Xc H.out).zz ?_;go_wp2;go_ret;exact⟨rfl,rfl⟩
theorem Sb(h:Vw w B c t n gens wk y):Calls prog 17 #[B.yb] w fun e w'=>e=.returned (B.tb:Value)∧w=w':=by
 have c8:=h.box.c 3 _ rfl;have H:=Za h;clear h;go_enter func17,ntmps17;go_wp2_with fail;refine(Xc H.out).zz ?_;go_wp2;go_ret;exact⟨rfl,rfl⟩
theorem Jq(h:Vw w B c t n gens wk y):Calls prog 84 #[B.yb] w fun e w'=>e=.returned (B.nb:Value)∧w=w':=by
 have c8:=h.box.c 4 _ rfl;have H:=Za h;clear h;go_enter func84,ntmps84;go_wp2_with fail;refine(Xc H.out).zz ?_;go_wp2;go_ret;exact⟨rfl,rfl⟩
theorem Zm2(h:Vw w B c t n gens wk y)(ha:y.ph=0→y.m.act=false)(hf:y.m.fl+1<1099511627776):Calls prog 347 #[B.yb] w fun e w'=>(∃k:Int,e=.returned (.int .i64 k))∧Vw w' B c t n gens wk (Tf c t y)∧Chg B.cyP w w':=by
 have c8:=h.box.c 8 _ rfl;have c5:=h.box.c 5 _ rfl;have c9:=h.box.c 9 _ rfl;have f8:=h.box.f 8;have f9:=h.box.f 9;have H:=Za h;unfold Tf;by_cases hp:y.ph=0
 ·rw[if_pos hp];rw[hp] at c8;obtain⟨k1,x1⟩:=h.phTo (p:=1) (by decide);have ST:Hid (∀W,Vl W B c t n gens y→Calls prog 372 #[B.kb] W fun e W'=>e=.returned (.int .i64 0)∧Vl W' B c t n gens { y with m:=Rd c t y.m }∧Chg B.inP W W'):=
   Za fun W hi=>(Zil hi.k (ha hp) hf).mono fun e W' q=>⟨q.1,hi.mkTo q.2.1 q.2.2⟩
  obtain⟨W2,hW2⟩:=Zb ((w.setCell ⟨B.yb,8,none⟩ (.int .u8 1)).setCell ⟨B.yb,9,none⟩ (.int .i64 0));have hx2:Chg (fun j=>j=B.yb) w W2:=by rw[←hW2];exact(Wn w B.yb 8 _).trans (Wn _ B.yb 9 _)
  have hb2:Zn W2 B.yb (ycs B wk { y with ph:=1,steps:=0 }):=by
   rw[←hW2];exact(h.box.set (i:=8) (by simp[ycs]) (.int .u8 1)).set (i:=9) (by simp[ycs]) (.int .i64 0)
  have I2:=Za (h.i.offY hx2 fun k q=>q);have O:=Za h.i.k.ord;have P9:=Za h.i.o9;have c5':W2.cell? ⟨B.yb,5,none⟩=some (B.kb:Value):=hb2.c 5 _ rfl;have X2:=Za (And.intro hx2 hb2);clear h hx2 hb2 k1 x1 ha hf;go_enter func347,ntmps347;go_wp2_with fail;refine(Xc H.out).zz ?_;go_wp2_with fail;refine(ST.out _ I2.out).mono ?_;rintro e w2 ⟨rfl,i3,x3⟩;go_wp2;go_ret;obtain⟨x2,b2⟩:=X2.out;have o:=O.out;have p9:=P9.out;refine⟨⟨_,rfl⟩,⟨⟨i3.same rfl rfl rfl rfl rfl rfl,b2.chg x3 (fun q=>by have:=o.p;have:=o.m;unfold CB.inP at q;omega),by show 0<1099511627776;decide,by show 1≤3;decide⟩,Zy1 _⟩,?_⟩;refine(x2.mono fun k q=>.inr ?_).trans (x3.mono (CB.inCy o));have:=o.p;have:=o.b;have:=o.a;have:=o.t;have:=o.n;have:=o.k;have:=o.c;have:=o.h;have q1:k=B.yb:=q;omega
 ·rw[if_neg hp];obtain⟨p,hpp⟩:=Zb (y.ph);rw[hpp] at c8 hp;have tp:((p:Int) != 0)=true:=by simp;omega
  clear h hpp hp ha hf;go_enter func347,ntmps347;go_wp2_with fail;refine(Xc H.out).zz ?_;go_wp2;go_ret;exact⟨⟨_,rfl⟩,H.out,Chg.refl _ _⟩
theorem Zm3{s:Int}(h:Vw w B c t n gens wk y):Calls prog 279 #[B.yb,.int .i64 s] w fun e w'=>(∃k:Int,e=.returned (.int .i64 k))∧Vw w' B c t n gens wk (Mc c t y s)∧Chg B.cyP w w':=by
 have c5:=h.box.c 5 _ rfl;obtain⟨p,k,hk⟩:∃p k,Iv y.m.col s=(p,k):=⟨_,_,rfl⟩;have e:Mc c t y s={ y with m:=Ta c t y.m s }:=by
  unfold Mc Ta;split<;>rfl
 have es:(Ta c t y.m s).steps=y.m.steps:=by
  unfold Ta Yf;split
  ·split<;>rfl
  ·rfl
 rw[e];have BL:Hid (Calls prog 322 #[B.kb,.int .i64 s] w fun e W'=>e=.returned (.int .i64 k)∧Vw W' B c t n gens wk { y with m:=Ta c t y.m s }∧Chg B.cyP w W'):=
  Za ((Zin h.i.k hk).mono fun e W' q=>by
   obtain⟨a,b⟩:=h.i.mkTo q.2.1 q.2.2;exact⟨q.1,h.inTo a b rfl rfl (by (try simp only);rw[es];exact h.le)⟩)
 have H:=Za h;clear h e es hk;go_enter func279,ntmps279;go_wp2_with fail;refine(Xc H.out).zz ?_;go_wp2_with fail;refine BL.out.mono ?_;rintro e w1 ⟨rfl,a,b⟩;go_wp2;go_ret;exact⟨⟨_,rfl⟩,a,b⟩
theorem Ziw{m:MK}{s:Int}(h:¬(0≤s∧s<(nS c t:Int))):Xi c t n m s=m:=by unfold Xi;rw[if_neg (fun q=>h ⟨q.1,q.2.1⟩)]
theorem Mo{s:Int}(h:Vw w B c t n gens wk y):Calls prog 284 #[B.yb,.int .i64 s] w fun e w'=>(∃k:Int,e=.returned (.int .i64 k))∧Vw w' B c t n gens wk (Y5 c t n y s)∧Chg B.cyP w w':=by
 have c5:=h.box.c 5 _ rfl;have c8:=h.box.c 8 _ rfl;obtain⟨p,k,hk⟩:∃p k,Iv y.m.col s=(p,k):=⟨_,_,rfl⟩;have cl:y.m.col.length=nS c t:=h.i.k.ok.cl;have OF:=Za (I7 h.i.k hk);have es:(U9 c t n y.m s).steps=y.m.steps:=by
  unfold U9;split
  ·exact(Wx y.m s).2.2.2.1
  ·rfl
 have SH:Hid (Calls prog 329 #[B.kb,.int .i64 s] w fun e W'=>e=.returned (.int .i64 k)∧Vw W' B c t n gens wk { y with m:=U9 c t n y.m s }∧Chg B.cyP w W'):=
  Za ((Zim h.i.k hk).mono fun e W' q=>by
   obtain⟨a,b⟩:=h.i.mkTo q.2.1 q.2.2;exact⟨q.1,h.inTo a b rfl rfl (by (try simp only);rw[es];exact h.le)⟩)
 have H:=Za h;by_cases hin:0≤s∧s<(nS c t:Int)
 ·have hk0:k=0:=by unfold Iv at hk;rw[cl,if_pos hin] at hk;cases hk;rfl
  subst hk0;by_cases hp:y.ph=1
  ·rw[hp] at c8;have e:Y5 c t n y s={ y with m:=U9 c t n y.m s }:=by
    unfold Y5 U9;by_cases ha:y.m.act=true
    ·rw[if_pos ⟨hp,ha⟩,if_pos ha]
    ·rw[if_neg (fun q=>ha q.2),if_neg ha]
   rw[e];clear h e es hk hin hp cl;go_enter func284,ntmps284;go_wp2_with fail;refine(Xc H.out).zz ?_;go_wp2_with fail;refine(OF.out).zz ?_;go_wp2_with fail;refine SH.out.mono ?_;rintro e w1 ⟨rfl,a,b⟩;go_wp2;go_ret;exact⟨⟨_,rfl⟩,a,b⟩
  ·have e:Y5 c t n y s=y:=by unfold Y5;rw[if_neg (fun q=>hp q.1)]
   rw[e];obtain⟨q,hq⟩:=Zb (y.ph);rw[hq] at c8 hp;have tp:((q:Int) != 1)=true:=by simp;omega
   clear h e es hk hin hp cl hq;go_enter func284,ntmps284;go_wp2_with fail;refine(Xc H.out).zz ?_;go_wp2_with fail;refine(OF.out).zz ?_;go_wp2;go_ret;exact⟨⟨_,rfl⟩,H.out,Chg.refl _ _⟩
 ·have hk0:k=2:=by unfold Iv at hk;rw[cl,if_neg hin] at hk;cases hk;rfl
  subst hk0;have e:Y5 c t n y s=y:=by
   unfold Y5;split
   ·rw[Ziw hin]
   ·rfl
  rw[e];clear h e es hk hin cl;go_enter func284,ntmps284;go_wp2_with fail;refine(Xc H.out).zz ?_;go_wp2_with fail;refine(OF.out).zz ?_;go_wp2;go_ret;exact⟨⟨_,rfl⟩,H.out,Chg.refl _ _⟩
theorem Zq5(h:Vw w B c t n gens wk y):Calls prog 224 #[B.yb] w fun e w'=>e=.returned (.tuple #[])∧Vw w' B c t n gens wk (Mb c t y)∧Chg B.cyP w w':=by
 have c5:=h.box.c 5 _ rfl;have c6:=h.box.c 6 _ rfl;have c8:=h.box.c 8 _ rfl;have H:=Za h;have f8:=h.box.f 8;unfold Mb;by_cases h1:y.ph=1
 ·rw[h1] at c8;obtain⟨r,hr⟩:=Zb (Tz c t y.l y.m);have DN:=Za (Zm0 h.i.k hr);cases r
  ·rw[if_neg (fun q=>by rw[hr] at q;exact absurd q.2 (by simp)),if_neg (by omega)];clear h h1 hr;go_enter func224,ntmps224;go_wp2_with fail;refine DN.out.ze fun w1 x1=>?_;have c8:=x1.cell c8;have c6:=x1.cell c6;go_wp2
   go_end0
   exact⟨rfl,H.out.ext x1,Zy3 x1⟩
  ·rw[if_pos ⟨h1,hr⟩];have SS:Hid (∀W,Vw W B c t n gens wk y→Calls prog 263 #[B.sb] W fun e W'=>(∃k:Int,e=.returned (.int .i64 k))∧Vw W' B c t n gens wk { y with s:={ y.s with act:=true } }∧Chg B.cyP W W'):=
    Za fun W hW=>(Zdy hW.i).mono fun e W' q=>⟨q.1,hW.inTo q.2.1 q.2.2 rfl rfl hW.le⟩
   obtain⟨d,hd⟩:∃d,Qn { y.s with act:=true }=d:=⟨_,rfl⟩;have SD:Hid (∀W,Vw W B c t n gens wk { y with s:={ y.s with act:=true },ph:=2 }→Calls prog 264 #[B.sb] W fun e W'=>e=.returned (.bool d)∧Ext W W'):=
    Za fun W hW=>Rl hW.i hd
   rw[hd];have HY:=Za h1;clear h h1 hr hd;go_enter func224,ntmps224;go_wp2_with fail;refine DN.out.ze fun w1 x1=>?_;have c8:=x1.cell c8;have c6:=x1.cell c6;go_wp2_with fail;refine(SS.out _ (H.out.ext x1)).mono ?_;rintro e w2 ⟨⟨k,rfl⟩,H2,x2⟩;have c8:w2.cell? ⟨B.yb,8,none⟩=some (.int .u8 ((1:Nat):Int)):=by have:=H2.box.c 8 _ rfl;rw[show(({ y with s:={ y.s with act:=true } }:CY).ph)=1 from HY.out] at this;exact this
   have f8:=H2.box.f 8;obtain⟨H3,x3⟩:=H2.phTo (p:=2) (by decide);have h3:=Za H3;have hx3:=Za x3;have hx2:=Za x2;have hx1:=Za x1;have c6:(w2.setCell ⟨B.yb,8,none⟩ (.int .u8 2)).cell? ⟨B.yb,6,none⟩=some (B.sb:Value):=H3.box.c 6 _ rfl;clear H3 x3 x2 H2;go_wp2_with fail;refine(SD.out _ h3.out).ze fun w4 x4=>?_;have H4:=Za (h3.out.ext x4);have f8:=H4.out.box.f 8;have X4:=Za ((Zy3 hx1.out).trans (hx2.out.trans (hx3.out.trans (Zy3 x4))));obtain⟨H5,x5⟩:=H4.out.phTo (p:=3) (by decide);have h5:=Za H5;have hx5:=Za x5;have c8:=H4.out.box.c 8 _ rfl;clear H5 x5 x4 x1;cases d
   ·go_wp2
    go_end0
    exact⟨rfl,H4.out,X4.out⟩
   ·go_wp2
    go_end0
    exact⟨rfl,h5.out,X4.out.trans hx5.out⟩
 ·rw[if_neg (fun q=>h1 q.1)];by_cases h2:y.ph=2
  ·rw[h2] at c8;obtain⟨d,hd⟩:=Zb (Qn y.s);have SD:=Za (Rl h.i hd);cases d
   ·rw[if_neg (fun q=>by rw[hd] at q;exact absurd q.2 (by simp))];clear h h1 h2 hd;go_enter func224,ntmps224;go_wp2_with fail;refine SD.out.ze fun w1 x1=>?_;go_wp2
    go_end0
    exact⟨rfl,H.out.ext x1,Zy3 x1⟩
   ·rw[if_pos ⟨h2,hd⟩];clear h h1 h2 hd;go_enter func224,ntmps224;go_wp2_with fail;refine SD.out.ze fun w1 x1=>?_;have H1:=Za (H.out.ext x1);obtain⟨H5,x5⟩:=H1.out.phTo (p:=3) (by decide);have h5:=Za (And.intro H5 ((Zy3 x1).trans x5));have f8:=H1.out.box.f 8;have c8:=H1.out.box.c 8 _ rfl;clear H5 x5 x1;go_wp2
    go_end0
    exact⟨rfl,h5.out.1,h5.out.2⟩
  ·rw[if_neg (fun q=>h2 q.1)];obtain⟨p,hp⟩:=Zb (y.ph);rw[hp] at c8 h1 h2;have t1:((p:Int)==1)=false:=by simp;omega
   have t2:((p:Int)==2)=false:=by simp;omega
   clear h h1 h2 hp;go_enter func224,ntmps224;go_wp2
   go_end0
   exact⟨rfl,H.out,Chg.refl _ _⟩
theorem Zf3{r:CY × Bool}(h:Gn w B c t n gens wk r.1)(hl:r.1.m.steps≤r.1.steps+(if r.2 then 1 else 0))(hs:r.1.steps+1<1099511627776):Calls prog 188 #[B.yb,.bool r.2] w fun e w'=>e=.returned (.bool r.2)∧Vw w' B c t n gens wk (Nc c t r).1∧Chg B.cyP w w':=by
 have c9:=h.box.c 9 _ rfl;have f9:=h.box.f 9;obtain⟨z,b⟩:=r;unfold Nc;simp only at c9 hs hl ⊢;cases b
 ·rw[if_neg (by simp)];have H:Hid (Vw w B c t n gens wk z):=Za ⟨h,by simpa using hl⟩;clear h hl;go_enter func188,ntmps188;go_wp2;go_ret;exact⟨rfl,H.out,Chg.refl _ _⟩
 ·rw[if_pos rfl];obtain⟨k,hk⟩:=Zb (z.steps);have le:z.m.steps≤z.steps+1:=by simpa using hl
  obtain⟨H1,x1⟩:=h.stTo (k:=k+1) (by (try simp only);omega) (by omega);rw[hk] at c9 ⊢;have GO:=Za (Zq5 H1);have X1:=Za x1;have hw:IntKind.i64.wrap ((k:Int)+1)=((k+1:Nat):Int):=by rw[IntWalk.i64_in _ (by omega)];omega
  simp only at GO;obtain⟨K,hK⟩:=Zb (k+1);rw[hK] at hw GO X1 ⊢;clear h H1 x1 hk le hl hs hK;go_enter func188,ntmps188;go_wp2_with fail;refine GO.out.mono ?_;rintro e w2 ⟨rfl,a,b⟩;go_wp2;go_ret;exact⟨rfl,a,X1.out.trans b⟩
theorem Zix:Zi prog 23:=Zi.mk func23 (by kernel_rfl) rfl
theorem Ziy:Zi prog 270:=Zi.mk func270 (by kernel_rfl) rfl
theorem Ziz{g f0 f1:Nat}{p0 p1:Value}{s:Int}{r0 r1:Bool}(c0:w.cell? g=some (.func (.func f0) #[p0] #[]))(c1:w.cell? ⟨g,1,none⟩=some (.func (.func f1) #[] #[p1]))
  (e0:Zi prog f0) (e1:Zi prog f1) (h0:Calls prog f0 #[p0,.int .i64 s] w fun e w'=>e=.returned (.bool r0)∧w=w') (h1:Calls prog f1 #[.int .i64 s,p1] w fun e w'=>e=.returned (.bool r1)∧w=w') :
  Calls prog 269 #[.int .i64 s,.slice (some ⟨g,0,none⟩) 2 2] w fun e w'=>e=.returned (.bool (r0&&r1))∧w=w':=by
 unfold Zi at e0 e1;have H0:=Za h0;have H1:=Za h1;clear h0 h1;go_enter func269,ntmps269;go_wp2_with fail
 go_loopw [9] (fun iv wr=>∃k:Nat,k≤2∧iv=.int .i64 k∧Hid (1≤k→r0=true)∧Hid (2≤k→r1=true)∧Hid (wr=w)) (fun iv _=>2-(intOf iv).toNat)
 case atStart=>exact⟨0,by decide,rfl,Za (fun h=>absurd h (by decide)),Za (fun h=>absurd h (by decide)),Za rfl⟩
 case round=>
  obtain⟨k,hk,rfl,K0,K1,HW⟩:=hrel;obtain rfl:=HW.out;rcases (by omega:k=0∨k=1∨k=2) with rfl|rfl|rfl
  ·clear K0 K1;go_wp2_with fail;refine H0.out.zz ?_;cases r0
   ·go_wp2;go_ret;exact⟨rfl,rfl⟩
   ·go_wp2;go_roundw
    case rel=>exact⟨1,by decide,rfl,Za (fun _=>trivial),Za (fun h=>absurd h (by decide)),Za trivial⟩
    case measure=>simp[intOf]
  ·have E0:=K0.out (by decide);subst E0;clear K0 K1;go_wp2_with fail;refine H1.out.zz ?_;cases r1
   ·go_wp2;go_ret;exact⟨rfl,rfl⟩
   ·go_wp2;go_roundw
    case rel=>exact⟨2,by decide,rfl,Za (fun _=>trivial),Za (fun _=>trivial),Za trivial⟩
    case measure=>simp[intOf]
  ·have E0:=K0.out (by decide);have E1:=K1.out (by decide);subst E0 E1;clear K0 K1;go_wp2;go_ret;exact⟨rfl,rfl⟩
theorem Zd5{z:Nat}{s p k:Int}{r:Bool}(h:Vl w B c t n gens y)(hz:w.cell? z=some (B.sb:Value))(hk:Iv y.m.col s=(p,k))(hr:(p==0)=r) :
  Calls prog 270 #[.int .i64 s,z] w fun e w'=>e=.returned (.bool r)∧w=w':=by
 have c2:=h.box.c 2 _ rfl;have OF:=Za (I7 h.k hk);clear h hk;go_enter func270,ntmps270;go_wp2_with fail;refine(OF.out).zz ?_;go_wp2;go_ret;exact⟨rfl,rfl⟩
theorem Zm4(h:¬(y.s.act=true∧y.s.at_≠y.s.d.length)):sStep c t y=(y,false):=by unfold sStep;rw[if_neg h]
theorem Bc(h:Vl w B c t n gens y)(hn:¬(y.s.act=true∧y.s.at_≠y.s.d.length)):Calls prog 229 #[B.sb] w fun e w'=>e=.returned (.bool false)∧Ext w w':=by
 obtain⟨z,hz⟩:=Zb (w.heap.size);obtain⟨W0,hW0⟩:=Zb (w.alloc (.cells #[B.sb] 115));have x0:Ext w W0:=by rw[←hW0];exact(Zy2 _).alloc _
 have k0:W0.cell? z=some (B.sb:Value):=by rw[←hW0,←hz];exact Zr w _ _
 obtain⟨a,ha⟩:=Zb (y.s.act);have AC:=Za (Pn (h.ext x0) ha);cases a
 ·clear h hn;go_enter func229,ntmps229;go_wp2_with fail;refine AC.out.zz ?_;go_wp2;go_ret;exact⟨rfl,x0⟩
 ·have e:y.s.at_=y.s.d.length:=Decidable.byContradiction fun q=>hn ⟨ha,q⟩
  have DN:=Za (Rl (r:=true) (h.ext x0) (by unfold Qn;rw[ha,e];simp));clear h hn e;go_enter func229,ntmps229;go_wp2_with fail;refine AC.out.zz ?_;go_wp2_with fail;refine DN.out.ze fun w2 x2=>?_;go_wp2;go_ret;exact⟨rfl,x0.trans x2⟩
theorem Bd{y':CY}{r:Bool}(h:Vl w B c t n gens y)(hn:y.s.act=true∧y.s.at_≠y.s.d.length)(hr:sStep c t y=(y',r)):Calls prog 229 #[B.sb] w fun e w'=>e=.returned (.bool r)∧Vl w' B c t n gens y'∧Chg B.inP w w':=by
 obtain⟨z,hz⟩:=Zb (w.heap.size);obtain⟨W0,hW0⟩:=Zb (w.alloc (.cells #[B.sb] 115));have x0:Ext w W0:=by rw[←hW0];exact(Zy2 _).alloc _
 have k0:W0.cell? z=some (B.sb:Value):=by rw[←hW0,←hz];exact Zr w _ _
 have AC:=Za (Pn (h.ext x0) hn.1);have DN:=Za (Rl (r:=false) (h.ext x0) (by unfold Qn;rw[hn.1];simp;exact hn.2));have H:=Za h;have X0:=Za x0;have kl:y.s.at_<nS c t:=by have:=h.sl;have:=h.dl;have:=hn.2;omega
 have dl:=h.dl;have sl:=h.sl;have pos:=h.pos;have p9:=h.o9;obtain⟨k,hk⟩:=Zb (y.s.at_);rw[hk] at kl;obtain⟨q,hq⟩:=Zb ((Zu y.bs k&&((Ip y.m.col k:Int)==0)));have HO:Hid (∀w2 (T:TypeId),Ext w w2→w2.cell? z=some (B.sb:Value)→Calls prog 269 #[(k:Int),.slice (some ⟨w2.heap.size,0,none⟩) 2 2]
   (w2.alloc (.cells #[.func (.func 23) #[B.ab] #[],.func (.func 270) #[] #[z]] T)).drew fun e W'=>
   e=.returned (.bool q)∧Vl W' B c t n gens y∧W'.cell? z=some (B.sb:Value)∧Ext w W'):=Za fun w2 T x k2=>by
  obtain⟨A0,hA⟩:∃A,w2.alloc (.cells #[.func (.func 23) #[B.ab] #[],.func (.func 270) #[] #[z]] T)=A:=⟨_,rfl⟩;have xa:Ext w2 A0:=by rw[←hA];exact(Zy2 _).alloc _
  have c:=fun i=>Zg w2 #[.func (.func 23) #[B.ab] #[],.func (.func 270) #[] #[z]] T i
  rw[hA] at c ⊢;have d0:=(Zy2 A0).drew.cell (c 0);have d1:=(Zy2 A0).drew.cell (c 1);replace xa:=xa.drew;have i3:=h.ext (x.trans xa);have cl:=h.k.ok.cl;have bg:Zpq y.bs (k:Int)=Zu y.bs k:=by unfold Zpq;simp
  have ce:Iv y.m.col (k:Int)=((Ip y.m.col k:Int),0):=by unfold Iv;rw[if_pos (by omega),Zy4]
  refine(Ziz (f0:=23) (f1:=270) d0 d1 Zix Ziy (Rk (Zu y.bs k) i3.ar bg) (Zd5 i3 (xa.cell k2) ce rfl)).zz ?_;exact⟨by rw[hq],i3,xa.cell k2,x.trans xa⟩
 have ST:Hid (∀W y1,Vl W B c t n gens y1→y1.s.at_=k→y1.s.act=true→y1.s.d.length=nS c t→Chg B.inP w W→Vl (W.setCell ⟨B.sb,4,none⟩ (.int .i64 ((k+1:Nat):Int))) B c t n gens { y1 with s:=⟨y1.s.d,k+1,true⟩ }∧Chg B.inP w (W.setCell ⟨B.sb,4,none⟩ (.int .i64 ((k+1:Nat):Int)))):=Za fun W y1 hi e1 e2 e3 hx=>by
  have cx:=Wn W B.sb 4 (.int .i64 ((k+1:Nat):Int));have hb:Zn (W.setCell ⟨B.sb,4,none⟩ (.int .i64 ((k+1:Nat):Int))) B.sb (Zj0 B ⟨y1.s.d,k+1,true⟩):=by
   have:=hi.box.set (i:=4) (by show 4<6;decide) (.int .i64 ((k+1:Nat):Int));unfold Zj0 at this ⊢;rw[e2] at this;exact this
  obtain⟨a,b⟩:=hi.swTo (s':=⟨y1.s.d,k+1,true⟩) cx (fun j q=>by unfold CB.swP;have q1:j=B.sb:=q;omega) hb (hi.row.chg cx p9.2.2.2.1 fun _=>p9.2.2.2.2) e3 (by (try simp only);omega);exact⟨a,hx.trans b⟩
 have NS:=Za hn;unfold sStep at hr;rw[if_pos hn,hk] at hr;have W1:IntKind.i64.wrap ((k:Int)+1)=((k+1:Nat):Int):=by rw[IntWalk.i64_in _ (by omega)];omega
 obtain⟨K,hK⟩:=Zb (k+1);rw[hK] at W1 ST hr;have HK:=Za hk;clear h x0 hn hK;go_enter func229,ntmps229;go_wp2_with fail;refine AC.out.zz ?_;go_wp2_with fail;refine DN.out.ze fun w2 x2=>?_;have X2:=Za (X0.out.trans x2);have k2:=x2.cell k0;have b2:=(H.out.ext X2.out).box;have c0:=b2.c 0 _ rfl;have c4:w2.cell? ⟨B.sb,4,none⟩=some (.int .i64 (k:Int)):=by rw[←hk];exact b2.c 4 _ rfl
 have lz:=Zj k2;have ls:=b2.lt;simp only at lz ls;clear x2 k0 b2 hk;go_wp2_with fail;have HH:=Za (fun T=>HO.out w2 T X2.out k2);have n0:=World.new_ne w2 _ k2;have n1:=World.new_ne w2 _ c0;clear HO
 go_region_held3 (fun w'=>w'.cell? z=some (B.sb:Value)∧w'.cell? B.sb=some (B.ab:Value)∧w'.cell? ⟨B.sb,4,none⟩=some (.int .i64 (k:Int)))
  ((first|go_keep|(go_split_ands;exact⟨k3,c03,c43⟩)))
  (first|(go_at_call 269;with_reducible refine(HH.out _).mono ?_;rintro e w3 ⟨rfl,i3,k3,x3⟩;have c03:=i3.box.c 0 _ rfl;have c43:w3.cell? ⟨B.sb,4,none⟩=some (.int .i64 (k:Int)):=by (rw[←HK.out];exact i3.box.c 4 _ rfl))|fail)
 all_goals
  have I3:=Za i3;have X3:=Za x3;have c1:=i3.box.c 1 _ rfl;have c3:=i3.box.c 3 _ rfl;have c4:w3.cell? ⟨B.sb,4,none⟩=some (.int .i64 (k:Int)):=by rw[←HK.out];exact i3.box.c 4 _ rfl
  have f4:=i3.box.f 4;clear i3 x3 HH c03 c43;cases q
  ·rw[if_neg (fun z=>by simp[z.1,z.2] at hq)] at hr;cases hr;have FIN:=Za (ST.out w3 y I3.out HK.out NS.out.1 dl (Zy3 X3.out));clear ST;go_wp2;go_ret;exact⟨rfl,FIN.out.1,FIN.out.2⟩
  ·have hq2:Zu y.bs k=true∧Ip y.m.col k=0:=by
    simp only[Bool.and_eq_true,beq_iff_eq] at hq;exact⟨hq.1,by omega⟩
   obtain⟨ws',e',hw⟩:∃ws' e',Uu c t y.ws (k:Int)=(ws',e'):=⟨_,_,rfl⟩;rw[if_pos hq2,hw] at hr;cases hr;have nz:¬B.inP z:=fun q=>by
    obtain⟨o1,o2,o3,o4,o5,o6,o7,o8,o9,o10⟩:=H.out.k.ord;have:=H.out.top;unfold CB.inP at q;omega
   have WP:Hid (Calls prog 271 #[B.bb,(k:Int)] w3.drew fun e W'=>e=.returned (.int .i64 e')∧Vl W' B c t n gens { y with ws:=ws' }∧W'.cell? ⟨z,0,none⟩=some (B.sb:Value)∧Chg B.inP w W'):=
    Za ((Zmi (I3.out.ext (Zy2 w3).drew).k.body hw).mono fun e W' q=>by
     obtain⟨a,b⟩:=(I3.out.ext (Zy2 w3).drew).wsTo q.2.1 q.2.2;exact⟨q.1,a,b.cell nz ((Zy2 w3).drew.cell k3),(Zy3 X3.out.drew).trans b⟩)
   have SE:Hid (∀W,Vl W B c t n gens { y with ws:=ws' }→W.cell? ⟨z,0,none⟩=some (B.sb:Value)→Chg B.inP w W→Calls prog 272 #[B.sr,(k:Int),true] W.drew fun e W'=>
     e=.returned (.int .i64 0)∧Vl W' B c t n gens { y with ws:=ws',s:={ y.s with d:=y.s.d.set k true } }∧W'.cell? ⟨z,0,none⟩=some (B.sb:Value)∧Chg B.inP w W'):=Za fun W hi kz hx=>by
    have hd:=hi.ext (Zy2 W).drew;refine(Pb y.s.d (y.s.d.set k true) 0 hd.row (Vt (by omega))).mono ?_;rintro e W' ⟨e1,r4,x4⟩;have nb:¬tch B.sg y.s.d B.sb:=fun q=>p9.2.2.2.2 q.2.symm
    obtain⟨a,b⟩:=hd.swTo (s':={ y.s with d:=y.s.d.set k true }) x4 (fun j q=>by unfold CB.swP;have:=q.2;omega) (hd.box.chg x4 nb) r4 (by (try simp only);rw[List.length_set];exact dl) sl;exact⟨e1,a,b.cell nz ((Zy2 W).drew.cell kz),(hx.trans (Zy3 (Zy2 W).drew)).trans b⟩
   go_wp2_with fail
   go_region_held3 (fun w'=>w'.cell? z=some (B.sb:Value)∧w'.cell? ⟨B.sb,1,none⟩=some (B.bb:Value)∧w'.cell? ⟨B.sb,4,none⟩=some (.int .i64 (k:Int)))
    ((first|go_keep|(go_split_ands;exact⟨k4,c14,c44⟩)))
    (first|(go_at_call 271;with_reducible refine WP.out.mono ?_;rintro e w4 ⟨rfl,i4,k4,x4⟩;have c14:=i4.box.c 1 _ rfl;have c44:w4.cell? ⟨B.sb,4,none⟩=some (.int .i64 (k:Int)):=by (rw[←HK.out];exact i4.box.c 4 _ rfl))|fail)
   all_goals
    have SE2:=Za (SE.out w4 i4 k4 x4);clear SE WP;have c3:=i4.box.c 3 _ rfl;have c4:w4.cell? ⟨B.sb,4,none⟩=some (.int .i64 (k:Int)):=by rw[←HK.out];exact i4.box.c 4 _ rfl
    clear i4 x4 k3 c1 c14 c44;go_wp2_with fail
    go_region_held3 (fun w'=>w'.cell? z=some (B.sb:Value)∧w'.cell? ⟨B.sb,3,none⟩=some (B.sr:Value)∧w'.cell? ⟨B.sb,4,none⟩=some (.int .i64 (k:Int)))
     ((first|go_keep|(go_split_ands;exact⟨k5,c35,c45⟩)))
     (first|(go_at_call 272;with_reducible refine SE2.out.mono ?_;rintro e w5 ⟨rfl,i5,k5,x5⟩;have c35:=i5.box.c 3 _ rfl;have c45:w5.cell? ⟨B.sb,4,none⟩=some (.int .i64 (k:Int)):=by (rw[←HK.out];exact i5.box.c 4 _ rfl))|fail)
    all_goals
     have c4:w5.cell? ⟨B.sb,4,none⟩=some (.int .i64 (k:Int)):=by rw[←HK.out];exact i5.box.c 4 _ rfl
     have f4:=i5.box.f 4;have FIN:=Za (ST.out w5 _ i5 HK.out NS.out.1 (by (try simp only);rw[List.length_set];exact dl) x5);clear ST SE2 i5 x5 k4 c3 c35 c45;go_wp2;go_ret;exact⟨rfl,FIN.out.1,FIN.out.2⟩
theorem Ef{y':CY}{r:Bool}(h:Vl w B c t n gens y)(hr:sStep c t y=(y',r)):Calls prog 229 #[B.sb] w fun e w'=>e=.returned (.bool r)∧Vl w' B c t n gens y'∧Chg B.inP w w':=by
 by_cases hn:y.s.act=true∧y.s.at_≠y.s.d.length
 ·exact Bd h hn hr
 ·rw[Zm4 hn] at hr;cases hr;exact(Bc h hn).mono fun _ _ q=>⟨q.1,h.ext q.2,Zy3 q.2⟩
end
end Go.Proofs.YtfcldaembdedjaaGreatDoor
