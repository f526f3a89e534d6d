/-
  Parts of the proof of TopCycles: OwnW, Box9, HpN, MemX, MemN, FarmN, Trace, RawP, Raw, Ref25, Raw2.
-/
import Derived.Test.YtfcldaembdedjaaGreatDoorQ14
import Derived.Deep.Onto
import Derived.Laws.Strings2
import Derived.Laws.IdiomStrings
set_option linter.unusedVariables false
set_option linter.unusedSimpArgs false
set_option maxRecDepth 100000
set_option maxHeartbeats 16000000
namespace Go.Proofs.YtfcldaembdedjaaGreatDoor
open Go.RowKit Tryz
theorem Zsf:(prog.info? 81).map (fun i=>(i.zero,i.size,i.bytes))=some (some (.agg #[(0:Int),(0:Int),(0:Int),(0:Int)]),4,32):=by kernel_rfl
structure We(w w':World)(a:Option Addr)(cap:Nat)(ts:List Ten):Prop where
 row:La w' a ts
 cap1:ts.length≤cap
 cap2:cap≤maxLen
 own:0<ts.length→∃g,a=some ⟨g,0,none⟩∧w.heap.size≤g∧g<w'.heap.size∧∀o,w'.frozen? ⟨g,o,none⟩=false
def Zjh(ts:List Ten)(w:World)(e:Ending)(w':World):Prop:=∃a cap,e=.returned (.slice a ts.length cap)∧We w w' a cap ts∧Ext w w'
theorem Zji{w w1:World}{e:Nat}{v:Value}{ts:List Ten}(h:w1.ownsRow w.heap.size e 4 v ts.length (tcs ts)):∃a cap,v=.slice a ts.length cap∧We w w1 a cap ts:=by
 rcases Nat.eq_zero_or_pos ts.length with c|c
 ·obtain rfl:=List.length_eq_zero_iff.1 c;obtain⟨_,⟨rfl,_⟩|⟨g,cap,cur,rfl,hb,hh,hc,hm,hs,ht⟩⟩:=h
  ·exact⟨none,0,rfl,fun i hi=>absurd hi (Zzb _),Zy1 _,Nat.zero_le _,fun hi=>absurd hi (Nat.lt_irrefl 0)⟩
  ·exact⟨_,cap,rfl,fun i hi=>absurd hi (Zzb _),hc,hm,fun hi=>absurd hi (Nat.lt_irrefl 0)⟩
 ·obtain⟨g,cap,rfl,h1,h2,_,h4,h5,h6,h7⟩:=Zpl h c;exact⟨_,cap,rfl,h6,h4,h5,fun _=>⟨g,rfl,h1,h2,h7⟩⟩
theorem Zjj{a:Option Addr}{cap:Nat}(xs:List Ten){w:World}(h:La w a xs)(hb:xs.length*32≤140737488355328) :
  Calls prog 103 #[.slice a xs.length cap] w (Zjh xs w):=by
 obtain⟨i0,hi0,hz0,hz1,hz2⟩:=info_parts Zsf;have he:∀(a:Option Addr) n c (w:World),(binOp .eql 23 (.slice a n c) (.slice none 0 0)).run prog w=.ok (.bool a.isNone) w:=fun a n c w=>Lib.run_eql_slice_nil w _ _ a n c 0 0 underlying23
 cases a with
 | none=>
  have hl:xs.length=0:=by
   rcases Nat.eq_zero_or_pos xs.length with c|c
   ·exact c
   ·obtain⟨b,o,e,_⟩:=h.pos c;cases e
  obtain rfl:=List.length_eq_zero_iff.1 hl;clear h;go_enter func103,ntmps103;go_wp2;go_ret;exact⟨none,0,rfl,⟨fun i hi=>absurd hi (Zzb _),Zy1 _,Nat.zero_le _,fun hi=>absurd hi (Nat.lt_irrefl 0)⟩,Zy2 w⟩
 | some ad=>
  have hnews:∀j u,(tcs xs)[j]?=some u→w.cell? (ad.add j)=some u:=by
   intro j u hj;have hl:=(List.getElem?_eq_some_iff.1 hj).1;rw[Ie] at hl;obtain⟨b,o,e,hc⟩:=h.pos (by omega);cases e;exact Zpk hc j u hj
  have HN:=Za hnews;clear hnews h;have hn63:xs.length≤maxLen:=by unfold maxLen;omega
  have HM:=Za hn63;clear hn63;go_enter func103,ntmps103
  go_wp2_with (at_builtin;refine wpList_append_own _ rfl (.tmp 5) (.tmp 6) 23 rfl w.heap.size 81 i0 (.agg #[(0:Int),(0:Int),(0:Int),(0:Int)]) 4 32 underlying23 hi0 hz0 hz1 hz2 rfl (by decide) (.slice (some ⟨w.heap.size,0,none⟩) 0 0) 0 [] rfl (World.ownsRow_made _ #[] 0 (Zy1 _) (by decide) rfl) ad xs.length cap (tcs xs) rfl (Ie _) (fun j u hj=>Xd (HN.out j u hj) _) (Zkv _) (by rw[Nat.zero_add];exact HM.out) (by rw[Nat.zero_add];exact hb) (by simp) ?_;intro v' w1 hown hgrow Ce)
  go_ret;rw[Nat.zero_add,List.nil_append] at hown;have hx:Ext w w1:=Ext.of (((Zy2 w).alloc (.cells #[] 81)).below.grown hgrow (by simp) (fun k e=>by cases e;exact Zy1 _));obtain⟨a',c',rfl,hn⟩:=Zji hown;exact⟨a',c',rfl,hn,hx⟩
structure Six(w:World)(b:Nat)(v0 v1 v2 v3 v4 v5:Value):Prop where
 c0:w.cell? b=some v0
 c1:w.cell? ⟨b,1,none⟩=some v1
 c2:w.cell? ⟨b,2,none⟩=some v2
 c3:w.cell? ⟨b,3,none⟩=some v3
 c4:w.cell? ⟨b,4,none⟩=some v4
 c5:w.cell? ⟨b,5,none⟩=some v5
 fz:∀o,w.frozen? ⟨b,o,none⟩=false
theorem Six.lt{w:World}{b:Nat}{v0 v1 v2 v3 v4 v5:Value}(h:Six w b v0 v1 v2 v3 v4 v5):b<w.heap.size:=Zj h.c0
theorem Six.ext{w w':World}{b:Nat}{v0 v1 v2 v3 v4 v5:Value}(h:Six w b v0 v1 v2 v3 v4 v5)(hx:Ext w w'):Six w' b v0 v1 v2 v3 v4 v5:=
 ⟨hx.cell h.c0,hx.cell h.c1,hx.cell h.c2,hx.cell h.c3,hx.cell h.c4,hx.cell h.c5,fun o=>by rw[hx.frozen (p:=⟨b,o,none⟩) h.lt];exact h.fz o⟩
theorem Six.new(w:World)(v0 v1 v2 v3 v4 v5:Value)(t:TypeId){b:Nat}(hb:w.heap.size=b):Six (w.alloc (.cells #[v0,v1,v2,v3,v4,v5] t)) b v0 v1 v2 v3 v4 v5:=by
 subst hb;exact⟨Zg w _ t 0,Zg w _ t 1,Zg w _ t 2,Zg w _ t 3,Zg w _ t 4,Zg w _ t 5,fun o=>World.frozen?_alloc_at _ _ _ _ rfl⟩
theorem We.lower{w W0 w':World}{a:Option Addr}{cap:Nat}{xs:List Ten}(h:We W0 w' a cap xs)(hl:w.heap.size≤W0.heap.size):We w w' a cap xs:=
 ⟨h.row,h.cap1,h.cap2,fun h0=>by obtain⟨g,e,h1,h2⟩:=h.own h0;exact⟨g,e,Zy6 hl h1,h2⟩⟩
theorem We.setCell{W0 w':World}{a:Option Addr}{cap:Nat}{xs:List Ten}(h:We W0 w' a cap xs){p:Addr}(hp:p.block<W0.heap.size)(u:Value):We W0 (w'.setCell p u) a cap xs:=by
 refine⟨fun i hi=>?_,h.cap1,h.cap2,fun h0=>?_⟩
 ·obtain⟨g,rfl,h1,_⟩:=h.own (by omega);obtain⟨b,o,e,e0,e1,e2,e3⟩:=h.row i hi;cases e;refine⟨g,0,rfl,?_,?_,?_,?_⟩<;>(rw[World.cell?_setCell_far _ _ _ _ (by show p.block≠g;omega)];assumption)
 ·obtain⟨g,e,h1,h2,h3⟩:=h.own h0;exact⟨g,e,h1,by simpa using h2,fun o=>by simpa using h3 o⟩
def Zsg(c:Zh)(w:World)(e:Ending)(w':World):Prop:=
 ∃ca ta cc tc,e=.returned (.agg #[.slice ca c.cl.length cc,c.page,.slice ta c.ts.length tc,c.wk,c.gr,c.gens])∧Yj .i64 w w' ca cc c.cl∧We w w' ta tc c.ts∧(∀x y,ca=some ⟨x,0,none⟩→ta=some ⟨y,0,none⟩→0<c.cl.length→0<c.ts.length→x≠y)∧Ext w w'
structure Tb(w W:World)(ca ta:Option Addr)(cc tc:Nat)(c:Zh):Prop where
 ext:Ext w W
 box:Six W w.heap.size (.slice ca c.cl.length cc) (.int .i64 c.page) (.slice ta c.ts.length tc) (.int .i64 c.wk) (.int .i64 c.gr) (.int .i64 c.gens)
 res:Six W (w.heap.size+1) (.slice none 0 0) (.int .i64 0) (.slice none 0 0) (.int .i64 0) (.int .i64 0) (.int .i64 0)
theorem Tb.go{w W W':World}{ca ta:Option Addr}{cc tc:Nat}{c:Zh}(h:Tb w W ca ta cc tc c)(hx:Ext W W'):Tb w W' ca ta cc tc c:=⟨h.ext.trans hx,h.box.ext hx,h.res.ext hx⟩
theorem Tb.size{w W:World}{ca ta:Option Addr}{cc tc:Nat}{c:Zh}(h:Tb w W ca ta cc tc c):w.heap.size+1<W.heap.size:=h.res.lt
theorem Yj.fin{w W0 W:World}{k:IntKind}{a:Option Addr}{cap:Nat}{xs:List Int}(h:Yj k W0 W a cap xs)(hs:w.heap.size+1<W0.heap.size){o0 o1 n0 n1 n2 n3 n4 n5:Nat}{u0 u1 x0 x1 x2 x3 x4 x5:Value} :
  Yj k w ((((((((W.setCell ⟨w.heap.size,o0,none⟩ u0).setCell ⟨w.heap.size,o1,none⟩ u1).setCell ⟨w.heap.size+1,n0,none⟩ x0).setCell ⟨w.heap.size+1,n1,none⟩ x1).setCell ⟨w.heap.size+1,n2,none⟩ x2).setCell ⟨w.heap.size+1,n3,none⟩ x3).setCell ⟨w.heap.size+1,n4,none⟩ x4).setCell ⟨w.heap.size+1,n5,none⟩ x5) a cap xs:=
 ((((((((h.setCell (p:=⟨w.heap.size,o0,none⟩) (show w.heap.size<_ by omega) u0).setCell (p:=⟨w.heap.size,o1,none⟩) (show w.heap.size<_ by omega) u1).setCell (p:=⟨w.heap.size+1,n0,none⟩) (show w.heap.size+1<_ by omega) x0).setCell (p:=⟨w.heap.size+1,n1,none⟩) (show w.heap.size+1<_ by omega) x1).setCell (p:=⟨w.heap.size+1,n2,none⟩) (show w.heap.size+1<_ by omega) x2).setCell (p:=⟨w.heap.size+1,n3,none⟩) (show w.heap.size+1<_ by omega) x3).setCell (p:=⟨w.heap.size+1,n4,none⟩) (show w.heap.size+1<_ by omega) x4).setCell (p:=⟨w.heap.size+1,n5,none⟩) (show w.heap.size+1<_ by omega) x5).lower (by omega)
theorem We.fin{w W0 W:World}{a:Option Addr}{cap:Nat}{xs:List Ten}(h:We W0 W a cap xs)(hs:w.heap.size+1<W0.heap.size){o0 o1 n0 n1 n2 n3 n4 n5:Nat}{u0 u1 x0 x1 x2 x3 x4 x5:Value} :
  We w ((((((((W.setCell ⟨w.heap.size,o0,none⟩ u0).setCell ⟨w.heap.size,o1,none⟩ u1).setCell ⟨w.heap.size+1,n0,none⟩ x0).setCell ⟨w.heap.size+1,n1,none⟩ x1).setCell ⟨w.heap.size+1,n2,none⟩ x2).setCell ⟨w.heap.size+1,n3,none⟩ x3).setCell ⟨w.heap.size+1,n4,none⟩ x4).setCell ⟨w.heap.size+1,n5,none⟩ x5) a cap xs:=
 ((((((((h.setCell (p:=⟨w.heap.size,o0,none⟩) (show w.heap.size<_ by omega) u0).setCell (p:=⟨w.heap.size,o1,none⟩) (show w.heap.size<_ by omega) u1).setCell (p:=⟨w.heap.size+1,n0,none⟩) (show w.heap.size+1<_ by omega) x0).setCell (p:=⟨w.heap.size+1,n1,none⟩) (show w.heap.size+1<_ by omega) x1).setCell (p:=⟨w.heap.size+1,n2,none⟩) (show w.heap.size+1<_ by omega) x2).setCell (p:=⟨w.heap.size+1,n3,none⟩) (show w.heap.size+1<_ by omega) x3).setCell (p:=⟨w.heap.size+1,n4,none⟩) (show w.heap.size+1<_ by omega) x4).setCell (p:=⟨w.heap.size+1,n5,none⟩) (show w.heap.size+1<_ by omega) x5).lower (by omega)
theorem Ext.fin{w W:World}(h:Ext w W){o0 o1 n0 n1 n2 n3 n4 n5:Nat}{u0 u1 x0 x1 x2 x3 x4 x5:Value}:Ext w ((((((((W.setCell ⟨w.heap.size,o0,none⟩ u0).setCell ⟨w.heap.size,o1,none⟩ u1).setCell ⟨w.heap.size+1,n0,none⟩ x0).setCell ⟨w.heap.size+1,n1,none⟩ x1).setCell ⟨w.heap.size+1,n2,none⟩ x2).setCell ⟨w.heap.size+1,n3,none⟩ x3).setCell ⟨w.heap.size+1,n4,none⟩ x4).setCell ⟨w.heap.size+1,n5,none⟩ x5):=
 ((((((((h.setCell (p:=⟨w.heap.size,o0,none⟩) (Zy1 _) u0).setCell (p:=⟨w.heap.size,o1,none⟩) (Zy1 _) u1).setCell (p:=⟨w.heap.size+1,n0,none⟩) (Nat.le_succ _) x0).setCell (p:=⟨w.heap.size+1,n1,none⟩) (Nat.le_succ _) x1).setCell (p:=⟨w.heap.size+1,n2,none⟩) (Nat.le_succ _) x2).setCell (p:=⟨w.heap.size+1,n3,none⟩) (Nat.le_succ _) x3).setCell (p:=⟨w.heap.size+1,n4,none⟩) (Nat.le_succ _) x4).setCell (p:=⟨w.heap.size+1,n5,none⟩) (Nat.le_succ _) x5)
theorem Zsh{Wa W1 Wb W2:World}{k:IntKind}{a1 a2:Option Addr}{k1 k2:Nat}{cl:List Int}{ts:List Ten}(hn1:Yj k Wa W1 a1 k1 cl)(hn2:We Wb W2 a2 k2 ts)(hs:W1.heap.size≤Wb.heap.size) :
  ∀x y,a1=some ⟨x,0,none⟩→a2=some ⟨y,0,none⟩→0<cl.length→0<ts.length→x≠y:=by
 intro x y e1 e2 h1 h2;obtain⟨g1,f1,_,p1,_⟩:=hn1.own h1;obtain⟨g2,f2,p2,_⟩:=hn2.own h2;rw[f1] at e1;rw[f2] at e2;cases e1;cases e2;omega
theorem Zsi{Wa W1 Wb W2:World}{k:IntKind}{a1 a2:Option Addr}{k1 k2:Nat}{cl:List Int}{ts:List Ten}(hn2:We Wa W2 a2 k2 ts)(hn1:Yj k Wb W1 a1 k1 cl)(hs:W2.heap.size≤Wb.heap.size) :
  ∀x y,a1=some ⟨x,0,none⟩→a2=some ⟨y,0,none⟩→0<cl.length→0<ts.length→x≠y:=by
 intro x y e1 e2 h1 h2;obtain⟨g1,f1,p1,_⟩:=hn1.own h1;obtain⟨g2,f2,_,p2,_⟩:=hn2.own h2;rw[f1] at e1;rw[f2] at e2;cases e1;cases e2;omega
theorem Zgi{ca ta:Option Addr}{cc tc:Nat}(c:Zh){w:World}(h:Y7 w ca ta cc tc c)(b1:c.cl.length≤50)(b2:c.ts.length≤50) :
  Calls prog 61 #[.agg #[.slice ca c.cl.length cc,c.page,.slice ta c.ts.length tc,c.wk,c.gr,c.gens]] w (Zsg c w):=by
 have H:=Za h;clear h;have B1:=Za b1;have B2:=Za b2;clear b1 b2;have hs0:Tb w ((w.alloc (.cells #[.slice ca c.cl.length cc,c.page,.slice ta c.ts.length tc,c.wk,c.gr,c.gens] 25)).alloc (.cells #[.slice none 0 0,(0:Int),.slice none 0 0,(0:Int),(0:Int),(0:Int)] 25)) ca ta cc tc c:=
  ⟨((Zy2 w).alloc _).alloc _,(Six.new _ _ _ _ _ _ _ _ rfl).ext ((Zy2 _).alloc _),Six.new _ _ _ _ _ _ _ _ (by simp)⟩
 have hs0:=hs0.go ((Zy2 _).drew);have S0:=Za hs0.size;go_enter func61,ntmps61;go_wp2_with fail
 go_region_with (first|(go_at_call 88;refine(Zg4 c.cl (H.out.cl.ext (Tb.ext (ca:=ca) (ta:=ta) (cc:=cc) (tc:=tc) (c:=c) ?_)) (by have:=B1.out;omega)).mono ?_;assumption;rintro e w1 ⟨a1,k1,rfl,hn1,hE1⟩;have hs1:Tb w w1 ca ta cc tc c:=Tb.go (by assumption) hE1;have s1:w.heap.size+1<w1.heap.size:=hs1.size;have c01:=hs1.box.c0;have c21:=hs1.box.c2;have f01:=hs1.box.fz 0;have f21:=hs1.box.fz 2)|(go_at_call 103;refine(Zjj c.ts (H.out.ts.ext (Tb.ext (ca:=ca) (ta:=ta) (cc:=cc) (tc:=tc) (c:=c) ?_)) (by have:=B2.out;omega)).mono ?_;assumption;rintro e w2 ⟨a2,k2,rfl,hn2,hE2⟩;have hs2:Tb w w2 ca ta cc tc c:=Tb.go (by assumption) hE2;have s2:w.heap.size+1<w2.heap.size:=hs2.size;have c02:=hs2.box.c0;have c22:=hs2.box.c2;have f02:=hs2.box.fz 0;have f22:=hs2.box.fz 2))
 all_goals
  have g1:=hs1.box;have g2:=hs2.box;have r1:=hs1.res;have r2:=hs2.res;clear c01 c21 f01 f21 c02 c22 f02 f22 hs0;obtain⟨c01,c11,c21,c31,c41,c51,f1⟩:=g1;obtain⟨c02,c12,c22,c32,c42,c52,f2⟩:=g2;obtain⟨d01,d11,d21,d31,d41,d51,e1⟩:=r1;obtain⟨d02,d12,d22,d32,d42,d52,e2⟩:=r2;go_wp2_with fail;refine bodyPost_ret (v:=.agg #[.slice a1 c.cl.length k1,c.page,.slice a2 c.ts.length k2,c.wk,c.gr,c.gens]) (by simp[results,results61,go_sem,c01,c11,c21,c31,c41,c51,d01,d11,d21,d31,d41,d51,c02,c12,c22,c32,c42,c52,d02,d12,d22,d32,d42,d52]) rfl ⟨a1,a2,k1,k2,rfl,?_,?_,?_,?_⟩
  ·first|with_reducible exact Yj.fin hn1 S0.out|with_reducible exact Yj.fin hn1 s2|with_reducible exact Yj.fin (hn1.ext hE2) S0.out
  ·first|with_reducible exact We.fin hn2 S0.out|with_reducible exact We.fin hn2 s1|with_reducible exact We.fin (hn2.ext hE1) S0.out
  ·first|exact Zsh hn1 hn2 (by simp)|exact Zsi hn2 hn1 (by simp)
  ·first|with_reducible exact Ext.fin hs1.ext|with_reducible exact Ext.fin hs2.ext
abbrev put9(W:World)(z:Nat)(v0 v1 v2 v3 v4 v5 v6 v7 v8:Value):World:=
 ((((((((W.setCell z v0).setCell ⟨z,1,none⟩ v1).setCell ⟨z,2,none⟩ v2).setCell ⟨z,3,none⟩ v3).setCell ⟨z,4,none⟩ v4).setCell ⟨z,5,none⟩ v5).setCell ⟨z,6,none⟩ v6).setCell ⟨z,7,none⟩ v7).setCell ⟨z,8,none⟩ v8
theorem Zn.put9{W:World}{z:Nat}{u0 u1 u2 u3 u4 u5 u6 u7 u8:Value}(h:Zn W z [u0,u1,u2,u3,u4,u5,u6,u7,u8])(v0 v1 v2 v3 v4 v5 v6 v7 v8:Value):Zn (put9 W z v0 v1 v2 v3 v4 v5 v6 v7 v8) z [v0,v1,v2,v3,v4,v5,v6,v7,v8]:=
 ((((((((h.set (i:=0) (by show 0<9;decide) v0).set (i:=1) (by show 1<9;decide) v1).set (i:=2) (by show 2<9;decide) v2).set (i:=3) (by show 3<9;decide) v3).set (i:=4) (by show 4<9;decide) v4).set (i:=5) (by show 5<9;decide) v5).set (i:=6) (by show 6<9;decide) v6).set (i:=7) (by show 7<9;decide) v7).set (i:=8) (by show 8<9;decide) v8
theorem Xs(W:World)(z:Nat)(v0 v1 v2 v3 v4 v5 v6 v7 v8:Value):Chg (fun k=>k=z) W (put9 W z v0 v1 v2 v3 v4 v5 v6 v7 v8):=by
 have q:∀(V:World) (i:Nat) (v:Value),Chg (fun k=>k=z) V (V.setCell ⟨z,i,none⟩ v):=fun V i v=>Chg.setCell (P:=fun j=>j=z) (p:=⟨z,i,none⟩) (Chg.refl _ V) (.inl rfl) v
 exact((((((((q _ _ _).trans (q _ _ _)).trans (q _ _ _)).trans (q _ _ _)).trans (q _ _ _)).trans (q _ _ _)).trans (q _ _ _)).trans (q _ _ _)).trans (q _ _ _)
abbrev put8w(W:World)(z:Nat)(v0 v1 v2 v3 v4 v5 v6 v7:Value):World:=
 (((((((W.setCell z v0).setCell ⟨z,1,none⟩ v1).setCell ⟨z,2,none⟩ v2).setCell ⟨z,3,none⟩ v3).setCell ⟨z,4,none⟩ v4).setCell ⟨z,5,none⟩ v5).setCell ⟨z,6,none⟩ v6).setCell ⟨z,7,none⟩ v7
theorem Zn.put8w{W:World}{z:Nat}{u0 u1 u2 u3 u4 u5 u6 u7:Value}(h:Zn W z [u0,u1,u2,u3,u4,u5,u6,u7])(v0 v1 v2 v3 v4 v5 v6 v7:Value):Zn (put8w W z v0 v1 v2 v3 v4 v5 v6 v7) z [v0,v1,v2,v3,v4,v5,v6,v7]:=
 (((((((h.set (i:=0) (by show 0<8;decide) v0).set (i:=1) (by show 1<8;decide) v1).set (i:=2) (by show 2<8;decide) v2).set (i:=3) (by show 3<8;decide) v3).set (i:=4) (by show 4<8;decide) v4).set (i:=5) (by show 5<8;decide) v5).set (i:=6) (by show 6<8;decide) v6).set (i:=7) (by show 7<8;decide) v7
theorem Rn(W:World)(z:Nat)(v0 v1 v2 v3 v4 v5 v6 v7:Value):Chg (fun k=>k=z) W (put8w W z v0 v1 v2 v3 v4 v5 v6 v7):=by
 have q:∀(V:World) (i:Nat) (v:Value),Chg (fun k=>k=z) V (V.setCell ⟨z,i,none⟩ v):=fun V i v=>Chg.setCell (P:=fun j=>j=z) (p:=⟨z,i,none⟩) (Chg.refl _ V) (.inl rfl) v
 exact(((((((q _ _ _).trans (q _ _ _)).trans (q _ _ _)).trans (q _ _ _)).trans (q _ _ _)).trans (q _ _ _)).trans (q _ _ _)).trans (q _ _ _)
structure Bq(W:World)(z:Nat)(v0 v1 v2 v3 v4 v5 v6 v7 v8:Value):Prop where
 c0:W.cell? z=some v0
 c1:W.cell? ⟨z,1,none⟩=some v1
 c2:W.cell? ⟨z,2,none⟩=some v2
 c3:W.cell? ⟨z,3,none⟩=some v3
 c4:W.cell? ⟨z,4,none⟩=some v4
 c5:W.cell? ⟨z,5,none⟩=some v5
 c6:W.cell? ⟨z,6,none⟩=some v6
 c7:W.cell? ⟨z,7,none⟩=some v7
 c8:W.cell? ⟨z,8,none⟩=some v8
theorem Zn.read9{W:World}{z:Nat}{v0 v1 v2 v3 v4 v5 v6 v7 v8:Value}(h:Zn W z [v0,v1,v2,v3,v4,v5,v6,v7,v8]):Bq W z v0 v1 v2 v3 v4 v5 v6 v7 v8:=
 ⟨h.c 0 _ rfl,h.c 1 _ rfl,h.c 2 _ rfl,h.c 3 _ rfl,h.c 4 _ rfl,h.c 5 _ rfl,h.c 6 _ rfl,h.c 7 _ rfl,h.c 8 _ rfl⟩
theorem Bq.ext{W W':World}{z:Nat}{v0 v1 v2 v3 v4 v5 v6 v7 v8:Value}(h:Bq W z v0 v1 v2 v3 v4 v5 v6 v7 v8)(x:Ext W W'):Bq W' z v0 v1 v2 v3 v4 v5 v6 v7 v8:=
 ⟨x.cell h.c0,x.cell h.c1,x.cell h.c2,x.cell h.c3,x.cell h.c4,x.cell h.c5,x.cell h.c6,x.cell h.c7,x.cell h.c8⟩
theorem newBox(w:World)(u:TypeId)(V:List Value):∃W1,w.alloc (.cells V.toArray u)=W1∧Zn W1 w.heap.size V∧Ext w W1:=⟨_,rfl,Zn.new w V u rfl,(Zy2 w).alloc _⟩
theorem Zu4(w:World)(V:List Value)(t:TypeId){b:Nat}(hb:w.heap.size=b):∀j u,V[j]?=some u→(w.alloc (.cells V.toArray t)).cell? ((⟨b,0,none⟩:Addr).add j)=some u:=by
 intro j u h;subst hb;rw[Addr.add_lit,Nat.zero_add,Zg];simpa using h
section
variable{w w' W W':World}{c:Zh}{t:Nat}
def hOf(c:Zh)(t:Nat)(ws:List Int):HP:=Zyh c t c.wk.toNat (Vg c.ts t).cp.toNat (Vg c.ts t).tr (Vg c.ts t).sst ws
def Zsj(w:World)(c:Zh)(t:Nat)(mb gw gm:Nat)(ws:List Int)(e:Ending)(w':World):Prop:=
 ∃H:HB,e=.returned (.tuple #[H.hb,(0:Int)])∧Zv w' H c t c.gr.toNat (hOf c t ws)∧H.B.mb=mb∧H.B.gw=gw∧H.B.gm=gm∧w.heap.size≤H.B.yb∧H.hi≤w'.heap.size∧Ext w w'
theorem Zsk{ca co ta to_ cc tc mb gw gm:Nat}{ws:List Int}(hc:Y7 w (some ⟨ca,co,none⟩) (some ⟨ta,to_,none⟩) cc tc c)(hk:Yc c=0)(ht:t<c.ts.length)(hm:Yo w mb gw gm c ws)(hw:Wid w)(hT:Tab w)(hwo:WOk ws)(hgw:0≠gw∧2≠gw)(hl:mb<w.heap.size∧gw<w.heap.size∧gm<w.heap.size∧0<w.heap.size∧2<w.heap.size) :
  Calls prog 62 #[.agg #[.slice (some ⟨ca,co,none⟩) c.cl.length cc,c.page,.slice (some ⟨ta,to_,none⟩) c.ts.length tc,c.wk,c.gr,c.gens],(t:Int),mb] w (Zsj w c t mb gw gm ws):=by
 obtain⟨z,hz⟩:=Zb (w.heap.size);obtain⟨W0,hW0,b0,x0⟩:=newBox w 25 [.slice (some ⟨ca,co,none⟩) c.cl.length cc,c.page,.slice (some ⟨ta,to_,none⟩) c.ts.length tc,c.wk,c.gr,c.gens];rw[hz] at b0;have sz:=x0.size;have ho:=Y8 hk;have CY:=Za (Zu3 (hc.ext x0) hk ht (hm.ext x0) (hw.chg (P:=fun _=>False) (Zy3 x0) id) (hT.chgT (P:=fun _=>False) (Zy3 x0) id) hwo hgw (by omega));have B0:=Za b0;have X0:=Za x0;have HC:=Za hc;have HO:=Za (And.intro ho ht);have PN:=Za (fun W:World=>Zrg (w:=W) (tr:=(Vg c.ts t).tr) (ss:=(Vg c.ts t).sst) (cp:=(Vg c.ts t).cp) (q:=(Vg c.ts t).q) (by have q:=ho.ten t ht;exact⟨q.2.2.1,q.2.2.2.1⟩) (by have q:=ho.ten t ht;exact q.2.2.2.2.2.2));have OW:=Za (fun W (q:Ext w W)=>Zgi c (hc.ext q) (by have:=ho.cl.most;omega) (by have:=ho.head.2.2.2.1;omega));have LS:=Za (show 0<c.cl.length∧0<c.ts.length from ⟨ho.cl.pos,by omega⟩);obtain⟨k0,k1,k2,k3,k4,k5⟩:=b0.k6;clear b0 hk hm hw hT hwo hgw hl hc ho;unfold Zu2 at CY;go_enter func62,ntmps62;go_wp2_with fail;refine CY.out.mono ?_;rintro e w1 ⟨B,rfl,Y1,m1,m2,m3,l1,l2,x1⟩;have X1:=Za (X0.out.trans x1);have B1:=Za (B0.out.ext x1);have Y1:=Za Y1;have M1:=Za (show B.mb=mb∧B.gw=gw∧B.gm=gm∧w.heap.size≤B.yb∧B.a9≤w1.heap.size from ⟨m1,m2,m3,by omega,l2⟩);obtain⟨ta',o',e',t0,t1,t2,t3⟩:=(HC.out.ext X1.out).ts t ht;cases e';have hi0:(0:Int)≤(t:Int):=Int.natCast_nonneg _;have hi1:(t:Int)<(c.ts.length:Int):=by omega
 obtain⟨j0,j1,j2,j3,j4,j5⟩:=B1.out.k6;clear x1 m1 m2 m3 l1 l2 CY k0 k1 k2 k3 k4 k5;go_wp2_with fail;refine(PN.out _).mono ?_;rintro e w2 ⟨qb,rfl,Q2,x2,l2⟩;have X2:=Za (X1.out.trans x2);have X12:=Za x2;have B2:=Za (B1.out.ext x2);have QL:Hid (w1.heap.size≤qb∧qb<w2.heap.size):=Za ⟨l2,Zn.lt Q2⟩;have Q2:=Za Q2;obtain⟨k0,k1,k2,k3,k4,k5⟩:=B2.out.k6;clear x2 l2 t0 t1 t2 t3 j0 j1 j2 j3 j4 j5;go_wp2_with fail;refine(OW.out _ X2.out).mono ?_;rintro e w3 ⟨ca3,ta3,cc3,tc3,rfl,n1,n2,sep,x3⟩;obtain⟨g1,rfl,p1,p2,p3⟩:=n1.own LS.out.1;obtain⟨g2,rfl,q1,q2,q3⟩:=n2.own LS.out.2;have OC:Hid (Y7 w3 (some ⟨g1,0,none⟩) (some ⟨g2,0,none⟩) cc3 tc3 c∧w2.heap.size≤g1∧g1<w3.heap.size∧w2.heap.size≤g2∧g2<w3.heap.size):=Za ⟨⟨n1.row,n2.row,Zy6 n1.cap1 n1.cap2,Zy6 n2.cap1 n2.cap2,n1.cap1,n2.cap1,n1.cap2,n2.cap2⟩,p1,p2,q1,q2⟩;have X3:=Za (X2.out.trans x3);have X23:=Za x3;clear n1 n2 sep x3 p1 p2 p3 q1 q2 q3 OW PN k0 k1 k2 k3 k4 k5;obtain⟨W4,hW4,b4,x4⟩:=newBox w3 110 [.slice (some ⟨g1,0,none⟩) c.cl.length cc3,c.page,.slice (some ⟨g2,0,none⟩) c.ts.length tc3,c.wk,c.gr,c.gens,(t:Int),B.yb,qb,(0:Int)];have FIN:Hid (Zsj w c t mb gw gm ws (.returned (.tuple #[w3.heap.size,(0:Int)])) W4):=Za (by
  obtain⟨m1,m2,m3,l1,l2⟩:=M1.out;obtain⟨oc,o1,o2,o3,o4⟩:=OC.out;obtain⟨q1,q2⟩:=QL.out;have s23:=X23.out.size;have s4:w3.heap.size<W4.heap.size:=b4.lt;refine⟨⟨B,qb,w3.heap.size,g1,cc3,g2,tc3,W4.heap.size⟩,rfl,⟨?_,?_,?_,?_,⟨?_,?_,?_,?_,?_⟩,Zy1 _,?_⟩,m1,m2,m3,l1,Zy1 _,X3.out.trans x4⟩
  ·exact Y1.out.ext ((X12.out.trans X23.out).trans x4)
  ·exact Zn.ext Q2.out (X23.out.trans x4)
  ·exact b4
  ·exact oc.ext x4
  ·(try simp only);omega
  ·(try simp only);omega
  ·(try simp only);omega
  ·(try simp only);omega
  ·(try simp only);omega
  ·show(0:Nat)<1099511627776;decide)
 clear X3 X2 X1 Y1 Q2 b4 x4;go_wp2;go_ret2;exact FIN.out
end
def V0(c:Zh)(k:Nat):List Int:=(List.range k).map fun t=>(Yw c t:Int)
theorem Zeq(c:Zh)(k:Nat):(V0 c k).length=k:=by simp[V0]
theorem Ks(c:Zh)(k:Nat):V0 c (k+1)=V0 c k++[(Yw c k:Int)]:=by unfold V0;rw[List.range_succ,List.map_append];rfl
theorem Zer{c:Zh}{k t:Nat}(h:t<k):nth (V0 c k) t=Yw c t:=by simp[nth,List.getD,V0,h]
structure Zgj(w0:World)(c:Zh)(b gw k:Nat)(sv:Value)(wr:World):Prop where
 c0:wr.cell? b=some (.slice (some ⟨gw,0,none⟩) (Zo c) (Zo c))
 c1:wr.cell? ⟨b,1,none⟩=some sv
 row:At .u64 wr (some ⟨gw,0,none⟩) (List.replicate (Zo c) 0)
 own:wr.ownsRow (b+1) 3 1 sv k (ncs .i64 (V0 c k))
 fz:∀o,wr.frozen? ⟨b,o,none⟩=false
 fw:∀o,wr.frozen? ⟨gw,o,none⟩=false
 lo:w0.heap.size≤gw
 gb:gw<b
 ext:Ext w0 wr
theorem Zgj.go{w0 wr w':World}{c:Zh}{b gw k:Nat}{sv:Value}(h:Zgj w0 c b gw k sv wr)(hx:Ext wr w'):Zgj w0 c b gw k sv w':=
 ⟨hx.cell h.c0,hx.cell h.c1,h.row.ext hx,Xe h.own hx,fun o=>by rw[hx.frozen (p:=⟨b,o,none⟩) (show b<wr.heap.size from Zj h.c0)];exact h.fz o,
  fun o=>by rw[hx.frozen (p:=⟨gw,o,none⟩) (show gw<wr.heap.size from Nat.lt_trans h.gb (Zj h.c0))];exact h.fw o,h.lo,h.gb,h.ext.trans hx⟩
theorem Zgj.ne{w0 wr:World}{c:Zh}{b gw k x:Nat}{sv:Value}(h:Zgj w0 c b gw k sv wr)(hx:x≤b):some x≠sv.ownBlock:=fun e=>by
 have:=(h.own.lt x e.symm).1;omega
theorem Zgj.grown{w0 w3 W w4:World}{c:Zh}{b gw k:Nat}{sv:Value}(h:Zgj w0 c b gw k sv w3)(hx:Ext w3 W)(hg:W.grownBy w4 sv.ownBlock) :
  w4.cell? ⟨b,1,none⟩=some sv∧w4.frozen? ⟨b,1,none⟩=false:=by
 have hl:b<w3.heap.size:=Zj h.c0;refine⟨Us hg hx h.c1 (h.ne (Zy1 b)),?_⟩;rw[hg.frozen_far _ (Zy5 hl hx.size) (h.ne (Zy1 b)),hx.frozen (p:=⟨b,1,none⟩) hl];exact h.fz 1
theorem Zgj.push{w0 w3 W w4:World}{c:Zh}{b gw k:Nat}{sv V:Value}(h:Zgj w0 c b gw k sv w3)(hx:Ext w3 W)(hg:W.grownBy w4 sv.ownBlock)(hown:w4.ownsRow (b+1) 3 1 V (k+1) (ncs .i64 (V0 c (k+1)))) :
  Zgj w0 c b gw (k+1) V (w4.setCell ⟨b,1,none⟩ V):=by
 have hl:b<w3.heap.size:=Zj h.c0;have hgl:gw<w3.heap.size:=Nat.lt_trans h.gb hl;have nb:=h.ne (Zy1 b);have ng:=h.ne (x:=gw) (Nat.le_of_lt h.gb);have hgb:=h.gb;have q0:=Us hg hx h.c0 nb;have q1:=(h.grown hx hg).1;have far:∀i u,w3.cell? ⟨gw,i,none⟩=some u→(w4.setCell ⟨b,1,none⟩ V).cell? ⟨gw,i,none⟩=some u:=fun i u hc=>by
  rw[cell_far _ _ _ _ (by show b≠gw;omega)];exact Us hg hx hc ng
 refine⟨?_,Zyz _ _ _ q1,fun i hi=>?_,Va hown (p:=⟨b,1,none⟩) (Nat.lt_succ_self b) _,fun o=>?_,fun o=>?_,h.lo,h.gb,?_⟩
 ·have:=Zy0 w4 ⟨b,1,none⟩ ⟨b,0,none⟩ V (by intro e;cases e);rw[this];exact q0
 ·obtain⟨b',o',e,hc⟩:=h.row i hi;cases e;exact⟨gw,0,rfl,far _ _ hc⟩
 ·simp only[World.frozen?_setCell];rw[hg.frozen_far _ (Zy5 hl hx.size) nb,hx.frozen (p:=⟨b,o,none⟩) hl];exact h.fz o
 ·simp only[World.frozen?_setCell];rw[hg.frozen_far _ (Zy5 hgl hx.size) ng,hx.frozen (p:=⟨gw,o,none⟩) hgl];exact h.fw o
 ·exact((h.ext.trans hx).grown hg fun k' e=>by have:=(h.own.lt k' e).1;have:=h.lo;omega).setCell (p:=⟨b,1,none⟩) (by show w0.heap.size≤b;have:=h.lo;omega) V
theorem Zgj.mem{w0 wr:World}{c:Zh}{b gw:Nat}{sv:Value}(h:Zgj w0 c b gw (c.ts.length+1) sv wr)(ho:KOk c):∃gb,Yo wr b gw gb c (List.replicate (Zo c) 0)∧w0.heap.size≤gb:=by
 have hb:=h.gb;obtain⟨gb,cap,e,h1,h2,_,h4,h5,h6,h7⟩:=Nu (xs:=V0 c (c.ts.length+1)) h.own (by omega);have c1:=h.c1;rw[e] at c1;have:=ho.total_le;refine⟨gb,⟨ho,by simp,⟨Zo c,by simpa using h.c0,by simp,by unfold maxLen;omega⟩,⟨cap,c1,h4,h5⟩,h.row,fun t ht=>?_,h.fw,by omega,by omega⟩,by have:=h.lo;omega⟩;obtain⟨b',o',e',hc⟩:=h6 t (by rw[Zeq];omega);cases e';rw[Nat.zero_add,Zer (by omega)] at hc;exact hc
theorem Zes(n:Nat)(h:n≤8388608):∀W:World,(Instr.makeSlice 72 (.int .i64 (n:Int)) (.int .i64 (n:Int))).run prog W=.ok (.slice (some ⟨W.heap.size,0,none⟩) n n) (W.alloc (.cells (madeCells #[.int .u64 0] n) 34)):=by
 intro W;exact run_make_row' 72 34 (.int .u64 0) 8 underlying72 Jd rfl .i64 .i64 n (by omega) (by omega) W
theorem Zet{w:World}{n:Nat}{t:TypeId}{b:Nat}(hb:w.heap.size=b):At .u64 (w.alloc (.cells (madeCells #[.int .u64 0] n) t)) (some ⟨b,0,none⟩) (List.replicate n 0):=by
 subst hb;refine At.mk fun i hi=>?_
 rw[Zza] at hi;rw[Nat.zero_add,Zg,Im hi];simp[nth,List.getD,hi]
def Zny(c:Zh)(w:World)(e:Ending)(w':World):Prop:=
 ∃b gw gb,e=.returned (.tuple #[.pointer (some ⟨b,0,none⟩),(0:Int)])∧Yo w' b gw gb c (List.replicate (Zo c) 0)∧w.heap.size≤b∧w.heap.size≤gw∧w.heap.size≤gb∧Ext w w'
theorem Zjk{ca ta:Option Addr}{cc tc:Nat}(c:Zh){w:World}(hn:Yc c≠0)(h:Y7 w ca ta cc tc c) :
  Calls prog 60 #[.agg #[.slice ca c.cl.length cc,c.page,.slice ta c.ts.length tc,c.wk,c.gr,c.gens]] w fun e w'=>e=.returned (.tuple #[.pointer none,(2:Int)])∧Ext w w':=by
 obtain⟨hx,h1⟩:=Zd w (Zf ca cc ta tc c);have R:=Za (show Qj c=(0,2) by unfold Qj;rw[if_neg hn]);have H:=Za h;clear h hn;go_enter func60,ntmps60;go_wp2_with fail;refine(Fb c 0 2 R.out (H.out.ext (hx.trans h1))).ze fun w1 h2=>?_;replace h1:=h1.trans h2;clear h2;go_wp2;go_ret2;exact⟨rfl,hx.trans h1⟩
theorem Zu5{ca ta:Option Addr}{cc tc:Nat}(c:Zh){w:World}(hk0:Yc c=0)(h:Y7 w ca ta cc tc c) :
  Calls prog 60 #[.agg #[.slice ca c.cl.length cc,c.page,.slice ta c.ts.length tc,c.wk,c.gr,c.gens]] w (Zny c w):=by
 obtain⟨i0,hi0,hz0,hz1,hz2⟩:=info_parts Dq;obtain⟨hx,h1⟩:=Zd w (Zf ca cc ta tc c);have ho:=Y8 hk0;have K0:=Za hk0;have HO:=Za ho;have t1:=ho.head.2.2.1;have t8:=ho.head.2.2.2.1;have tl:=ho.total_le;have hmk:=Zes (Zo c) tl;have R:=Za (show Qj c=(((Zo c:Nat):Int),0) by
  have:=ho.baseN_eq (t:=c.ts.length) (Zy1 _);unfold Qj;rw[if_pos hk0];unfold Zo;rw[this])
 have H:=Za h;clear h hk0 ho;obtain⟨T,hT⟩:=Zb (Zo c);have ET:=Za hT;rw[hT] at hmk R tl;clear hT;go_enter func60,ntmps60;go_wp2_with fail;refine(Fb c T 0 R.out (H.out.ext (hx.trans h1))).ze fun w1 h2=>?_;replace h1:=h1.trans h2;clear h2;obtain⟨b0,b1,b2,b3,b4,b5⟩:=Vo h1;have hlt1:w.heap.size<w1.heap.size:=Zj b0;go_wp2_with fail;have PR0:Hid (Zgj (w.alloc (.cells #[.slice ca c.cl.length cc,c.page,.slice ta c.ts.length tc,c.wk,c.gr,c.gens] 25)) c (w1.heap.size+1) w1.heap.size 0 (.slice none 0 0) ((w1.alloc (.cells (madeCells #[.int .u64 0] T) 34)).alloc (.cells #[.slice (some ⟨w1.heap.size,0,none⟩) T T,.slice none 0 0] 199))):=Za (by
  have e:(w1.alloc (.cells (madeCells #[.int .u64 0] T) 34)).heap.size=w1.heap.size+1:=by simp
  have x:=(Zy2 (w1.alloc (.cells (madeCells #[.int .u64 0] T) 34))).alloc (.cells #[.slice (some ⟨w1.heap.size,0,none⟩) T T,.slice none 0 0] 199);refine⟨?_,?_,?_,World.ownsRow_nil _ _ _ _,fun o=>?_,fun o=>?_,h1.size,Nat.lt_succ_self _,(h1.alloc _).alloc _⟩
  ·rw[ET.out,←e];exact Zg _ _ _ 0
  ·rw[←e];exact Zg _ _ _ 1
  ·rw[ET.out];exact(Zet rfl).ext x
  ·rw[←e];exact World.frozen?_alloc_at _ _ _ _ rfl
  ·rw[x.frozen (p:=⟨w1.heap.size,o,none⟩) (by simp)];exact World.frozen?_alloc_at _ _ _ _ rfl)
 clear b0 b1 b2 b3 b4 b5 hlt1 h1 hmk
 generalize w1.heap.size=gw at *
 go_loopw [25] (fun kv wr=>∃(k:Nat) (sv:Value),k≤c.ts.length∧kv=.int .i64 k∧Hid (Zgj (w.alloc (.cells #[.slice ca c.cl.length cc,c.page,.slice ta c.ts.length tc,c.wk,c.gr,c.gens] 25)) c (gw+1) gw k sv wr)) (fun kv _=>c.ts.length-(intOf kv).toNat)
 case atStart=>exact⟨0,_,Nat.zero_le _,rfl,PR0⟩
 case round=>
  clear PR0;obtain⟨k,sv,hk,rfl,PR⟩:=hrel;have h1:=PR.out.ext;by_cases hlt:k<c.ts.length
  ·have KB:=Za (show Zcq c k=(((Yw c k:Nat):Int),0) by
    rw[Nq (Th K0.out hlt HO.out.cl.pos),HO.out.baseN_eq (by omega)])
   have BS:=Za (Ks c k);obtain⟨b0,b1,b2,b3,b4,b5⟩:=Vo h1
   generalize Yw c k=B at *
   go_wp2_with fail;clear b0 b1 b2 b3 b4 b5;refine(Zkc c k B 0 KB.out (H.out.ext (hx.trans h1))).ze fun w2 h2=>?_;have PR2:=Za (PR.out.go h2);clear h2 h1;have p1:=PR2.out.c1;have hb2:gw+1<w2.heap.size:=Zj p1
   go_wp2_with (at_builtin;refine wpList_append_lies _ rfl (.tmp 38) (.tmp 40) 22 rfl (gw+1+1) 3 i0 (.int .i64 0) 1 8 underlying22 hi0 hz0 hz1 hz2 rfl (by decide) sv k (ncs .i64 (V0 c k)) rfl (Xe PR2.out.own ((Zy2 _).alloc _)) ⟨w2.heap.size,0,none⟩ 1 1 [.int .i64 B] rfl rfl (Oy _ _ _) (Zcu rfl) (by omega) (by unfold maxLen;omega) (by omega) (by simp;omega) (w2.heap.size+1) (by simp) ?_;intro gg cap w4 hown hgrow hat hlt4;obtain⟨q1,qf⟩:=PR2.out.grown ((Zy2 _).alloc _) hgrow;have PR4:=Za (PR2.out.push ((Zy2 _).alloc _) hgrow (by rw[BS.out,←Rv];exact hown));clear hown hgrow hat)
   go_roundw
   case rel=>exact⟨k+1,_,by omega,by go_num,PR4⟩
   case measure=>simp[intOf];omega
  ·obtain rfl:k=c.ts.length:=by omega
   have BS:=Za (show V0 c (c.ts.length+1)=V0 c c.ts.length++[(T:Int)] by rw[Ks,←ET.out];rfl);have p1:=PR.out.c1;have hb2:gw+1<wr.heap.size:=Zj p1;clear h1
   go_wp2_with (at_builtin;refine wpList_append_lies _ rfl (.tmp 49) (.tmp 51) 22 rfl (gw+1+1) 3 i0 (.int .i64 0) 1 8 underlying22 hi0 hz0 hz1 hz2 rfl (by decide) sv c.ts.length (ncs .i64 (V0 c c.ts.length)) rfl (Xe PR.out.own ((Zy2 _).alloc _)) ⟨wr.heap.size,0,none⟩ 1 1 [.int .i64 T] rfl rfl (Oy _ _ _) (Zcu rfl) (by omega) (by unfold maxLen;omega) (by omega) (by simp;omega) (wr.heap.size+1) (by simp) ?_;intro gg cap w4 hown hgrow hat hlt4;obtain⟨q1,qf⟩:=PR.out.grown ((Zy2 _).alloc _) hgrow;have PR4:=Za (PR.out.push ((Zy2 _).alloc _) hgrow (by rw[BS.out,←Rv];exact hown));clear hown hgrow hat)
   go_ret2;obtain⟨gb,hm,hl⟩:=PR4.out.mem HO.out;have lo:=PR4.out.lo;have sz:w.heap.size≤(w.alloc (.cells #[.slice ca c.cl.length cc,c.page,.slice ta c.ts.length tc,c.wk,c.gr,c.gens] 25)).heap.size:=hx.size;exact⟨gw+1,gw,gb,rfl,hm,by omega,by omega,by omega,hx.trans PR4.out.ext⟩
section
variable{w w' W W':World}{c:Zh}{t:Nat}
theorem Zeu{P:Nat→Prop}{base e s n:Nat}{v:Value}{xs:List Value}(h:w.ownsRow base e s v n xs)(hx:Chg P w w')(hP:∀g,v.ownBlock=some g→¬P g):w'.ownsRow base e s v n xs:=by
 obtain⟨h0,⟨rfl,rfl⟩|⟨g,cap,cur,rfl,hb,hh,r⟩⟩:=h
 ·exact⟨h0,.inl ⟨rfl,rfl⟩⟩
 ·exact⟨h0,.inr ⟨g,cap,cur,rfl,hb,(hx.block g (Array.getElem?_eq_some_iff.1 hh).1 (hP g rfl)).trans hh,r⟩⟩
theorem Chg.grownC{A B:World}{row:Option Nat}(hg:A.grownBy B row):Chg (fun k=>some k=row) A B:=⟨hg.os,hg.tape,hg.output,hg.size,fun k hk hn=>hg.block k hk hn⟩
def Zcm(H:Nat→HB):Nat→List Value
 | 0=>[]
 | k+1=>Zcm H k++[.pointer (some ⟨(H k).hb,0,none⟩)]
theorem Jr(H:Nat→HB):∀k,(Zcm H k).length=k
 | 0=>rfl
 | k+1=>by simp[Zcm,Jr H k]
theorem Znz(H:Nat→HB):∀k i,i<k→(Zcm H k)[i]?=some (.pointer (some ⟨(H i).hb,0,none⟩))
 | 0,i,h=>absurd h (Zzb _)
 | k+1,i,h=>by
  unfold Zcm;by_cases e:i=k
  ·subst e;rw[List.getElem?_append_right (by rw[Jr];exact Zy1 _),Jr];simp
  ·rw[List.getElem?_append_left (by rw[Jr];omega)];exact Znz H k i (by omega)
theorem Es{H H':Nat→HB}:∀k,(∀i,i<k→H i=H' i)→Zcm H k=Zcm H' k
 | 0,_=>rfl
 | k+1,h=>by unfold Zcm;rw[Es k fun i hi=>h i (by omega),h k (by omega)]
structure FnR(w:World)(c:Zh)(fb mb gw gm:Nat)(V6:List Value)(ws:List Int)(k:Nat)(H:Nat→HB)(v:Value)(wr:World):Prop where
 box:Zn wr fb (V6++[(mb:Value),v])
 own:wr.ownsRow (fb+1) 47 1 v k (Zcm H k)
 hp:∀i,i<k→Zv wr (H i) c i c.gr.toNat (hOf c i ws)
 me:∀i,i<k→(H i).B.mb=mb∧(H i).B.gw=gw∧(H i).B.gm=gm
 lo:∀i,i<k→fb<(H i).B.yb
 hi:∀i,i<k→(H i).hi≤wr.heap.size
 ord:∀i j,i<j→j<k→(H i).hi≤(H j).B.yb
 off:∀g,v.ownBlock=some g→∀i,i<k→g<(H i).B.yb∨(H i).hi≤g
 ext:Ext w wr
 fl:fb=w.heap.size∧V6.length=6
 old:mb<fb∧gw<fb∧gm<fb∧0<fb∧2<fb
variable{fb mb gw gm k:Nat}{V6:List Value}{ws:List Int}{H:Nat→HB}{v:Value}{wr wr2 w4:World}
theorem FnR.go(h:FnR w c fb mb gw gm V6 ws k H v wr)(hx:Ext wr wr2):FnR w c fb mb gw gm V6 ws k H v wr2:=
 ⟨h.box.ext hx,Xe h.own hx,fun i hi=>(h.hp i hi).ext hx,h.me,h.lo,fun i hi=>Zy6 (h.hi i hi) hx.size,h.ord,h.off,h.ext.trans hx,h.fl,h.old⟩
theorem FnR.push{Hk:HB}{g cap:Nat}(h:FnR w c fb mb gw gm V6 ws k H v wr)(hk:Zv wr2 Hk c k c.gr.toNat (hOf c k ws))(hm:Hk.B.mb=mb∧Hk.B.gw=gw∧Hk.B.gm=gm)(hl:wr.heap.size≤Hk.B.yb)(hh:Hk.hi≤wr2.heap.size)(x1:Ext wr wr2)(x2:Ext wr2 W)
  (hown:w4.ownsRow (fb+1) 47 1 (.slice (some ⟨g,0,none⟩) (k+1) cap) (k+1) (Zcm H k++[(Hk.hb:Value)])) (hg:W.grownBy w4 v.ownBlock) (hat:v.ownBlock=some g∨g=W.heap.size) :
  FnR w c fb mb gw gm V6 ws (k+1) (fun i=>if i=k then Hk else H i) (.slice (some ⟨g,0,none⟩) (k+1) cap) (w4.setCell ⟨fb,7,none⟩ (.slice (some ⟨g,0,none⟩) (k+1) cap)):=by
 have hW:=(h.go x1).go x2;have hkW:=hk.ext x2;have ow:=hW.own.lt;have ow1:=h.own.lt;have f6:=h.fl.2;have c7:Chg (fun b=>b=fb) w4 (w4.setCell ⟨fb,7,none⟩ (.slice (some ⟨g,0,none⟩) (k+1) cap)):=Chg.setCell (P:=fun j=>j=fb) (p:=⟨fb,7,none⟩) (Chg.refl _ w4) (.inl rfl) _;have x5:Chg (fun b=>some b=v.ownBlock∨b=fb) W (w4.setCell ⟨fb,7,none⟩ (.slice (some ⟨g,0,none⟩) (k+1) cap)):=((Chg.grownC hg).mono fun b e=>.inl e).trans (c7.mono fun b e=>.inr e);have o:=h.old;have lk:fb<Hk.B.yb:=by
  have:=h.box.lt;omega
 have offk:∀b,v.ownBlock=some b→b<Hk.B.yb:=fun b e=>by have:=(ow1 b e).2;omega
 have keep:∀{B:HB} {i:Nat} {x:HP},Zv W B c i c.gr.toNat x→B.B.mb=mb∧B.B.gw=gw∧B.B.gm=gm→fb<B.B.yb→(∀b,v.ownBlock=some b→b<B.B.yb∨B.hi≤b)→Zv (w4.setCell ⟨fb,7,none⟩ (.slice (some ⟨g,0,none⟩) (k+1) cap)) B c i c.gr.toNat x:=by
  intro B i x hp me lo of_;have bm:=hp.cy.i.k.body;have nP:∀b,b<fb→¬(some b=v.ownBlock∨b=fb):=fun b hb q=>by
   rcases q with q|q
   ·have:=(ow b q.symm).1;omega
   ·omega
  refine hp.other x5 (fun b q=>?_) (bm.mem.chg x5 (nP _ (by omega)) (nP _ (by omega)) (nP _ (by omega))) bm.ok;refine .inr ?_;rcases q with q|q
  ·have q1:=ow b q.symm;have q2:=of_ b q.symm;refine⟨q2,?_,?_,?_,?_⟩<;>omega
  ·refine⟨.inl (by omega),?_,?_,?_,?_⟩<;>omega
 refine⟨?_,?_,fun i hi=>?_,fun i hi=>?_,fun i hi=>?_,fun i hi=>?_,fun i j hi hj=>?_,fun b e i hi=>?_,x5.over hW.ext fun b q=>?_,h.fl,h.old⟩
 ·have b1:=hW.box.chg (Chg.grownC hg) (fun q=>by have:=(ow fb q.symm).1;omega);have b2:=b1.set (i:=7) (by rw[Zy9,f6];show 7<8;decide) (.slice (some ⟨g,0,none⟩) (k+1) cap);have e:(V6++[(mb:Value),v]).set 7 (.slice (some ⟨g,0,none⟩) (k+1) cap)=V6++[(mb:Value),.slice (some ⟨g,0,none⟩) (k+1) cap]:=by
   match V6,f6 with
   | [a0,a1,a2,a3,a4,a5],_=>rfl
  rw[e] at b2;exact b2
 ·have e:Zcm (fun i=>if i=k then Hk else H i) (k+1)=Zcm H k++[(Hk.hb:Value)]:=by
   show Zcm (fun i=>if i=k then Hk else H i) k++[.pointer (some ⟨(if k=k then Hk else H k).hb,0,none⟩)]=_
   rw[Es (H:=fun i=>if i=k then Hk else H i) (H':=H) k fun i hi=>if_neg (show ¬i=k by omega),if_pos rfl]
  rw[e];exact Va hown (by show fb<fb+1;omega) _
 ·by_cases e:i=k
  ·subst e;rw[if_pos rfl];exact keep hkW hm lk fun b e=>.inl (offk b e)
  ·rw[if_neg e];exact keep (hW.hp i (by omega)) (h.me i (by omega)) (h.lo i (by omega)) fun b q=>h.off b q i (by omega)
 ·by_cases e:i=k
  ·rw[if_pos e];exact hm
  ·rw[if_neg e];exact h.me i (by omega)
 ·by_cases e:i=k
  ·rw[if_pos e];exact lk
  ·rw[if_neg e];exact h.lo i (by omega)
 ·have s5:=x5.size;have s2:=x2.size;have s1:=x1.size;by_cases e:i=k
  ·rw[if_pos e];omega
  ·rw[if_neg e];have:=h.hi i (by omega);omega
 ·have e1:i≠k:=by omega
  rw[if_neg e1];by_cases e:j=k
  ·rw[if_pos e];have:=h.hi i (by omega);omega
  ·rw[if_neg e];exact h.ord i j hi (by omega)
 ·have eb:g=b:=by simpa [Value.ownBlock] using e
  subst eb;have s2:=x2.size;have s1:=x1.size;rcases hat with q|q
  ·by_cases e:i=k
   ·rw[if_pos e];exact .inl (offk _ q)
   ·rw[if_neg e];exact h.off _ q i (by omega)
  ·right
   by_cases e:i=k
   ·rw[if_pos e];omega
   ·rw[if_neg e];have:=h.hi i (by omega);omega
 ·have:=h.fl.1;rcases q with q|q
  ·have:=(ow b q.symm).1;omega
  ·omega
def hb0:HB:=⟨⟨0,0,0,0,0,0,0,0,0,0,0,0,0,0,0,0,0,0,0,0,0,0,0,0,0,0,0,0,0,0,0,0,0,0,0,0,0,0,0,0,0⟩,0,0,0,0,0,0,0⟩
theorem Zsl{base n:Nat}(h:w.ownsRow base 47 1 v n (Zcm H n))(h0:0<n):∃g cap,v=.slice (some ⟨g,0,none⟩) n cap∧base≤g∧g<w.heap.size∧n≤cap∧cap≤maxLen∧∀i,i<n→w.cell? ⟨g,i,none⟩=some (.pointer (some ⟨(H i).hb,0,none⟩)):=by
 have h':=h;obtain⟨_,⟨rfl,rfl⟩|⟨g,cap,cur,rfl,hb,hh,hc,hm,hs,ht⟩⟩:=h
 ·exact absurd h0 (Nat.lt_irrefl 0)
 ·exact⟨g,cap,rfl,hb,(Array.getElem?_eq_some_iff.1 hh).1,hc,hm,fun i hi=>by rw[h'.cellAt _ (by omega)];exact Znz H n i hi⟩
def Zu6(w:World)(c:Zh)(e:Ending)(w':World):Prop:=
 ∃M:FB,e=.returned (.tuple #[M.fb,(0:Int)])∧Hs w' M c c.gr.toNat (fun i=>hOf c i (List.replicate (Zo c) 0)) (List.replicate (Zo c) 0)∧w.heap.size≤M.lo∧Ext w w'
theorem Zwx:(prog.info? 47).map (fun i=>(i.zero,i.size,i.bytes))=some (some (.pointer none),1,8):=by kernel_rfl
theorem Zev{ca ta:Option Addr}{cc tc:Nat}(hc:Y7 w ca ta cc tc c)(hk:Yc c≠0):Calls prog 32 #[.agg #[.slice ca c.cl.length cc,c.page,.slice ta c.ts.length tc,c.wk,c.gr,c.gens]] w fun e w'=>e=.returned (.tuple #[.pointer none,(2:Int)])∧Ext w w':=by
 obtain⟨W0,hW0,b0,x0⟩:=newBox w 25 [.slice ca c.cl.length cc,c.page,.slice ta c.ts.length tc,c.wk,c.gr,c.gens];have MN:=Za (Zjk c hk (hc.ext x0));have X0:=Za x0;obtain⟨k0,k1,k2,k3,k4,k5⟩:=b0.k6;clear b0 hc hk x0;go_enter func32,ntmps32;go_wp2_with fail;refine MN.out.ze fun w1 x1=>?_;go_wp2;go_ret2;exact⟨rfl,X0.out.trans x1⟩
theorem Zsm{ca co ta to_ cc tc:Nat}(hc:Y7 w (some ⟨ca,co,none⟩) (some ⟨ta,to_,none⟩) cc tc c)(hk:Yc c=0)(hw:Wid w)(hT:Tab w)(hg:0<w.heap.size∧2<w.heap.size) :
  Calls prog 32 #[.agg #[.slice (some ⟨ca,co,none⟩) c.cl.length cc,c.page,.slice (some ⟨ta,to_,none⟩) c.ts.length tc,c.wk,c.gr,c.gens]] w (Zu6 w c):=by
 obtain⟨i0,hi0,hz0,hz1,hz2⟩:=info_parts Zwx;obtain⟨z,hz⟩:=Zb (w.heap.size);obtain⟨W0,hW0,b0,x0⟩:=newBox w 25 [.slice (some ⟨ca,co,none⟩) c.cl.length cc,c.page,.slice (some ⟨ta,to_,none⟩) c.ts.length tc,c.wk,c.gr,c.gens];rw[hz] at b0;have ho:=Y8 hk;have MN:=Za (Zu5 c hk (hc.ext x0));have B0:=Za b0;have X0:=Za x0;have HC:=Za hc;have HO:=Za (And.intro ho hk);have GW:=Za (And.intro hw (And.intro hT hg));have LS:=Za (show 0<c.cl.length∧0<c.ts.length from ⟨ho.cl.pos,by have:=ho.head.2.2.1;omega⟩);have OW:=Za (fun W (q:Ext w W)=>Zgi c (hc.ext q) (by have:=ho.cl.most;omega) (by have:=ho.head.2.2.2.1;omega));obtain⟨k0,k1,k2,k3,k4,k5⟩:=b0.k6;clear b0 hk hc ho hw hT hg;unfold Zny at MN;go_enter func32,ntmps32;go_wp2_with fail;refine MN.out.mono ?_;rintro e w1 ⟨mb,gw,gm,rfl,M1,l1,l2,l3,x1⟩;have X1:=Za (X0.out.trans x1);have B1:=Za (B0.out.ext x1);have ML:=Za (show z≤mb∧z≤gw∧z≤gm∧mb<w1.heap.size∧gw<w1.heap.size∧gm<w1.heap.size from by have:=M1.lt;have:=X0.out.size;omega);have M1:=Za M1;obtain⟨j0,j1,j2,j3,j4,j5⟩:=B1.out.k6;clear x1 l1 l2 l3 MN k0 k1 k2 k3 k4 k5;go_wp2_with fail;refine(OW.out _ X1.out).mono ?_;rintro e w2 ⟨ca3,ta3,cc3,tc3,rfl,n1,n2,sep,x2⟩;obtain⟨g1,rfl,p1,p2,p3⟩:=n1.own LS.out.1;obtain⟨g2,rfl,q1,q2,q3⟩:=n2.own LS.out.2;have X2:=Za (X1.out.trans x2);have B2:=Za (B1.out.ext x2);have M2:=Za (M1.out.ext x2);have ML2:=Za (show z≤mb∧z≤gw∧z≤gm∧mb<w2.heap.size∧gw<w2.heap.size∧gm<w2.heap.size from by have:=ML.out;have:=x2.size;omega);obtain⟨fb,hfb⟩:=Zb (w2.heap.size);obtain⟨W3,hW3,b3,x3⟩:=newBox w2 107 [.slice (some ⟨g1,0,none⟩) c.cl.length cc3,c.page,.slice (some ⟨g2,0,none⟩) c.ts.length tc3,c.wk,c.gr,c.gens,mb,.slice none 0 0];rw[hfb] at b3;obtain⟨ws,hws⟩:=Zb (List.replicate (Zo c) (0:Int));have HWS:=Za hws;have R0:Hid (FnR w2 c fb mb gw gm [.slice (some ⟨g1,0,none⟩) c.cl.length cc3,c.page,.slice (some ⟨g2,0,none⟩) c.ts.length tc3,c.wk,c.gr,c.gens] ws 0 (fun _=>hb0) (.slice none 0 0) W3):=Za ⟨b3,World.ownsRow_nil _ _ _ _,fun _ q=>absurd q (Zzb _),fun _ q=>absurd q (Zzb _),fun _ q=>absurd q (Zzb _),fun _ q=>absurd q (Zzb _),fun _ _ _ q=>absurd q (Zzb _),fun _ _ _ q=>absurd q (Zzb _),x3,⟨hfb.symm,rfl⟩,by have a:=ML2.out;have b:=GW.out.2.2;have d:=X2.out.size;omega⟩;have HNW:Hid (∀W,Ext w2 W→∀t,t<c.ts.length→Calls prog 62 #[.agg #[.slice (some ⟨ca,co,none⟩) c.cl.length cc,c.page,.slice (some ⟨ta,to_,none⟩) c.ts.length tc,c.wk,c.gr,c.gens],(t:Int),mb] W (Zsj W c t mb gw gm ws)):=Za fun W q t ht=>by
  have s:=q.size;have xx:=X2.out.trans q;have gg:=GW.out.2.2;have ml:=ML2.out;have ww:=X2.out.size;exact Zsk (HC.out.ext xx) HO.out.2 ht (by have:=M2.out.ext q;rw[hws] at this;exact this) (GW.out.1.chg (P:=fun _=>False) (Zy3 xx) id) (GW.out.2.1.chgT (P:=fun _=>False) (Zy3 xx) id) (by rw[←hws];exact WOk.rep _) ⟨by omega,by omega⟩ ⟨by omega,by omega,by omega,by omega,by omega⟩
 have X23:=Za x3;have NB:Hid (c.ts.length≤8∧1≤c.ts.length):=Za (by have:=HO.out.1.head.2.2.2.1;have:=LS.out.2;omega);have B3:=Za (B2.out.ext x3);obtain⟨k0,k1,k2,k3,k4,k5⟩:=B3.out.k6;unfold Zsj at HNW;clear n1 n2 sep x2 p1 p2 p3 q1 q2 q3 OW j0 j1 j2 j3 j4 j5 b3 x3 hws;go_wp2_with fail
 go_loopw [26] (fun iv wr=>∃(k:Nat) (H:Nat→HB) (v:Value),k≤c.ts.length∧iv=.int .i64 (k:Int)∧Hid (FnR w2 c fb mb gw gm [.slice (some ⟨g1,0,none⟩) c.cl.length cc3,c.page,.slice (some ⟨g2,0,none⟩) c.ts.length tc3,c.wk,c.gr,c.gens] ws k H v wr)) (fun iv _=>c.ts.length-(intOf iv).toNat)
 case atStart=>exact⟨0,_,_,Nat.zero_le _,rfl,R0⟩
 case round=>
  clear R0 B3 X23;obtain⟨k,H,v,hk,rfl,HR⟩:=hrel;obtain⟨wo,rfl⟩:∃wo:World,wo=wr:=⟨_,rfl⟩;have B4:=Za (B2.out.ext HR.out.ext);obtain⟨k0,k1,k2,k3,k4,k5⟩:=B4.out.k6;by_cases hlt:k<c.ts.length
  ·have HN:=Za (HNW.out wo HR.out.ext k hlt);go_wp2_with fail;refine HN.out.mono ?_;rintro e w5 ⟨Hk,rfl,h5,m1,m2,m3,l1,l2,x5⟩;have R5:=Za (HR.out.go x5);have PU:=Za (fun W g cap w4 (x2:Ext w5 W) (hown:w4.ownsRow (fb+1) 47 1 (.slice (some ⟨g,0,none⟩) (k+1) cap) (k+1) (Zcm H k++[(Hk.hb:Value)])) (hg:W.grownBy w4 v.ownBlock) (hat:v.ownBlock=some g∨g=W.heap.size)=>HR.out.push h5 ⟨m1,m2,m3⟩ l1 l2 x5 x2 hown hg hat);have v7:=R5.out.box.c 7 _ rfl;obtain⟨Y,hY⟩:=Zb (w5.heap.size);have HY:=Za hY;have nb:=NB.out.1;have BY:=Za (show(k+1)*8≤140737488355328 by omega);have ML:=Za (show k+1≤maxLen by unfold maxLen;omega);have BS:=Za (show fb+1≤w5.heap.size+1 by have:=R5.out.box.lt;omega);clear x5 h5 m1 m2 m3 l1 l2 k0 k1 k2 k3 k4 k5 HN
   go_wp2_with (at_builtin;refine wpList_append_lies _ rfl (.tmp 40) (.tmp 42) 105 rfl (fb+1) 47 i0 (.pointer none) 1 8 underlying105 hi0 hz0 hz1 hz2 rfl (by decide) v k (Zcm H k) rfl (R5.out.own.alloc _) ⟨Y,0,none⟩ 1 1 [Hk.hb] rfl rfl (Zu4 w5 [Hk.hb] _ HY.out) (by simp[Value.oneCell']) (by decide) ML.out BY.out (by simp only[World.size_alloc];exact BS.out) (Y+1) (by simp only[World.size_alloc];rw[HY.out]) ?_;intro gg cap w6 hown2 hgrow hat hlt2;have xa:Ext w5 (w5.alloc (.cells #[Hk.hb] 47)):=(Zy2 _).alloc _;have B6:=(R5.out.box.ext xa).chg (Chg.grownC hgrow) (fun q=>by have:=(R5.out.own.lt _ q.symm).1;omega);have c67:=B6.c 7 _ rfl;have f67:=B6.f 7;have PR:=Za (PU.out _ _ _ _ xa hown2 hgrow (by simp only[World.size_alloc];rw[HY.out];exact hat));clear hown2 hgrow hat hlt2 xa B6)
   go_roundw
   case rel=>exact⟨k+1,_,_,by omega,by go_num,PR⟩
   case measure=>simp[intOf];omega
  ·obtain rfl:k=c.ts.length:=by omega
   obtain⟨hg,hcap,rfl,o1,o2,o3,o4,o5⟩:=Zsl HR.out.own LS.out.2;have FIN:Hid (Zu6 w c (.returned (.tuple #[fb,(0:Int)])) wo):=Za (by
    have R:=HR.out;have ml:=ML2.out;have fl:=R.fl.1;have sz:=X2.out.size;refine⟨⟨fb,mb,gw,gm,g1,cc3,g2,tc3,hg,hcap,H,z,wo.heap.size⟩,rfl,⟨R.box,o5,?_,R.me,fun _ _=>rfl,R.ord,fun i hi=>⟨?_,R.hi i hi⟩,⟨ml.2.1,?_⟩,fun i hi=>⟨.inl (R.lo i hi),R.off hg rfl i hi⟩,⟨?_,?_⟩,⟨R.box.lt,o2⟩,Zy1 _,⟨o3,o4⟩,LS.out.2⟩,?_,X2.out.trans R.ext⟩
    ·have:=R.hp;rw[←HWS.out] at this;exact this
    ·have:=R.lo i hi;(try simp only);omega
    ·have:=R.ext.size;(try simp only);omega
    ·(try simp only);omega
    ·(try simp only);omega
    ·(try simp only);omega)
   clear HR;go_wp2;go_ret2;exact FIN.out
end
section
variable{w w' W:World}
def Qf(s:Sn):List Value:=[.int .i64 s.e,.int .u64 s.h,.int .u64 s.w,.int .i64 s.addr,.int .i64 s.used,.int .i64 s.since,.int .i64 s.cyc,.bool s.act]
def Bu(s:Sn):Value:=.agg #[s.e,.int .u64 s.h,.int .u64 s.w,s.addr,s.used,s.since,s.cyc,.bool s.act]
def wcs(p:Int × Sn):List Value:=.int .i64 p.1 :: Qf p.2
def Ul(p:Int × Sn):Value:=.agg #[.int .i64 p.1,p.2.e,.int .u64 p.2.h,.int .u64 p.2.w,p.2.addr,p.2.used,p.2.since,p.2.cyc,.bool p.2.act]
def Zjl:List (Int × Sn)→List Value
 | []=>[]
 | p :: r=>wcs p++Zjl r
def Ac:List Sn→List Value
 | []=>[]
 | p :: r=>Qf p++Ac r
theorem Bv(p:Int × Sn):(wcs p).length=9:=rfl
theorem Qg(p:Sn):(Qf p).length=8:=rfl
theorem Zgk:∀L:List Sn,(Ac L).length=L.length*8
 | []=>rfl
 | p :: r=>by rw[Ac,Zy9,Zgk r,Qg,List.length_cons];omega
theorem Zb2(p:Int × Sn):∀L:List (Int × Sn),Zjl (L++[p])=Zjl L++wcs p
 | []=>by simp[Zjl]
 | q :: r=>by rw[List.cons_append,Zjl,Zb2 p r,Zjl,List.append_assoc]
theorem Zb3(p:Sn):∀L:List Sn,Ac (L++[p])=Ac L++Qf p
 | []=>by simp[Ac]
 | q :: r=>by rw[List.cons_append,Ac,Zb3 p r,Ac,List.append_assoc]
theorem Zn0:∀(L:List (Int × Sn)) (i j:Nat),i<L.length→j<9→(Zjl L)[i*9+j]?=(wcs (wn L i))[j]?
 | [],i,_,h,_=>absurd h (Zzb _)
 | p :: r,0,j,_,hj=>by rw[Zjl,List.getElem?_append_left (by rw[Bv];omega),Nat.zero_mul,Nat.zero_add];rfl
 | p :: r,i+1,j,h,hj=>by
  rw[Zjl,List.getElem?_append_right (by rw[Bv];omega),Bv,show(i+1)*9+j-9=i*9+j by omega,Zn0 r i j (by simpa using h) hj];rfl
def sn_(L:List Sn)(i:Nat):Sn:=L.getD i sn0
theorem Zn1:∀(L:List Sn) (i j:Nat),i<L.length→j<8→(Ac L)[i*8+j]?=(Qf (sn_ L i))[j]?
 | [],i,_,h,_=>absurd h (Zzb _)
 | p :: r,0,j,_,hj=>by rw[Ac,List.getElem?_append_left (by rw[Qg];omega),Nat.zero_mul,Nat.zero_add];rfl
 | p :: r,i+1,j,h,hj=>by
  rw[Ac,List.getElem?_append_right (by rw[Qg];omega),Qg,show(i+1)*8+j-8=i*8+j by omega,Zn1 r i j (by simpa using h) hj];rfl
theorem Hu(L:List (Int × Sn))(t:Int):∀k,(Sv L t k).length≤k
 | 0=>Zy1 _
 | k+1=>by unfold Sv;rw[Zy9];have:=Hu L t k;split<;>simp<;>omega
def Zjm(w:World)(a:Option Addr)(L:List (Int × Sn)):Prop:=
 ∀i,i<L.length→∃b o,a=some ⟨b,o,none⟩∧∀j u,(wcs (wn L i))[j]?=some u→w.cell? ⟨b,o+i*9+j,none⟩=some u
theorem Zjm.ext{a:Option Addr}{L:List (Int × Sn)}(h:Zjm w a L)(hx:Ext w w'):Zjm w' a L:=fun i hi=>by
 obtain⟨b,o,e,c⟩:=h i hi;exact⟨b,o,e,fun j u q=>hx.cell (c j u q)⟩
theorem Zn2{tb:Nat}{t:Int}{p:Int × Sn}{r:Bool}(hc:w.cell? tb=some (.int .i64 t))(hr:(p.1==t)=r):Calls prog 77 #[Ul p,tb] w fun e w'=>e=.returned (.tuple #[Bu p.2,r])∧Ext w w':=by
 obtain⟨z,hz⟩:=Zb (w.heap.size);obtain⟨q,s0,s1,s2,s3,s4,s5,s6,s7⟩:=p;unfold Ul Bu
 (try simp only at hr ⊢)
 obtain⟨W0,hW0⟩:=Zb ((w.alloc (.cells #[.int .i64 q,s0,.int .u64 s1,.int .u64 s2,s3,s4,s5,s6,s7] 44)).alloc (.cells #[(0:Int),.int .u64 0,.int .u64 0,(0:Int),(0:Int),(0:Int),(0:Int),false] 42));have x0:Ext w W0:=by rw[←hW0];exact((Zy2 w).alloc _).alloc _
 have b0:Zn W0 z [.int .i64 q,s0,.int .u64 s1,.int .u64 s2,s3,s4,s5,s6,s7]:=by rw[←hW0];exact(Zn.new w [.int .i64 q,s0,.int .u64 s1,.int .u64 s2,s3,s4,s5,s6,s7] _ hz).ext ((Zy2 _).alloc _)
 have b1:Zn W0 (z+1) [(0:Int),.int .u64 0,.int .u64 0,(0:Int),(0:Int),(0:Int),(0:Int),false]:=by rw[←hW0];exact Zn.new _ [(0:Int),.int .u64 0,.int .u64 0,(0:Int),(0:Int),(0:Int),(0:Int),false] 42 (by simp[hz])
 have ct:=x0.cell hc;have tl:=Zj hc;have FIN:Hid (Zn (put8w W0 (z+1) (.int .i64 s0) (.int .u64 s1) (.int .u64 s2) (.int .i64 s3) (.int .i64 s4) (.int .i64 s5) (.int .i64 s6) (.bool s7)) (z+1) [s0,.int .u64 s1,.int .u64 s2,s3,s4,s5,s6,s7]∧Ext w (put8w W0 (z+1) (.int .i64 s0) (.int .u64 s1) (.int .u64 s2) (.int .i64 s3) (.int .i64 s4) (.int .i64 s5) (.int .i64 s6) (.bool s7))):=Za ⟨b1.put8w _ _ _ _ _ _ _ _,(Rn W0 (z+1) _ _ _ _ _ _ _ _).over x0 fun k e=>by have e1:k=z+1:=e;omega⟩;have n1:z+1≠z:=by omega
 have n2:z+1≠tb:=by (try simp only at tl);omega
 have n3:z≠z+1:=by omega
 have n4:tb≠z+1:=by omega
 obtain⟨k0,k1,k2,k3,k4,k5,k6,k7,k8⟩:=b0.k9;obtain⟨q0,q1,q2,q3,q4,q5,q6,q7⟩:=b1.k8;obtain⟨r0,r1,r2,r3,r4,r5,r6,r7⟩:=b1.g8;clear b0 b1 x0 hc tl;go_enter func77,ntmps77;go_wp2_with fail
 go_region_held3 (fun W'=>W'.cell? z=some (.int .i64 q)∧W'.cell? ⟨z,1,none⟩=some (.int .i64 s0)∧W'.cell? ⟨z,2,none⟩=some (.int .u64 s1)∧W'.cell? ⟨z,3,none⟩=some (.int .u64 s2)∧W'.cell? ⟨z,4,none⟩=some (.int .i64 s3)∧W'.cell? ⟨z,5,none⟩=some (.int .i64 s4)∧W'.cell? ⟨z,6,none⟩=some (.int .i64 s5)∧W'.cell? ⟨z,7,none⟩=some (.int .i64 s6)∧W'.cell? ⟨z,8,none⟩=some (.bool s7)∧W'.cell? tb=some (.int .i64 t))
  ((first|go_keep|assumption|(go_split_ands;assumption))) (fail)
 all_goals
  go_wp2_with fail;obtain⟨r8,xx⟩:=FIN.out;have r8:=r8.ext (Zy2 _).drew;obtain⟨p0,p1,p2,p3,p4,p5,p6,p7⟩:=r8.k8;refine bodyPost_ret (v:=.tuple #[.agg #[s0,.int .u64 s1,.int .u64 s2,s3,s4,s5,s6,s7],r]) (by simp[results,results77,go_sem,p0,p1,p2,p3,p4,p5,p6,p7]) rfl ⟨rfl,xx.drew⟩
theorem Zx1:(prog.info? 42).map (fun i=>(i.zero,i.size,i.bytes))=some (some (.agg #[(0:Int),.int .u64 0,.int .u64 0,(0:Int),(0:Int),(0:Int),(0:Int),false]),8,64):=by kernel_rfl
theorem Zb4{a:Option Addr}{cap tb:Nat}{t:Int}(L:List (Int × Sn))(h:Zjm w a L)(hl:L.length≤1000)(hc:w.cell? tb=some (.int .i64 t)) :
  Calls prog 76 #[.slice a L.length cap,.func (.func 77) #[] #[tb]] w fun e w'=>∃v,e=.returned v∧w'.ownsRow w.heap.size 42 8 v (Sv L t L.length).length (Ac (Sv L t L.length))∧Ext w w':=by
 obtain⟨i0,hi0,hz0,hz1,hz2⟩:=info_parts Zx1;obtain⟨N,hN⟩:=Zb (L.length);have H:=Za h;have HN:=Za hN;have HC:=Za hc;have CB:=Za (fun W (x:Ext w W) (p:Int × Sn) (r:Bool) (e:(p.1==t)=r)=>Zn2 (p:=p) (x.cell hc) e);have eg:Zi prog 77:=Zi.mk func77 (by kernel_rfl) rfl;unfold Zi at eg;rw[hN] at hl ⊢;clear h hN hc;go_enter func76,ntmps76;go_wp2_with fail
 go_loopw [5,12] (fun sv iv wr=>∃k:Nat,k≤N∧iv=.int .i64 (k:Int)∧Hid (wr.ownsRow w.heap.size 42 8 sv (Sv L t k).length (Ac (Sv L t k)))∧Hid (Ext w wr)) (fun _ iv _=>N-(intOf iv).toNat)
 case atStart=>exact⟨0,Nat.zero_le _,rfl,World.ownsRow_nil _ _ _ _,Za (Zy2 w)⟩
 case round=>
  obtain⟨k,hk,rfl,HO,HX⟩:=hrel;obtain⟨wo,rfl⟩:∃wo:World,wo=wr:=⟨_,rfl⟩;by_cases hlt:k<N
  ·obtain⟨b,o,rfl,ec⟩:=H.out k (by rw[HN.out];exact hlt);have SK:Sv L t (k+1)=Sv L t k++(if (wn L k).1=t then [(wn L k).2] else []):=rfl;have HS:=Za SK;have cb:=CB.out
   generalize wn L k=p at *
   obtain⟨q,s0,s1,s2,s3,s4,s5,s6,s7⟩:=p;have k0:=HX.out.cell (ec 0 _ rfl);have k1:=HX.out.cell (ec 1 _ rfl);have k2:=HX.out.cell (ec 2 _ rfl);have k3:=HX.out.cell (ec 3 _ rfl);have k4:=HX.out.cell (ec 4 _ rfl);have k5:=HX.out.cell (ec 5 _ rfl);have k6:=HX.out.cell (ec 6 _ rfl);have k7:=HX.out.cell (ec 7 _ rfl);have k8:=HX.out.cell (ec 8 _ rfl);simp only[Nat.add_zero] at k0;clear ec SK;obtain⟨W1,hW1,b1,x1⟩:=newBox wo 44 [.int .i64 q,s0,.int .u64 s1,.int .u64 s2,s3,s4,s5,s6,s7];have B1:=Za b1;have X1:=Za x1
   go_upto_region 5 with fail
   try rw[hW1]
   obtain⟨l0,l1,l2,l3,l4,l5,l6,l7,l8⟩:=B1.out.k9;clear hW1 k0 k1 k2 k3 k4 k5 k6 k7 k8 b1 x1;by_cases qt:q=t
   ·rw[if_pos (show((⟨q,s0,s1,s2,s3,s4,s5,s6,s7⟩:Int × Sn)).1=t from qt)] at HS;have qe:=qt.symm;clear qt;subst qe;have tq:=Za (show(t==t)=true by simp);have CL:=Za (cb W1 (HX.out.trans X1.out) ⟨t,s0,s1,s2,s3,s4,s5,s6,s7⟩ true tq.out);unfold Ul Bu at CL
    (try simp only at CL)
    go_wp2_with fail;refine CL.out.ze fun w2 x2=>?_;have X2:=Za x2;obtain⟨W3,hW3,b3,x3⟩:=newBox w2 42 [s0,.int .u64 s1,.int .u64 s2,s3,s4,s5,s6,s7];have X3:=Za (X1.out.trans (x2.trans x3));clear x2 x3 CL
    go_upto_region 6 with fail
    try rw[hW3]
    obtain⟨m0,m1,m2,m3,m4,m5,m6,m7⟩:=b3.k8;clear hW3 b3;have X4:=Za (HX.out.trans X3.out);have hsz:=X4.out.size;obtain⟨M,hM⟩:=Zb ((Sv L t k).length);have ml:M≤1000:=by have:=Hu L t k;omega
    have HO2:=Za (Xe HO.out X3.out);rw[hM] at HO2;have HMM:=Za hM;obtain⟨Y,hY⟩:=Zb (W3.heap.size);clear hM;have BY:=Za (show(M+1)*64≤140737488355328 by omega);have ML:=Za (show M+1≤maxLen by unfold maxLen;omega);have BS:=Za (show w.heap.size≤W3.heap.size+1 by omega);have HY:=Za hY;clear ml hsz
    go_wp2_with (at_builtin;refine wpList_append_lies _ rfl (.tmp 23) (.tmp 25) 54 rfl w.heap.size 42 i0 (.agg #[(0:Int),.int .u64 0,.int .u64 0,(0:Int),(0:Int),(0:Int),(0:Int),false]) 8 64 underlying54 hi0 hz0 hz1 hz2 rfl (by decide) _ M (Ac (Sv L t k)) rfl (HO2.out.alloc _) ⟨Y,0,none⟩ 1 1 [s0,.int .u64 s1,.int .u64 s2,s3,s4,s5,s6,s7] rfl rfl (Zu4 W3 [s0,.int .u64 s1,.int .u64 s2,s3,s4,s5,s6,s7] _ HY.out) (by simp[Value.oneCell']) (by decide) ML.out BY.out (by simp only[World.size_alloc];exact BS.out) (Y+1) (by simp only[World.size_alloc];rw[HY.out]) ?_;intro gg cap w4 hown2 hgrow hat hlt2;have HW:=Za hown2;have hx2:=Za ((X4.out.alloc (.cells #[s0,.int .u64 s1,.int .u64 s2,s3,s4,s5,s6,s7] 42)).grown hgrow fun k e=>(HO2.out.lt k e).1);clear hown2 hgrow hat hlt2)
    go_roundw
    case rel=>exact⟨k+1,by omega,by go_num,by unfold Hid;rw[HS.out,Zy9,HMM.out,Zb3];exact HW.out,hx2⟩
    case measure=>simp[intOf];omega
   ·rw[if_neg (show ¬((⟨q,s0,s1,s2,s3,s4,s5,s6,s7⟩:Int × Sn)).1=t from qt),List.append_nil] at HS;have tq:=Za (show(q==t)=false by simpa using qt);clear qt;have CL:=Za (cb W1 (HX.out.trans X1.out) ⟨q,s0,s1,s2,s3,s4,s5,s6,s7⟩ false tq.out);unfold Ul Bu at CL
    (try simp only at CL)
    go_wp2_with fail;refine CL.out.ze fun w2 x2=>?_;have X2:=Za x2;obtain⟨W3,hW3,b3,x3⟩:=newBox w2 42 [s0,.int .u64 s1,.int .u64 s2,s3,s4,s5,s6,s7];have X3:=Za (X1.out.trans (x2.trans x3));clear x2 x3 CL
    go_upto_region 6 with fail
    try rw[hW3]
    obtain⟨m0,m1,m2,m3,m4,m5,m6,m7⟩:=b3.k8;clear hW3 b3;have X4:=Za (HX.out.trans X3.out);have HO2:=Za (Xe HO.out X3.out);go_wp2;go_roundw
    case rel=>exact⟨k+1,by omega,by go_num,by unfold Hid;rw[HS.out];exact HO2.out,X4⟩
    case measure=>simp[intOf];omega
  ·obtain rfl:k=N:=by omega
   have ho:=HO.out;clear HO;have FIN:=Za (And.intro ho HX.out);clear ho;go_wp2;go_ret;exact⟨_,rfl,FIN.out.1,FIN.out.2⟩
theorem Zsn{a:Option Addr}{cap:Nat}{t:Int}(L:List (Int × Sn))(h:Zjm w a L)(hl:L.length≤1000) :
  Calls prog 43 #[.slice a L.length cap,.int .i64 t] w fun e w'=>∃v,e=.returned v∧w'.ownsRow w.heap.size 42 8 v (Sv L t L.length).length (Ac (Sv L t L.length))∧Ext w w':=by
 obtain⟨z,hz⟩:=Zb (w.heap.size);obtain⟨W0,hW0⟩:=Zb (w.alloc (.cells #[.int .i64 t] 3));have x0:Ext w W0:=by rw[←hW0];exact(Zy2 w).alloc _
 have c0:W0.cell? z=some (.int .i64 t):=by rw[←hW0,←hz];exact Zr w _ _
 have hmf:=Ze
 have PK:=Za (Zb4 (cap:=cap) L (h.ext x0) hl c0);have X0:=Za x0;clear h hl x0;go_enter func43,ntmps43;go_wp2_with fail;refine PK.out.mono ?_;rintro e w1 ⟨v,rfl,ho,x1⟩;have FIN:=Za (And.intro (ho.mono X0.out.size) (X0.out.trans x1));clear ho x1 PK;go_wp2;go_ret;exact⟨_,rfl,FIN.out⟩
theorem Zwy{base:Nat}{v:Value}{l:List Sn}{n:Nat}(h:w.ownsRow base 42 8 v n (Ac l)):n=l.length∧(l.length=0∨∃g cap,v=.slice (some ⟨g,0,none⟩) l.length cap∧∀i j u,i<l.length→j<8→(Qf (sn_ l i))[j]?=some u→w.cell? ⟨g,i*8+j,none⟩=some u):=by
 have hn:n=l.length:=by have:=h.1;rw[Zgk] at this;omega
 subst hn;refine⟨rfl,?_⟩;have h':=h;obtain⟨_,⟨_,h0⟩|⟨g,cap,cur,rfl,hb,hh,hc,hm,hs,ht⟩⟩:=h
 ·exact .inl h0
 ·refine .inr ⟨g,cap,rfl,fun i j u hi hj e=>?_⟩;rw[h'.cellAt _ (by omega),Zn1 l i j hi hj];exact e
theorem Zso{base:Nat}{v:Value}{l:List Sn}{n:Nat}{s:Sn}(h:w.ownsRow base 42 8 v n (Ac l))(hl:l.length≤1000)(hs:Zje l=s) :
  Calls prog 13 #[v] w fun e w'=>e=.returned (Bu s)∧Ext w w':=by
 obtain⟨rfl,hv⟩:=Zwy h;obtain⟨z,hz⟩:=Zb (w.heap.size);obtain⟨W0,hW0⟩:=Zb (w.alloc (.cells #[(0:Int),.int .u64 0,.int .u64 0,(0:Int),(0:Int),(0:Int),(0:Int),false] 42));have x0:Ext w W0:=by rw[←hW0];exact(Zy2 w).alloc _
 have b0:Zn W0 z [(0:Int),.int .u64 0,.int .u64 0,(0:Int),(0:Int),(0:Int),(0:Int),false]:=by rw[←hW0];exact Zn.new w [(0:Int),.int .u64 0,.int .u64 0,(0:Int),(0:Int),(0:Int),(0:Int),false] _ hz
 have X0:=Za x0;have B0:=Za b0;have SZ:=Za hz;obtain⟨q0,q1,q2,q3,q4,q5,q6,q7⟩:=b0.k8;obtain⟨r0,r1,r2,r3,r4,r5,r6,r7⟩:=b0.g8;by_cases h0:l.length=0
 ·clear hv;have hs0:s=sn0:=by rw[←hs];unfold Zje;rw[List.length_eq_zero_iff.1 h0];rfl
  obtain⟨_,⟨rfl,_⟩|⟨g,cap,cur,rfl,_⟩⟩:=h
  ·subst hs0;unfold Bu sn0 Z9;rw[h0] at *;clear hl b0 x0 hs;go_enter func13,ntmps13;go_wp2_with fail;have q8:=B0.out.put8w (.int .i64 0) (.int .u64 0) (.int .u64 0) (.int .i64 0) (.int .i64 0) (.int .i64 0) (.int .i64 0) (.bool false);have cx:=Rn W0 z (.int .i64 0) (.int .u64 0) (.int .u64 0) (.int .i64 0) (.int .i64 0) (.int .i64 0) (.int .i64 0) (.bool false);obtain⟨p0,p1,p2,p3,p4,p5,p6,p7⟩:=q8.k8;refine bodyPost_ret (v:=.agg #[(0:Int),.int .u64 0,.int .u64 0,(0:Int),(0:Int),(0:Int),(0:Int),false]) (by simp[results,results13,go_sem,p0,p1,p2,p3,p4,p5,p6,p7]) rfl ⟨rfl,cx.over X0.out fun k e=>by have e1:k=z:=e;have:=SZ.out;omega⟩
  ·subst hs0;unfold Bu sn0 Z9;rw[h0] at *;clear hl b0 x0 hs;go_enter func13,ntmps13;go_wp2_with fail;have q8:=B0.out.put8w (.int .i64 0) (.int .u64 0) (.int .u64 0) (.int .i64 0) (.int .i64 0) (.int .i64 0) (.int .i64 0) (.bool false);have cx:=Rn W0 z (.int .i64 0) (.int .u64 0) (.int .u64 0) (.int .i64 0) (.int .i64 0) (.int .i64 0) (.int .i64 0) (.bool false);obtain⟨p0,p1,p2,p3,p4,p5,p6,p7⟩:=q8.k8;refine bodyPost_ret (v:=.agg #[(0:Int),.int .u64 0,.int .u64 0,(0:Int),(0:Int),(0:Int),(0:Int),false]) (by simp[results,results13,go_sem,p0,p1,p2,p3,p4,p5,p6,p7]) rfl ⟨rfl,cx.over X0.out fun k e=>by have e1:k=z:=e;have:=SZ.out;omega⟩
 ·obtain⟨g,cap,rfl,hc⟩:∃g cap,v=.slice (some ⟨g,0,none⟩) l.length cap∧∀i j u,i<l.length→j<8→(Qf (sn_ l i))[j]?=some u→w.cell? ⟨g,i*8+j,none⟩=some u:=by
   rcases hv with q|q
   ·exact absurd q h0
   ·exact q
  obtain⟨N,hN⟩:∃N,l.length=N+1:=⟨l.length-1,by omega⟩;have hc2:∀j u,j<8→(Qf s)[j]?=some u→W0.cell? ⟨g,N*8+j,none⟩=some u:=fun j u hj e=>x0.cell (hc N j u (by omega) hj (by
   have:sn_ l N=s:=by rw[←hs];unfold Zje sn_;rw[hN];rfl
   rw[this];exact e))
  obtain⟨s0,s1,s2,s3,s4,s5,s6,s7⟩:=s;have k0:=hc2 0 _ (by decide) rfl;have k1:=hc2 1 _ (by decide) rfl;have k2:=hc2 2 _ (by decide) rfl;have k3:=hc2 3 _ (by decide) rfl;have k4:=hc2 4 _ (by decide) rfl;have k5:=hc2 5 _ (by decide) rfl;have k6:=hc2 6 _ (by decide) rfl;have k7:=hc2 7 _ (by decide) rfl;rw[Nat.add_zero] at k0;rw[hN] at hl ⊢;unfold Bu;have tz:(((N+1:Nat):Int)==0)=false:=by simp;omega
  have tz2:(N+1==0)=false:=by simp
  have w1:IntKind.i64.wrap (((N+1:Nat):Int)-1)=(N:Int):=by rw[IntWalk.i64_in _ (by omega)];omega
  clear hc hc2 h hs b0 x0
  (try simp only)
  go_enter func13,ntmps13;go_wp2_with fail;have q8:=B0.out.put8w (.int .i64 s0) (.int .u64 s1) (.int .u64 s2) (.int .i64 s3) (.int .i64 s4) (.int .i64 s5) (.int .i64 s6) (.bool s7);have cx:=Rn W0 z (.int .i64 s0) (.int .u64 s1) (.int .u64 s2) (.int .i64 s3) (.int .i64 s4) (.int .i64 s5) (.int .i64 s6) (.bool s7);obtain⟨p0,p1,p2,p3,p4,p5,p6,p7⟩:=q8.k8;refine bodyPost_ret (v:=.agg #[s0,.int .u64 s1,.int .u64 s2,s3,s4,s5,s6,s7]) (by simp[results,results13,go_sem,p0,p1,p2,p3,p4,p5,p6,p7]) rfl ⟨rfl,cx.over X0.out fun k e=>by have e1:k=z:=e;have:=SZ.out;omega⟩
end
def BOk(bs:List Int):Prop:=∀i,i<bs.length→0≤nth bs i∧nth bs i<256
def Yn(bs:List Int)(p:Nat):Nat→Int
 | 0=>0
 | k+1=>Yn bs p k*256+nth bs (p+k)
theorem Js{bs:List Int}(hb:BOk bs){p:Nat}:∀k,p+k≤bs.length→0≤Yn bs p k∧Yn bs p k<256 ^ k
 | 0,_=>⟨Int.le_refl _,by show(0:Int)<1;decide⟩
 | k+1,h=>by
  have i:=Js hb (p:=p) k (by omega);have b:=hb (p+k) (by omega);have e:(256:Int) ^ (k+1)=256 ^ k*256:=Int.pow_succ _ _;unfold Yn;rw[e];omega
theorem Jt{bs:List Int}(hb:BOk bs){p:Nat}(k:Nat)(h:p+k≤bs.length)(hk:k≤8):0≤Yn bs p k∧Yn bs p k<18446744073709551616:=by
 have i:=Js hb k h;have e:(256:Int) ^ k≤18446744073709551616:=by
  have q:(256:Nat) ^ k≤256 ^ 8:=Nat.pow_le_pow_right (by decide) hk;have e1:((256 ^ k:Nat):Int)=(256:Int) ^ k:=Int.natCast_pow 256 k;rw[←e1];have e2:(256:Nat) ^ 8=18446744073709551616:=by decide
  omega
 omega
theorem Zgl(bs:List Int)(p i:Nat):nth (bs.drop p) i=nth bs (p+i):=by unfold nth;simp[List.getD]
theorem Zgm{bs:List Int}{n i:Nat}(h:i<n):nth (bs.take n) i=nth bs i:=by unfold nth;simp[List.getD,h]
theorem Hv{a b:List Int}{p q:Nat}:∀k,(∀i,i<k→nth a (p+i)=nth b (q+i))→Yn a p k=Yn b q k
 | 0,_=>rfl
 | k+1,h=>by unfold Yn;rw[Hv k fun i hi=>h i (by omega),h k (by omega)]
theorem Zn3(bs:List Int)(p:Nat):Yn bs p 1=nth bs p:=by simp[Yn]
def K9(x:Int):Int:=if 2147483648≤x then x-4294967296 else x
structure EnI where
 kind:Int
 tenant:Int
 op:OpI
 worker:Int
 micro:Int
def en0:EnI:=⟨0,0,⟨0,0,0,0,0⟩,0,0⟩
def Zn4(bs:List Int):EnI:=⟨2,0,⟨0,0,0,0,0⟩,nth bs 1,nth bs 2⟩
def Zgn(bs:List Int):OpI:=⟨nth bs 2,Yn bs 3 8,K9 (Yn bs 11 4),K9 (Yn bs 15 4),Yn bs 19 8⟩
def Zjn(bs:List Int):EnI:=⟨1,nth bs 1,Zgn bs,0,0⟩
def Tg(bs:List Int):EnI × Bool:=
 if bs.length=3∧nth bs 0=2 then (Zn4 bs,true) else if bs.length=27∧nth bs 0=1 then (Zjn bs,true) else (en0,false)
def sbs(s:ByteArray):List Int:=s.data.toList.map fun b=>(b.toNat:Int)
theorem Pq(s:ByteArray):(sbs s).length=s.size:=by unfold sbs;rw[List.length_map,Array.length_toList];rfl
theorem Zb5{s:ByteArray}{i:Nat}(h:i<s.size):nth (sbs s) i=(s[i].toNat:Int):=by
 have h2:i<s.data.size:=h;have e:s[i]=s.data[i]:=rfl;unfold sbs nth;rw[e,List.getD,List.getElem?_map,Array.getElem?_toList,Array.getElem?_eq_getElem h2];rfl
theorem Ro(s:ByteArray):BOk (sbs s):=fun i hi=>by
 rw[Pq] at hi;rw[Zb5 hi];have:=s[i].toNat_lt;omega
theorem Zew(s:ByteArray){p q i:Nat}(hq:q≤s.size)(hi:p+i<q):nth (sbs (s.extract p q)) i=nth (sbs s) (p+i):=by
 have h1:i<(s.extract p q).size:=by rw[ByteArray.size_extract];omega
 rw[Zb5 h1,Zb5 (by omega)]
 congr 2
 simp[ByteArray.getElem_extract]
theorem To(s:ByteArray){p q:Nat}(hq:q≤s.size)(hp:p≤q):Yn (sbs (s.extract p q)) 0 (s.extract p q).size=Yn (sbs s) p (q-p):=by
 rw[ByteArray.size_extract,show min q s.size-p=q-p by omega];exact Hv _ fun i hi=>by rw[Nat.zero_add];exact Zew s hq (by omega)
section
variable{w w':World}{rb bb p:Nat}{bs:List Int}
structure Gs(w:World)(rb bb:Nat)(bs:List Int)(p:Nat):Prop where
 le:p≤bs.length
 nb:bb≠rb
 ex:∃a cap,Zn w rb [.slice a (bs.length-p) cap]∧At .u8 w a (bs.drop p)∧bs.length-p≤cap∧∀d,a=some d→d.block=bb
theorem Gs.chg{P:Nat→Prop}(h:Gs w rb bb bs p)(hx:Chg P w w')(h1:¬P rb)(h2:¬P bb):Gs w' rb bb bs p:=by
 obtain⟨a,cap,b,r,c,n⟩:=h.ex;refine⟨h.le,h.nb,a,cap,b.chg hx h1,fun i hi=>?_,c,n⟩;obtain⟨x,o,e,q⟩:=r i hi;have e1:x=bb:=n ⟨x,o,none⟩ e;exact⟨x,o,e,hx.cell (by rw[e1];exact h2) q⟩
def Wy:List PanicEntry:=[{ v:=.iface 162 (.agg #[]),recovered:=false }]
theorem Zsp(a:Option Addr){n len cap:Nat}(h:n≤cap)(W:World):(Instr.slice 165 (.slice a len cap) none (some (.int .i64 (n:Int))) none).run prog W=.ok (.slice a n cap) W:=by
 rw[run_slice_h W 165 a len cap (by kernel_rfl) .i64 (n:Int) (by omega) (by omega)];simp[sliced,sizeOf,go_sem]
theorem Zsq(a:Option Addr){n len cap:Nat}(h:n≤len)(W:World):(Instr.slice 165 (.slice a len cap) (some (.int .i64 (n:Int))) none none).run prog W=.ok (.slice (if cap=n then a else a.map (·.add n)) (len-n) (cap-n)) W:=by
 rw[run_slice_l W 165 a len cap (by kernel_rfl) .i64 (n:Int) (by omega) (by omega)];have e1:t5.size=1:=rfl;simp[sliced,sizeOf,go_sem,e1]
theorem Zsr{n:Nat}(h:Gs w rb bb bs p)(hn:p+n≤bs.length):Calls prog 147 #[rb,(n:Int)] w fun e w'=>∃a cap,e=.returned (.slice a n cap)∧At .u8 w' a ((bs.drop p).take n)∧Gs w' rb bb bs (p+n)∧Chg (fun k=>k=rb) w w':=by
 obtain⟨a,cap,b,r,c,ne⟩:=h.ex;have c0:=b.c 0 _ rfl;have f0:=b.f 0;obtain⟨L,hL⟩:=Zb (bs.length-p);rw[hL] at c0 c;have hl:n≤L:=by have:=h.le;omega
 have t0:decide ((L:Int)<(n:Int))=false:=Zyx (by omega);have t1:decide (L<n)=false:=Zyx (by omega);have s1:=Zsp a (len:=L) (cap:=cap) (show n≤cap by omega);have s2:=Zsq a (cap:=cap) hl;obtain⟨a2,ha2⟩:=Zb ((if cap=n then a else a.map (·.add n)));rw[ha2] at s2;obtain⟨W1,hW1⟩:=Zb (w.setCell rb (.slice a2 (L-n) (cap-n)));have FIN:Hid (At .u8 W1 a ((bs.drop p).take n)∧Gs W1 rb bb bs (p+n)∧Chg (fun k=>k=rb) w W1):=Za (by
  have cx:Chg (fun k=>k=rb) w W1:=by rw[←hW1];exact Chg.setCell (P:=fun j=>j=rb) (p:=⟨rb,0,none⟩) (Chg.refl _ w) (.inl rfl) _
  have nb:=h.nb;have bx:Zn W1 rb [.slice a2 (L-n) (cap-n)]:=by rw[←hW1];exact b.set (i:=0) (by show 0<1;decide) _
  have dl:(bs.drop p).length=L:=by rw[List.length_drop];exact hL
  have r1:∀i,i<L→∃x o,a=some ⟨x,o,none⟩∧W1.cell? ⟨x,o+i,none⟩=some (.int .u8 (nth (bs.drop p) i)):=fun i hi=>by
   obtain⟨x,o,e,q⟩:=r i (by omega);exact⟨x,o,e,cx.cell (fun z=>nb ((ne ⟨x,o,none⟩ e).symm.trans z)) q⟩
  refine⟨fun i hi=>?_,⟨by have:=h.le;omega,nb,a2,cap-n,?_,fun i hi=>?_,by omega,fun d e=>?_⟩,cx⟩
  ·rw[List.length_take] at hi;obtain⟨x,o,e,q⟩:=r1 i (by omega);exact⟨x,o,e,by rw[Zgm (by omega)];exact q⟩
  ·rw[show bs.length-(p+n)=L-n by omega];exact bx
  ·rw[List.length_drop] at hi;obtain⟨x,o,e,q⟩:=r1 (n+i) (by omega);rw[if_neg (by omega)] at ha2;rw[e] at ha2;refine⟨x,o+n,by rw[←ha2,Option.map_some,Addr.add_lit],?_⟩;rw[Zgl] at q ⊢;rw[show p+n+i=p+(n+i) by omega,show o+n+i=o+(n+i) by omega];exact q
  ·rw[←ha2] at e;split at e
   ·exact ne d e
   ·rcases a with _|x1
    ·cases e
    ·rw[Option.map_some,Option.some.injEq] at e;have e3:(x1.add n).block=x1.block:=by unfold Addr.add;split<;>rfl
     rw[←e,e3];exact ne x1 rfl)
 clear h hn b r c ne hL ha2;go_enter func147,ntmps147;go_wp2;go_ret;exact⟨a,cap,rfl,FIN.out⟩
theorem Zex{n:Nat}(h:Gs w rb bb bs p)(hn:bs.length<p+n):Calls prog 147 #[rb,(n:Int)] w fun e w'=>e=.panicked Wy∧w=w':=by
 obtain⟨a,cap,b,r,c,ne⟩:=h.ex;have c0:=b.c 0 _ rfl;obtain⟨L,hL⟩:=Zb (bs.length-p);rw[hL] at c0;have hl:L<n:=by have:=h.le;omega
 have t0:decide ((L:Int)<(n:Int))=true:=Zyy (by omega);clear h hn b r c hL;go_enter func147,ntmps147;go_wp2_with fail;exact⟨rfl,rfl,rfl⟩
theorem Zwz{u v:Int}(hu:0≤u)(hv:0≤v∧v<256)(hb:u*256+v<18446744073709551616):bits .or .u64 (u*256) v=u*256+v:=by
 obtain⟨n,rfl⟩:=Int.eq_ofNat_of_zero_le hu;obtain⟨m,rfl⟩:=Int.eq_ofNat_of_zero_le hv.1;rw[show(n:Int)*256=((n*256:Nat):Int) by omega,u64_or_nat _ _ (by omega) (by omega)];have e:n*256 ||| m=n*256+m:=by
  have:=Nat.shiftLeft_add_eq_or_of_lt (a:=n) (b:=m) (i:=8) (by omega);rw[Nat.shiftLeft_eq] at this;exact this.symm
 rw[e];omega
theorem L8{n:Nat}{r:Int}(h:Gs w rb bb bs p)(hb:BOk bs)(hn:p+n≤bs.length)(h8:n≤8)(hr:Yn bs p n=r):Calls prog 109 #[rb,(n:Int)] w fun e w'=>e=.returned (.int .u64 r)∧Gs w' rb bb bs (p+n)∧Chg (fun k=>k=rb) w w':=by
 have TK:=Za (Zsr h hn);have BD:=Za (fun k (q:k≤n)=>Jt hb (p:=p) k (by omega) (by omega));have BB:=Za (fun k (q:k<n)=>hb (p+k) (by omega));have HR:=Za hr;have HL:=Za (show((bs.drop p).take n).length=n by rw[List.length_take,List.length_drop];omega);clear h hb hn hr;go_enter func109,ntmps109;go_wp2_with fail;refine TK.out.mono ?_;rintro e w1 ⟨a,cap,rfl,ha,h1,x1⟩;have HA:=Za ha;have H1:=Za h1;have X1:=Za x1;clear ha h1 x1 TK;go_wp2_with fail
 go_loopw [4,11] (fun nv iv wr=>∃k:Nat,k≤n∧nv=.int .u64 (Yn bs p k)∧iv=.int .i64 (k:Int)∧w1=wr) (fun _ iv _=>n-(intOf iv).toNat)
 case atStart=>exact⟨0,Nat.zero_le _,rfl,rfl,rfl⟩
 case round=>
  obtain⟨k,hk,rfl,rfl,rfl⟩:=hrel;by_cases hlt:k<n
  ·obtain⟨b,o,rfl,ec⟩:=HA.out k (by rw[HL.out];exact hlt);rw[Zgm hlt,Zgl] at ec;have b1:=BD.out (k+1) (by omega);have b0:=BD.out k (by omega);have bb:=BB.out k hlt;have st:Yn bs p (k+1)=Yn bs p k*256+nth bs (p+k):=rfl;rw[st] at b1;have ST:=Za st
   generalize Yn bs p k=u at *
   generalize nth bs (p+k)=v at *
   have w3:IntKind.u64.wrap v=v:=by rw[IntKind.wrap_u64];omega
   have so:=Zwz b0.1 bb b1.2;clear st;have w4:IntKind.u64.wrap (u*256)=u*256:=by rw[IntKind.wrap_u64];omega
   go_wp2;go_roundw
   case rel=>exact⟨k+1,by omega,by rw[ST.out],by go_num,trivial⟩
   case measure=>simp[intOf];omega
  ·obtain rfl:k=n:=by omega
   go_wp2;go_ret;exact⟨by rw[←HR.out];rfl,H1.out,X1.out⟩
theorem Qh{n:Nat}(h:Gs w rb bb bs p)(hn:bs.length<p+n):Calls prog 109 #[rb,(n:Int)] w fun e w'=>e=.panicked Wy∧w=w':=by
 have TK:=Za (Zex h hn);clear h hn;go_enter func109,ntmps109;go_wp2_with fail;refine TK.out.zz ?_;go_wp2_with fail;exact⟨rfl,rfl,rfl⟩
theorem Nm{v:Int}(h:Gs w rb bb bs p)(hb:BOk bs)(hn:p+1≤bs.length)(hv:nth bs p=v):Calls prog 71 #[rb] w fun e w'=>e=.returned (.int .u8 v)∧Gs w' rb bb bs (p+1)∧Chg (fun k=>k=rb) w w':=by
 have b:=hb p (by omega);have NU:=Za (L8 (n:=1) (r:=v) h hb hn (by decide) (by rw[Zn3];exact hv));rw[hv] at b;have w1:IntKind.u8.wrap v=v:=by rw[IntKind.wrap_u8];omega
 clear h hb hn hv;go_enter func71,ntmps71;go_wp2_with fail;refine NU.out.mono ?_;rintro e w1 ⟨rfl,a1,x1⟩;go_wp2;go_ret;exact⟨rfl,a1,x1⟩
theorem Rp(h:Gs w rb bb bs p)(hn:bs.length<p+1):Calls prog 71 #[rb] w fun e w'=>e=.panicked Wy∧w=w':=by
 have NU:=Za (Qh (n:=1) h hn);clear h hn;go_enter func71,ntmps71;go_wp2_with fail;refine NU.out.zz ?_;go_wp2_with fail;exact⟨rfl,rfl,rfl⟩
theorem Zb6{v:Int}(h:Gs w rb bb bs p)(hb:BOk bs)(hn:p+8≤bs.length)(hv:Yn bs p 8=v):Calls prog 72 #[rb] w fun e w'=>e=.returned (.int .u64 v)∧Gs w' rb bb bs (p+8)∧Chg (fun k=>k=rb) w w':=by
 have NU:=Za (L8 (n:=8) (r:=v) h hb hn (by decide) hv);clear h hb hn hv;go_enter func72,ntmps72;go_wp2_with fail;refine NU.out.mono ?_;rintro e w1 ⟨rfl,a1,x1⟩;go_wp2;go_ret;exact⟨rfl,a1,x1⟩
theorem Kt(h:Gs w rb bb bs p)(hn:bs.length<p+8):Calls prog 72 #[rb] w fun e w'=>e=.panicked Wy∧w=w':=by
 have NU:=Za (Qh (n:=8) h hn);clear h hn;go_enter func72,ntmps72;go_wp2_with fail;refine NU.out.zz ?_;go_wp2_with fail;exact⟨rfl,rfl,rfl⟩
theorem Zb7{u:Int}(h:0≤u∧u<4294967296):IntKind.i32.wrap u=K9 u:=by
 rw[IntKind.wrap_i32];unfold K9;split<;>omega
theorem Zgo{v:Int}(h:Gs w rb bb bs p)(hb:BOk bs)(hn:p+4≤bs.length)(hv:K9 (Yn bs p 4)=v):Calls prog 73 #[rb] w fun e w'=>e=.returned (.int .i64 v)∧Gs w' rb bb bs (p+4)∧Chg (fun k=>k=rb) w w':=by
 have b:0≤Yn bs p 4∧Yn bs p 4<4294967296:=Js hb 4 hn;have NU:=Za (L8 (n:=4) h hb hn (by decide) rfl)
 generalize Yn bs p 4=u at *
 have wu:=Zb7 b;rw[hv] at wu;have w2:IntKind.i64.wrap v=v:=by rw[IntWalk.i64_in _ (by rw[←hv];unfold K9;split<;>omega)]
 clear h hb hn hv;go_enter func73,ntmps73;go_wp2_with fail;refine NU.out.mono ?_;rintro e w1 ⟨rfl,a1,x1⟩;go_wp2;go_ret;exact⟨rfl,a1,x1⟩
theorem Hw(h:Gs w rb bb bs p)(hn:bs.length<p+4):Calls prog 73 #[rb] w fun e w'=>e=.panicked Wy∧w=w':=by
 have NU:=Za (Qh (n:=4) h hn);clear h hn;go_enter func73,ntmps73;go_wp2_with fail;refine NU.out.zz ?_;go_wp2_with fail;exact⟨rfl,rfl,rfl⟩
end
section
variable{w w':World}
theorem Zgp{s:ByteArray}{i:Nat}(h:i<s.size)(W:World):(Instr.index 9 (.string s) (.int .i64 (i:Int))).run prog W=.ok (.int .u8 (nth (sbs s) i)) W:=by
 rw[run_index_string W 9 s .i64 (i:Int) underlying9,dif_pos ⟨by omega,by omega⟩,Zb5 h];simp
theorem U0{s:ByteArray}{v:Int}(i:Int)(h0:0≤i)(h:i<s.size)(e:nth (sbs s) i.toNat=v)(W:World):(Instr.index 9 (.string s) (.int .i64 i)).run prog W=.ok (.int .u8 v) W:=by
 obtain⟨n,rfl⟩:=Int.eq_ofNat_of_zero_le h0;rw[Zgp (by omega),←e,Zy4]
theorem Pr(s:ByteArray){r:Int}(hl:s.size≤8)(hr:Yn (sbs s) 0 s.size=r):Calls prog 68 #[.string s] w fun e w'=>e=.returned (.int .u64 r)∧w=w':=by
 have bd:=fun k (h:k≤s.size)=>Jt (Ro s) (p:=0) k (by rw[Pq];omega) (by omega)
 obtain⟨N,hN⟩:=Zb (s.size);rw[hN] at hl hr bd;have HN:=Za hN;have HR:=Za hr;have BD:=Za bd;clear hN hr bd;go_enter func68,ntmps68;go_wp2_with fail
 go_loopw [3,4] (fun nv iv wr=>∃k:Nat,k≤N∧nv=.int .u64 (Yn (sbs s) 0 k)∧iv=.int .i64 (k:Int)∧w=wr) (fun _ iv _=>N-(intOf iv).toNat)
 case atStart=>exact⟨0,Nat.zero_le _,rfl,rfl,rfl⟩
 case round=>
  obtain⟨k,hk,rfl,rfl,rfl⟩:=hrel;by_cases hlt:k<N
  ·have hx:=Zgp (s:=s) (i:=k) (by rw[HN.out];exact hlt);have b1:=BD.out (k+1) (by omega);have b0:=BD.out k (by omega);have st:Yn (sbs s) 0 (k+1)=Yn (sbs s) 0 k*256+nth (sbs s) k:=by show _+nth (sbs s) (0+k)=_;rw[Nat.zero_add]
   have bb:=Ro s k (by rw[Pq,HN.out];exact hlt);rw[st] at b1;have ST:=Za st;have LN:=HN.out
   generalize Yn (sbs s) 0 k=u at *
   generalize nth (sbs s) k=v at *
   have w1:IntKind.u64.wrap (256*u)=256*u:=by rw[IntKind.wrap_u64];omega
   have w2:IntKind.u64.wrap (256*u+v)=256*u+v:=by rw[IntKind.wrap_u64];omega
   have w3:IntKind.u64.wrap v=v:=by rw[IntKind.wrap_u64];omega
   clear st;go_wp2;go_roundw
   case rel=>exact⟨k+1,by omega,by rw[ST.out];congr 1;omega,by go_num,trivial⟩
   case measure=>simp[intOf];omega
  ·obtain rfl:k=N:=by omega
   have LN:=HN.out;have te:decide (k<s.size)=false:=Zyx (by omega);go_wp2;go_ret;exact⟨by rw[←HR.out];rfl,rfl⟩
theorem Ku(s:ByteArray){r:Int}(hl:s.size=4)(hr:K9 (Yn (sbs s) 0 4)=r):Calls prog 69 #[.string s] w fun e w'=>e=.returned (.int .i64 r)∧w=w':=by
 have bd:=Js (Ro s) (p:=0) 4 (by rw[Pq];omega);have NU:=Za (fun W:World=>Pr (w:=W) s (r:=Yn (sbs s) 0 4) (by omega) (by rw[hl]));unfold K9 at hr
 generalize Yn (sbs s) 0 4=u at *
 have b2:0≤u∧u<4294967296:=bd;clear bd;have w1:IntKind.i64.wrap u=u:=by rw[IntWalk.i64_in _ (by omega)]
 by_cases h:2147483648≤u
 ·rw[if_pos h] at hr;subst hr;have w2:IntKind.i64.wrap (u-4294967296)=u-4294967296:=by rw[IntWalk.i64_in _ (by omega)]
  go_enter func69,ntmps69;go_wp2_with fail;refine(NU.out _).zz ?_;go_wp2;go_ret;exact⟨rfl,rfl⟩
 ·rw[if_neg h] at hr;subst hr;have t1:decide ((2147483648:Int)≤u)=false:=Zyx h;go_enter func69,ntmps69;go_wp2_with fail;refine(NU.out _).zz ?_;go_wp2;go_ret;exact⟨rfl,rfl⟩
def enV(e:EnI):Value:=.agg #[.int .u8 e.kind,e.tenant,.int .u8 e.op.code,.int .u64 e.op.h,e.op.a,e.op.b,.int .u64 e.op.v,e.worker,.int .u8 e.micro]
def enZ:List Value:=[.int .u8 0,.int .i64 0,.int .u8 0,.int .u64 0,.int .i64 0,.int .i64 0,.int .u64 0,.int .i64 0,.int .u8 0]
theorem Zn5(s:ByteArray){x:EnI}{k:Int}(hx:(Tg (sbs s)).1=x)(hk:(if (Tg (sbs s)).2 then (0:Int) else 250)=k):Calls prog 35 #[.string s] w fun e w'=>e=.returned (.tuple #[enV x,.int .i64 k])∧Ext w w':=by
 obtain⟨z,hz⟩:=Zb (w.heap.size);obtain⟨W0,hW0⟩:=Zb (w.alloc (.cells #[.int .u8 0,(0:Int),.int .u8 0,.int .u64 0,(0:Int),(0:Int),.int .u64 0,(0:Int),.int .u8 0] 38));have x0:Ext w W0:=by rw[←hW0];exact(Zy2 w).alloc _
 have b0:Zn W0 z enZ:=by rw[←hW0];exact Zn.new w enZ _ hz
 have X0:=Za x0;have B0:=Za b0;have SZ:=Za hz;have FIN:Hid (∀W v0 v1 v2 v3 v4 v5 v6 v7 v8,Ext W0 W→Bq (put9 W z v0 v1 v2 v3 v4 v5 v6 v7 v8) z v0 v1 v2 v3 v4 v5 v6 v7 v8∧Ext w (put9 W z v0 v1 v2 v3 v4 v5 v6 v7 v8)):=Za fun W v0 v1 v2 v3 v4 v5 v6 v7 v8 q=>
  ⟨((b0.ext q).put9 v0 v1 v2 v3 v4 v5 v6 v7 v8).read9,(Xs W z v0 v1 v2 v3 v4 v5 v6 v7 v8).over (x0.trans q) fun k e=>by have e1:k=z:=e;omega⟩
 have ln:=Pq s;have SL:=Za ln;unfold enZ at b0;obtain⟨q0,q1,q2,q3,q4,q5,q6,q7,q8⟩:=b0.k9;obtain⟨r0,r1,r2,r3,r4,r5,r6,r7,r8⟩:=b0.g9;obtain⟨N,hN⟩:=Zb (s.size);rw[hN] at ln;unfold Tg at hx hk;rw[ln] at hx hk;by_cases h3:N=3∧nth (sbs s) 0=2
 ·rw[if_pos h3] at hx hk;obtain⟨rfl,h32⟩:=h3;simp only[if_true] at hk;subst hx hk;have i0:=U0 (s:=s) 0 (by omega) (by omega) h32;have i1:=U0 (s:=s) 1 (by omega) (by omega) rfl;have i2:=U0 (s:=s) 2 (by omega) (by omega) rfl;rw[show(1:Int).toNat=1 from rfl] at i1;rw[show(2:Int).toNat=2 from rfl] at i2;have b1:=Ro s 1 (by omega);have b2:=Ro s 2 (by omega);unfold Zn4 enV
  generalize nth (sbs s) 1=u1 at *
  generalize nth (sbs s) 2=u2 at *
  simp only;have w1:IntKind.i64.wrap u1=u1:=by rw[IntWalk.i64_in _ (by omega)]
  clear h32 ln b1 b2 x0 b0 SL;go_enter func35,ntmps35;go_wp2_with fail
  go_region_held3 (fun _=>True) (trivial) (fail)
  all_goals
   go_wp2_with fail;obtain⟨r9,xx⟩:=FIN.out W0 (.int .u8 2) (.int .i64 0) (.int .u8 0) (.int .u64 0) (.int .i64 0) (.int .i64 0) (.int .u64 0) (.int .i64 u1) (.int .u8 u2) (Zy2 _);have r9:=r9.ext (Zy2 _).drew;refine bodyPost_ret (v:=.tuple #[.agg #[.int .u8 2,(0:Int),.int .u8 0,.int .u64 0,(0:Int),(0:Int),.int .u64 0,.int .i64 u1,.int .u8 u2],(0:Int)]) (by simp[results,results35,go_sem,r9.c0,r9.c1,r9.c2,r9.c3,r9.c4,r9.c5,r9.c6,r9.c7,r9.c8]) rfl ⟨rfl,xx.drew⟩
 ·rw[if_neg h3] at hx hk;by_cases h27:N=27∧nth (sbs s) 0=1
  ·rw[if_pos h27] at hx hk;obtain⟨rfl,h32⟩:=h27;simp only[if_true] at hk;subst hx hk;have i0:=U0 (s:=s) 0 (by omega) (by omega) h32;have i1:=U0 (s:=s) 1 (by omega) (by omega) rfl;have i2:=U0 (s:=s) 2 (by omega) (by omega) rfl;rw[show(1:Int).toNat=1 from rfl] at i1;rw[show(2:Int).toNat=2 from rfl] at i2;have b1:=Ro s 1 (by omega);have b2:=Ro s 2 (by omega);have sz:∀p q,q≤27→p≤q→(s.extract p q).size=q-p:=fun p q h1 h2=>by rw[ByteArray.size_extract];omega
   have e1:Yn (sbs (s.extract 3 11)) 0 (s.extract 3 11).size=Yn (sbs s) 3 8:=To s (by omega) (by decide);have e2:Yn (sbs (s.extract 19 27)) 0 (s.extract 19 27).size=Yn (sbs s) 19 8:=To s (by omega) (by decide);have e3:Yn (sbs (s.extract 11 15)) 0 4=Yn (sbs s) 11 4:=by have:=To s (p:=11) (q:=15) (by omega) (by decide);rw[sz 11 15 (by decide) (by decide)] at this;exact this
   have e4:Yn (sbs (s.extract 15 19)) 0 4=Yn (sbs s) 15 4:=by have:=To s (p:=15) (q:=19) (by omega) (by decide);rw[sz 15 19 (by decide) (by decide)] at this;exact this
   have NA:=Za (fun W:World=>Pr (w:=W) (s.extract 3 11) (by have:=sz 3 11 (by decide) (by decide);omega) e1);have NB:=Za (fun W:World=>Pr (w:=W) (s.extract 19 27) (by have:=sz 19 27 (by decide) (by decide);omega) e2);have NC:=Za (fun W:World=>Ku (w:=W) (s.extract 11 15) (sz _ _ (by decide) (by decide)) (by rw[e3]));have ND:=Za (fun W:World=>Ku (w:=W) (s.extract 15 19) (sz _ _ (by decide) (by decide)) (by rw[e4]));unfold Zjn Zgn enV
   generalize nth (sbs s) 1=u1 at *
   generalize nth (sbs s) 2=u2 at *
   generalize Yn (sbs s) 3 8=n3 at *
   generalize K9 (Yn (sbs s) 11 4)=n4 at *
   generalize K9 (Yn (sbs s) 15 4)=n5 at *
   generalize Yn (sbs s) 19 8=n6 at *
   simp only;have w1:IntKind.i64.wrap u1=u1:=by rw[IntWalk.i64_in _ (by omega)]
   clear h32 ln b1 b2 x0 b0 SL e1 e2 e3 e4 sz h3;go_enter func35,ntmps35;go_wp2_with fail
   go_region_held3 (fun _=>True) (trivial)
    (first|(go_at_call 68;with_reducible refine(NA.out _).zz ?_)|(go_at_call 68;with_reducible refine(NB.out _).zz ?_)|(go_at_call 69;with_reducible refine(NC.out _).zz ?_)|(go_at_call 69;with_reducible refine(ND.out _).zz ?_)|fail)
   all_goals
    go_wp2_with fail;obtain⟨r9,xx⟩:=FIN.out W0 (.int .u8 1) (.int .i64 u1) (.int .u8 u2) (.int .u64 n3) (.int .i64 n4) (.int .i64 n5) (.int .u64 n6) (.int .i64 0) (.int .u8 0) (Zy2 _);have r9:=r9.ext (Zy2 _).drew;refine bodyPost_ret (v:=.tuple #[.agg #[.int .u8 1,.int .i64 u1,.int .u8 u2,.int .u64 n3,.int .i64 n4,.int .i64 n5,.int .u64 n6,(0:Int),.int .u8 0],(0:Int)]) (by simp[results,results35,go_sem,r9.c0,r9.c1,r9.c2,r9.c3,r9.c4,r9.c5,r9.c6,r9.c7,r9.c8]) rfl ⟨rfl,xx.drew⟩
  ·rw[if_neg h27] at hx hk;simp only[Bool.false_eq_true,if_false] at hk;subst hx hk;unfold en0 enV;simp only;by_cases q3:N=3
   ·subst q3;have n3:nth (sbs s) 0≠2:=fun e=>h3 ⟨rfl,e⟩
    have i0:=U0 (s:=s) 0 (by omega) (by omega) rfl;rw[show(0:Int).toNat=0 from rfl] at i0
    generalize nth (sbs s) 0=u0 at *
    have tq:(u0==2)=false:=by simpa using n3
    clear h3 h27 n3 x0 b0 SL ln;go_enter func35,ntmps35;go_wp2_with fail;obtain⟨r9,xx⟩:=FIN.out W0 (.int .u8 0) (.int .i64 0) (.int .u8 0) (.int .u64 0) (.int .i64 0) (.int .i64 0) (.int .u64 0) (.int .i64 0) (.int .u8 0) (Zy2 _);refine bodyPost_ret (v:=.tuple #[.agg #[.int .u8 0,(0:Int),.int .u8 0,.int .u64 0,(0:Int),(0:Int),.int .u64 0,(0:Int),.int .u8 0],(250:Int)]) (by simp[results,results35,go_sem,r9.c0,r9.c1,r9.c2,r9.c3,r9.c4,r9.c5,r9.c6,r9.c7,r9.c8]) rfl ⟨rfl,xx⟩
   ·have tN:((N:Int)==3)=false:=by simp;omega
    have tN2:(N==3)=false:=by simpa using q3
    by_cases q27:N=27
    ·subst q27;have n3:nth (sbs s) 0≠1:=fun e=>h27 ⟨rfl,e⟩
     have i0:=U0 (s:=s) 0 (by omega) (by omega) rfl;rw[show(0:Int).toNat=0 from rfl] at i0
     generalize nth (sbs s) 0=u0 at *
     have tq:(u0==1)=false:=by simpa using n3
     clear h3 h27 n3 x0 b0 SL ln q3;go_enter func35,ntmps35;go_wp2_with fail;obtain⟨r9,xx⟩:=FIN.out W0 (.int .u8 0) (.int .i64 0) (.int .u8 0) (.int .u64 0) (.int .i64 0) (.int .i64 0) (.int .u64 0) (.int .i64 0) (.int .u8 0) (Zy2 _);refine bodyPost_ret (v:=.tuple #[.agg #[.int .u8 0,(0:Int),.int .u8 0,.int .u64 0,(0:Int),(0:Int),.int .u64 0,(0:Int),.int .u8 0],(250:Int)]) (by simp[results,results35,go_sem,r9.c0,r9.c1,r9.c2,r9.c3,r9.c4,r9.c5,r9.c6,r9.c7,r9.c8]) rfl ⟨rfl,xx⟩
    ·have tM:((N:Int)==27)=false:=by simp;omega
     have tM2:(N==27)=false:=by simpa using q27
     clear h3 h27 x0 b0 SL ln q3 q27;go_enter func35,ntmps35;go_wp2_with fail;obtain⟨r9,xx⟩:=FIN.out W0 (.int .u8 0) (.int .i64 0) (.int .u8 0) (.int .u64 0) (.int .i64 0) (.int .i64 0) (.int .u64 0) (.int .i64 0) (.int .u8 0) (Zy2 _);refine bodyPost_ret (v:=.tuple #[.agg #[.int .u8 0,(0:Int),.int .u8 0,.int .u64 0,(0:Int),(0:Int),.int .u64 0,(0:Int),.int .u8 0],(250:Int)]) (by simp[results,results35,go_sem,r9.c0,r9.c1,r9.c2,r9.c3,r9.c4,r9.c5,r9.c6,r9.c7,r9.c8]) rfl ⟨rfl,xx⟩
end
section
variable{w w':World}{rb p:Nat}{bs:List Int}
theorem Zn6{xb eb:Nat}{V:List Value}{v:Value}(hx:Zn w xb V)(hl:V.length=9)(he:Zn w eb [v])(ne:xb≠eb) :
  CallsD prog 70 #[xb,eb] (.panicking Wy) w fun e u' w'=>
   e=.returned (.tuple #[])∧u'=.panicking [{ v:=.iface 162 (.agg #[]),recovered:=true }]∧Zn w' xb enZ∧Zn w' eb [(250:Int)]∧Chg (fun k=>k=xb∨k=eb) w w':=by
 obtain⟨v0,v1,v2,v3,v4,v5,v6,v7,v8,rfl⟩:∃v0 v1 v2 v3 v4 v5 v6 v7 v8,V=[v0,v1,v2,v3,v4,v5,v6,v7,v8]:=by
  match V,hl with
  | [v0,v1,v2,v3,v4,v5,v6,v7,v8],_=>exact⟨_,_,_,_,_,_,_,_,_,rfl⟩
 refine callsD_of_wpS func70 rfl fun c₀ cs hu=>?_
 simp only[ntmps70,List.size_toArray,List.length_cons,List.length_nil,Nat.reduceAdd,Nat.reduceSub,Array.replicate_succ,Array.replicate_zero,List.push_toArray,List.append_toArray,List.nil_append,List.cons_append]
 apply wpS_seq
 apply wpS_region
 simp[wpOpsS,go_sem,recoverD,hu,Exit.thenS,Wy];have hta:∀W,(Instr.typeAssert (.iface 162 (.agg #[])) 20 162 true).run prog W=.ok (.tuple #[.agg #[],true]) W:=fun _=>by kernel_rfl
 obtain⟨k0,k1,k2,k3,k4,k5,k6,k7,k8⟩:=hx.k9;obtain⟨f0,f1,f2,f3,f4,f5,f6,f7,f8⟩:=hx.g9;have d0:=he.c 0 _ rfl;have g0:=he.f 0;have lx:=hx.lt;have le:=he.lt;refine wpS_of_wp ?_;go_wp2_with fail;have b1:=hx.put9 (.int .u8 0) (.int .i64 0) (.int .u8 0) (.int .u64 0) (.int .i64 0) (.int .i64 0) (.int .u64 0) (.int .i64 0) (.int .u8 0);have x1:=Xs w xb (.int .u8 0) (.int .i64 0) (.int .u8 0) (.int .u64 0) (.int .i64 0) (.int .i64 0) (.int .u64 0) (.int .i64 0) (.int .u8 0);have e1:=he.chg x1 (fun q=>ne (show xb=eb from (show eb=xb from q).symm));have x2:Chg (fun k=>k=eb) (put9 w xb (.int .u8 0) (.int .i64 0) (.int .u8 0) (.int .u64 0) (.int .i64 0) (.int .i64 0) (.int .u64 0) (.int .i64 0) (.int .u8 0)) ((put9 w xb (.int .u8 0) (.int .i64 0) (.int .u8 0) (.int .u64 0) (.int .i64 0) (.int .i64 0) (.int .u64 0) (.int .i64 0) (.int .u8 0)).setCell eb (.int .i64 250)):=Chg.setCell (P:=fun j=>j=eb) (p:=⟨eb,0,none⟩) (Chg.refl _ _) (.inl rfl) _;have b2:=b1.chg x2 (fun q=>ne q);have e2:=e1.set (i:=0) (by show 0<1;decide) (.int .i64 250);have xa:=(Zy2 ((put9 w xb (.int .u8 0) (.int .i64 0) (.int .u8 0) (.int .u64 0) (.int .i64 0) (.int .i64 0) (.int .u64 0) (.int .i64 0) (.int .u8 0)).setCell eb (.int .i64 250))).alloc (.cells #[] 162);exact⟨rfl,_,rfl,.tuple #[],by simp[results,results70,go_sem],rfl,rfl,b2.ext xa,e2.ext xa,((x1.mono fun k q=>.inl q).trans (x2.mono fun k q=>.inr q)).trans (Zy3 xa)⟩
theorem Ou(a b:Value):CallsD prog 70 #[a,b] .returning w fun e u' w'=>e=.returned (.tuple #[])∧u'=.returning∧w'=w:=by
 refine callsD_of_wpS func70 rfl fun c₀ cs hu=>?_
 simp only[ntmps70,List.size_toArray,List.length_cons,List.length_nil,Nat.reduceAdd,Nat.reduceSub,Array.replicate_succ,Array.replicate_zero,List.push_toArray,List.append_toArray,List.nil_append,List.cons_append]
 apply wpS_seq
 apply wpS_region
 simp[wpOpsS,go_sem,recoverD,hu,Exit.thenS];refine wpS_of_wp ?_;go_wp2_with fail;refine⟨rfl,.returning,?_,.tuple #[],by simp[results,results70,go_sem],rfl,rfl,rfl⟩;cases c₀;simp only at hu;subst hu;rfl
end
end Go.Proofs.YtfcldaembdedjaaGreatDoor
