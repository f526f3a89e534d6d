/-
  Parts of the proof of TopCycles: CloneW, CloneI, MemW, Ref05C, Ref06, SlotA, SlotB, SlotC, SlotD, NextU, SlotF, SlotQ, SlotT, Ref09.
-/
import Derived.Test.YtfcldaembdedjaaGreatDoorQ01
import Derived.Deep.OwnRows
import Derived.Lib.SliceRun
import Derived.Test.YtfcldaembdedjaaGreatDoorChecked
import Derived.Deep.RegionWith
import Derived.Shelf.Abstract
set_option linter.unusedVariables false
set_option linter.unusedSimpArgs false
set_option maxRecDepth 100000
set_option maxHeartbeats 16000000
namespace Go.Proofs.YtfcldaembdedjaaGreatDoor
open Go.RowKit Tryz
theorem Jd:(prog.info? 34).map (fun i=>(i.zero,i.size,i.bytes))=some (some (.int .u64 0),1,8):=by kernel_rfl
theorem O9{a:Option Addr}{cap:Nat}(xs:List Int){w:World}(h:At .u64 w a xs)(hb:xs.length*8≤140737488355328) :
  Calls prog 176 #[.slice a xs.length cap] w (Pv .u64 xs w):=by
 obtain⟨i0,hi0,hz0,hz1,hz2⟩:=info_parts Jd;have he:∀(a:Option Addr) n c (w:World),(binOp .eql 72 (.slice a n c) (.slice none 0 0)).run prog w=.ok (.bool a.isNone) w:=fun a n c w=>Lib.run_eql_slice_nil w _ _ a n c 0 0 underlying72
 cases a with
 | none=>
  have hl:xs.length=0:=by
   rcases Nat.eq_zero_or_pos xs.length with c|c
   ·exact c
   ·obtain⟨b,o,e,_⟩:=h.pos c;cases e
  obtain rfl:=List.length_eq_zero_iff.1 hl;clear h;go_enter func176,ntmps176;go_wp2;go_ret;exact⟨none,0,rfl,⟨fun i hi=>absurd hi (Zzb _),Zy1 _,Nat.zero_le _,fun hi=>absurd hi (Nat.lt_irrefl 0)⟩,Zy2 w⟩
 | some ad=>
  have hnews:∀j u,(ncs .u64 xs)[j]?=some u→w.cell? (ad.add j)=some u:=by
   intro j u hj;have hl:=(List.getElem?_eq_some_iff.1 hj).1;rw[Ru] at hl;obtain⟨b,o,e,hc⟩:=h.pos (by omega);cases e;exact Dk hc j u hj
  have HN:=Za hnews;clear hnews h;have hn63:xs.length≤maxLen:=by unfold maxLen;omega
  have HM:=Za hn63;clear hn63;go_enter func176,ntmps176
  go_wp2_with (at_builtin;refine wpList_append_own _ rfl (.tmp 5) (.tmp 6) 72 rfl w.heap.size 34 i0 (.int .u64 0) 1 8 underlying72 hi0 hz0 hz1 hz2 rfl (by decide) (.slice (some ⟨w.heap.size,0,none⟩) 0 0) 0 [] rfl (World.ownsRow_made _ #[] 0 (Zy1 _) (by decide) rfl) ad xs.length cap (ncs .u64 xs) rfl (by rw[Ru,Nat.mul_one]) (fun j u hj=>Xd (HN.out j u hj) _) (Zcv _ _) (by rw[Nat.zero_add];exact HM.out) (by rw[Nat.zero_add];exact hb) (by simp) ?_;intro v' w1 hown hgrow Ce)
  go_ret;rw[Nat.zero_add,List.nil_append] at hown;have hx:Ext w w1:=Ext.of (((Zy2 w).alloc (.cells #[] 34)).below.grown hgrow (by simp) (fun k e=>by cases e;exact Zy1 _));obtain⟨a',c',rfl,hn⟩:=S8 hown;exact⟨a',c',rfl,hn,hx⟩
theorem Dq:(prog.info? 3).map (fun i=>(i.zero,i.size,i.bytes))=some (some (.int .i64 0),1,8):=by kernel_rfl
theorem Zg4{a:Option Addr}{cap:Nat}(xs:List Int){w:World}(h:At .i64 w a xs)(hb:xs.length*8≤140737488355328) :
  Calls prog 88 #[.slice a xs.length cap] w (Pv .i64 xs w):=by
 obtain⟨i0,hi0,hz0,hz1,hz2⟩:=info_parts Dq;have he:∀(a:Option Addr) n c (w:World),(binOp .eql 22 (.slice a n c) (.slice none 0 0)).run prog w=.ok (.bool a.isNone) w:=fun a n c w=>Lib.run_eql_slice_nil w _ _ a n c 0 0 underlying22
 cases a with
 | none=>
  have hl:xs.length=0:=by
   rcases Nat.eq_zero_or_pos xs.length with c|c
   ·exact c
   ·obtain⟨b,o,e,_⟩:=h.pos c;cases e
  obtain rfl:=List.length_eq_zero_iff.1 hl;clear h;go_enter func88,ntmps88;go_wp2;go_ret;exact⟨none,0,rfl,⟨fun i hi=>absurd hi (Zzb _),Zy1 _,Nat.zero_le _,fun hi=>absurd hi (Nat.lt_irrefl 0)⟩,Zy2 w⟩
 | some ad=>
  have hnews:∀j u,(ncs .i64 xs)[j]?=some u→w.cell? (ad.add j)=some u:=by
   intro j u hj;have hl:=(List.getElem?_eq_some_iff.1 hj).1;rw[Ru] at hl;obtain⟨b,o,e,hc⟩:=h.pos (by omega);cases e;exact Dk hc j u hj
  have HN:=Za hnews;clear hnews h;have hn63:xs.length≤maxLen:=by unfold maxLen;omega
  have HM:=Za hn63;clear hn63;go_enter func88,ntmps88
  go_wp2_with (at_builtin;refine wpList_append_own _ rfl (.tmp 5) (.tmp 6) 22 rfl w.heap.size 3 i0 (.int .i64 0) 1 8 underlying22 hi0 hz0 hz1 hz2 rfl (by decide) (.slice (some ⟨w.heap.size,0,none⟩) 0 0) 0 [] rfl (World.ownsRow_made _ #[] 0 (Zy1 _) (by decide) rfl) ad xs.length cap (ncs .i64 xs) rfl (by rw[Ru,Nat.mul_one]) (fun j u hj=>Xd (HN.out j u hj) _) (Zcv _ _) (by rw[Nat.zero_add];exact HM.out) (by rw[Nat.zero_add];exact hb) (by simp) ?_;intro v' w1 hown hgrow Ce)
  go_ret;rw[Nat.zero_add,List.nil_append] at hown;have hx:Ext w w1:=Ext.of (((Zy2 w).alloc (.cells #[] 3)).below.grown hgrow (by simp) (fun k e=>by cases e;exact Zy1 _));obtain⟨a',c',rfl,hn⟩:=S8 hown;exact⟨a',c',rfl,hn,hx⟩
theorem Ld{c:Zh}{t a n:Int}(h:Xo c t a n=0):∃i j m:Nat,t=i∧a=j∧n=m∧i<c.ts.length∧j+m≤Z0 c i:=by
 unfold Xo at h;split at h
 ·cases h
 ·rename_i h1;split at h
  ·cases h
  ·rename_i h2;refine⟨t.toNat,a.toNat,n.toNat,by omega,by omega,by omega,by omega,by omega⟩
theorem Le{c:Zh}{i j m:Nat}(hi:i<c.ts.length)(h:j+m≤Z0 c i):Xo c i j m=0:=by
 unfold Xo;rw[if_neg (by omega),if_neg (by simp;omega)]
def is64(a:Int):Prop:=-9223372036854775808≤a∧a≤9223372036854775807
def Zc1(c:Zh)(ws:List Int)(t a:Int):Int × Int:=if Xo c t a 1=0 then (nth ws (Yw c t.toNat+a.toNat),0) else (0,Xo c t a 1)
theorem Ap:Zi prog 196:=Zi.mk func196 (by kernel_rfl) rfl
theorem Zke{b gw gb:Nat}{t a:Int}(v k:Int){c:Zh}{ws:List Int}{w:World}(h:Yo w b gw gb c ws)(ha:is64 a)(hr:Zc1 c ws t a=(v,k))(pm pt pa pw:Nat)
  (c0:w.cell? pm=some (b:Value)) (c1:w.cell? pt=some (.int .i64 t)) (c2:w.cell? pa=some (.int .i64 a)) (c3:w.cell? pw=some (.int .u64 0)) (f3:w.frozen? pw=false) :
  Calls prog 196 #[pm,pt,pa,pw] w
   fun e w'=>Fd k e∧Chg (isB pw) w w'∧w'.cell? pw=some (.int .u64 v)∧w'.frozen? pw=false:=by
 have H:=Za h;have HA:=Za ha;have C3:=Za c3;have F3:=Za f3;unfold Zc1 at hr;by_cases hp:Xo c t a 1=0
 ·rw[if_pos hp] at hr;cases hr;obtain⟨i,j,m,rfl,rfl,hm,hi,hj⟩:=Ld hp;have hin:=h.ok.region_in hi;have hl:=h.len;have Rc:=h.word (i:=Yw c i+j) (by omega);have hm1:m=1:=by omega
  subst hm1;have PP:=Za (Dn h hi hj (Zy1 1));have HW:=Za Rc;clear h hp hin hl hi hj ha hm Rc c3 f3;simp only[Zy4];go_enter func196,ntmps196;go_wp2_with fail;refine PP.out.mono ?_;rintro e w1 ⟨⟨cap,rfl,hc1,hc2⟩,x⟩;have d3:=x.cell C3.out;have g3:=x.frozenAt C3.out F3.out;have hw:=x.cell HW.out;go_wp2
  go_end0
  exact⟨.inl ⟨rfl,rfl⟩,Chg.setCell (P:=isB pw) (Zy3 x) (.inl (show isB pw pw from rfl)) _,Zyz _ _ _ d3,by simpa using g3⟩
 ·rw[if_neg hp] at hr;cases hr;have PP:=Za (Oz _ h rfl hp ha (show is64 1 from ⟨by omega,by omega⟩));have HP:=Za hp;clear h hp ha c3 f3;go_enter func196,ntmps196;go_wp2_with fail;refine PP.out.ze fun w1 x=>?_;have d3:=x.cell C3.out;have g3:=x.frozenAt C3.out F3.out;exact⟨rfl,.inr ⟨HP.out,rfl⟩,Zy3 x,d3,g3⟩
theorem U6(w:World)(v:Value)(t:TypeId){b:Nat}(hb:w.heap.size=b):(w.alloc (.cells #[v] t)).cell? b=some v∧(w.alloc (.cells #[v] t)).frozen? b=false:=by
 subst hb;exact⟨Zr w v t,World.frozen?_alloc_at _ _ _ _ rfl⟩
theorem Kd{w w':World}{p:Addr}{v:Value}(h:w.cell? p=some v∧w.frozen? p=false)(hx:Ext w w'):w'.cell? p=some v∧w'.frozen? p=false:=
 ⟨hx.cell h.1,hx.frozenAt h.1 h.2⟩
theorem Lf(w:World)(v0 v1 v2 v3 v4:Value)(t0 t1 t2 t3 t4:TypeId){z:Nat}(hz:w.heap.size=z){W:World}(hW:((((w.alloc (.cells #[v0] t0)).alloc (.cells #[v1] t1)).alloc (.cells #[v2] t2)).alloc (.cells #[v3] t3)).alloc (.cells #[v4] t4)=W) :
  (W.cell? z=some v0∧W.frozen? z=false)∧(W.cell? ⟨z+1,0,none⟩=some v1∧W.frozen? ⟨z+1,0,none⟩=false)∧(W.cell? ⟨z+1+1,0,none⟩=some v2∧W.frozen? ⟨z+1+1,0,none⟩=false) ∧
  (W.cell? ⟨z+1+1+1,0,none⟩=some v3∧W.frozen? ⟨z+1+1+1,0,none⟩=false)∧(W.cell? ⟨z+1+1+1+1,0,none⟩=some v4∧W.frozen? ⟨z+1+1+1+1,0,none⟩=false)∧Ext w W:=by
 subst hz hW;have x:∀(W:World) o,Ext W (W.alloc o):=fun W o=>(Zy2 W).alloc o
 refine⟨?_,?_,?_,?_,U6 _ _ _ (by simp),((((x _ _).trans (x _ _)).trans (x _ _)).trans (x _ _)).trans (x _ _)⟩
 ·exact Kd (U6 w v0 t0 rfl) ((((x _ _).trans (x _ _)).trans (x _ _)).trans (x _ _))
 ·exact Kd (U6 _ v1 t1 (by simp)) (((x _ _).trans (x _ _)).trans (x _ _))
 ·exact Kd (U6 _ v2 t2 (by simp)) ((x _ _).trans (x _ _))
 ·exact Kd (U6 _ v3 t3 (by simp)) (x _ _)
theorem Dr{b gw gb:Nat}{t a:Int}(v k:Int){c:Zh}{ws:List Int}{w:World}(h:Yo w b gw gb c ws)(ha:is64 a)(hr:Zc1 c ws t a=(v,k)) :
  Calls prog 157 #[b,.int .i64 t,.int .i64 a] w fun e w'=>e=.returned (.tuple #[.int .u64 v,.int .i64 k])∧Ext w w':=by
 have hmf:=Ze
 obtain⟨z,hz⟩:=Zb (w.heap.size);obtain⟨⟨c0,_⟩,⟨c1,_⟩,⟨c2,_⟩,⟨c3,f3⟩,_,hx⟩:=Lf w (b:Value) (.int .i64 t) (.int .i64 a) (.int .u64 0) (.int .i64 0) 104 3 3 34 28 hz rfl;have L1:=Za (Dp (z:=z+1+1+1+1) (P:=isB (z+1+1+1)) (S:=fun w'=>w'.cell? ⟨z+1+1+1,0,none⟩=some (.int .u64 v)∧w'.frozen? ⟨z+1+1+1,0,none⟩=false) k Ap (by simp[hz]) (by unfold isB;omega)
  (Zke v k (h.ext hx) ha hr z (z+1) (z+1+1) (z+1+1+1) c0 c1 c2 c3 f3) (fun w' q=>⟨by rw[cell_far _ _ _ _ (by simp)];exact q.1,by simpa using q.2⟩))
 have HZ:=Za hz;clear c0 c1 c2 c3 f3 hx h ha hr;go_enter func157,ntmps157;go_wp2_with fail;refine L1.out.mono ?_;rintro e w1 ⟨rfl,hc,c3,f3⟩;go_wp2_with fail;have d3:=Zyz w1 ⟨z+1+1+1,0,none⟩ (.int .u64 v) c3;refine bodyPost_ret (v:=.tuple #[.int .u64 v,.int .i64 k]) (by simp[results,results157,go_sem,d3]) rfl ⟨rfl,?_⟩;refine(Chg.setCell (P:=isB (z+1+1+1)) (p:=⟨z+1+1+1,0,none⟩) hc (.inl rfl) _).over ((((Zy2 w).alloc _).alloc _).alloc _ |>.alloc _) (fun j hj=>?_);have:=HZ.out;unfold isB at hj;omega
def Ke(c:Zh)(ws:List Int)(t a x:Int):List Int × Int:=if Xo c t a 1=0 then (ws.set (Yw c t.toNat+a.toNat) x,0) else (ws,Xo c t a 1)
theorem Yo.set{w:World}{b gw gb i:Nat}{c:Zh}{ws:List Int}(h:Yo w b gw gb c ws)(hi:i<ws.length)(x:Int):Yo (w.setCell ⟨gw,i,none⟩ (.int .u64 x)) b gw gb c (ws.set i x):=by
 obtain⟨cap,h0,h1⟩:=h.words;obtain⟨cap',g0,g1⟩:=h.bases;have n1:=h.ne;have n2:=h.nb;refine⟨h.ok,by rw[List.length_set];exact h.len,⟨cap,?_,by rw[List.length_set];exact h1⟩,⟨cap',?_,g1⟩,h.row.set hi x,fun t ht=>?_,fun o=>by simpa using h.fz o,n1,n2⟩
 ·rw[cell_far _ _ _ _ (by show gw≠b;omega),List.length_set];exact h0
 ·rw[cell_far _ _ _ _ (by show gw≠b;omega)];exact g0
 ·rw[cell_far _ _ _ _ (by show gw≠gb;omega)];exact h.base t ht
theorem Ds:Zi prog 353:=Zi.mk func353 (by kernel_rfl) rfl
theorem Zg5{b gw gb:Nat}{t a x k:Int}{c:Zh}{ws ws':List Int}{w:World}(h:Yo w b gw gb c ws)(ha:is64 a)(hr:Ke c ws t a x=(ws',k))(pw pm pt pa:Nat)
  (c0:w.cell? pm=some (b:Value)) (c1:w.cell? pt=some (.int .i64 t)) (c2:w.cell? pa=some (.int .i64 a)) (c3:w.cell? pw=some (.int .u64 x)) (n0:gw≠pm) (n1:gw≠pt) (n2:gw≠pa) (n3:gw≠pw) :
  Calls prog 353 #[pw,pm,pt,pa] w
   fun e w'=>Fd k e∧Chg (isB gw) w w'∧Yo w' b gw gb c ws':=by
 have H:=Za h;have hd:Ext w w.drew:=(Zy2 w).drew;unfold Ke at hr;by_cases hp:Xo c t a 1=0
 ·rw[if_pos hp] at hr;cases hr;obtain⟨i,j,m,rfl,rfl,hm,hi,hj⟩:=Ld hp;have hin:=h.ok.region_in hi;have hl:=h.len;have Rc:=h.word (i:=Yw c i+j) (by omega);have hbj:=Za (show Yw c i+j<ws.length by omega);have hf:=h.fz (Yw c i+j);have hm1:m=1:=by omega
  subst hm1;have PP:=Za (Dn (h.ext hd) hi hj (Zy1 1));have HW:=Za Rc;have HF:=Za hf;clear h hp hin hl hi hj ha hm Rc hf;simp only[Zy4];go_enter func353,ntmps353;go_wp2_with fail
  go_region_held3 (fun w'=>w'.cell? pm=some (b:Value)∧w'.cell? pt=some (.int .i64 i)∧w'.cell? pa=some (.int .i64 j)∧w'.cell? pw=some (.int .u64 x))
   ((first|with_reducible exact⟨hE.cell c0,hE.cell c1,hE.cell c2,hE.cell c3⟩|exact⟨(cell_far _ _ _ _ n0).trans (hE.cell c0),(cell_far _ _ _ _ n1).trans (hE.cell c1),(cell_far _ _ _ _ n2).trans (hE.cell c2),(cell_far _ _ _ _ n3).trans (hE.cell c3)⟩|go_keep))
   ((go_at_call 197;refine PP.out.mono ?_;rintro e w1 ⟨⟨cap,rfl,hc1,hc2⟩,xx⟩;have hE:=hd.trans xx;have hw:=hE.cell HW.out;have hff:=hE.frozenAt HW.out HF.out))
  go_end0
  exact⟨.inl ⟨rfl,rfl⟩,Chg.setCell (P:=isB gw) (p:=⟨gw,Yw c i+j,none⟩) (Zy3 hE) (.inl rfl) _,(H.out.ext hE).set hbj.out x⟩
 ·rw[if_neg hp] at hr;cases hr;have PP:=Za (Oz _ (h.ext hd) rfl hp ha (show is64 1 from ⟨by omega,by omega⟩));have HP:=Za hp;clear h hp ha;go_enter func353,ntmps353;go_wp2_with fail;refine wp_region_held_drew (S:=(fun w'=>w'.cell? pm=some (b:Value)∧w'.cell? pt=some (.int .i64 t)∧w'.cell? pa=some (.int .i64 a)∧w'.cell? pw=some (.int .u64 x))) (by kernel_rfl) ?_ (fun hHeld=>?_)
  focus ((try dsimp only);go_keep)
  refine Zyu 0 (v:=?_) ?_ ?_;rotate_left
  focus (intro w hSw;(try dsimp only at hSw);go_simp;try with_reducible rfl)
  try simp only[Zyt]
  refine Zyu 1 (v:=?_) ?_ ?_;rotate_left
  focus (intro w hSw;(try dsimp only at hSw);go_simp;try with_reducible rfl)
  try simp only[Zyt]
  refine Zyu 2 (v:=?_) ?_ ?_;rotate_left
  focus (intro w hSw;(try dsimp only at hSw);go_simp;try with_reducible rfl)
  try simp only[Zyt]
  refine Zyu 4 (v:=?_) ?_ ?_;rotate_left
  focus (intro w hSw;(try dsimp only at hSw);go_simp;try with_reducible rfl)
  try simp only[Zyt]
  refine wpAnyH_ready (rs:=[3]) (by kernel_rfl) (by simp) ?_;refine AllReadyH.cons (i:=3) rfl (fun K hK=>?_) AllReadyH.nil;go_simp
  go_at_call 197
  refine PP.out.ze fun w1 xx=>?_;exact⟨rfl,.inr ⟨HP.out,rfl⟩,Zy3 (hd.trans xx),H.out.ext (hd.trans xx)⟩
theorem Yo.far{w:World}{b gw gb z:Nat}{c:Zh}{ws:List Int}(h:Yo w b gw gb c ws)(h0:b≠z)(h1:gw≠z)(h2:gb≠z)(u:Value):Yo (w.setCell z u) b gw gb c ws:=
 h.chg (P:=isB z) (Chg.setCell (P:=isB z) (p:=⟨z,0,none⟩) (Chg.refl _ w) (.inl rfl) u) h0 h1 h2
theorem Zkf{b gw gb:Nat}{t a x k:Int}{c:Zh}{ws ws':List Int}{w:World}(h:Yo w b gw gb c ws)(ha:is64 a)(hr:Ke c ws t a x=(ws',k)) :
  Calls prog 321 #[b,.int .i64 t,.int .i64 a,.int .u64 x] w fun e w'=>e=.returned (.int .i64 k)∧Chg (isB gw) w w'∧Yo w' b gw gb c ws':=by
 have hmf:=Ze
 obtain⟨z,hz⟩:=Zb (w.heap.size);obtain⟨⟨c0,_⟩,⟨c1,_⟩,⟨c2,_⟩,⟨c3,f3⟩,_,hx⟩:=Lf w (b:Value) (.int .i64 t) (.int .i64 a) (.int .u64 x) (.int .i64 0) 104 3 3 34 28 hz rfl;have l:=h.lt;obtain⟨l0,l1,l2⟩:=l;have L1:=Za (Dp (z:=z+1+1+1+1) (P:=isB gw) (S:=fun w'=>Yo w' b gw gb c ws') k Ds (by simp[hz]) (by unfold isB;omega)
  (Zg5 (h.ext hx) ha hr (z+1+1+1) z (z+1) (z+1+1) c0 c1 c2 c3 (by omega) (by omega) (by omega) (by omega)) (fun w' q=>q.far (by omega) (by omega) (by omega) _))
 have HZ:=Za hz;clear c0 c1 c2 c3 f3 hx h ha hr;go_enter func321,ntmps321;go_wp2_with fail;refine L1.out.mono ?_;rintro e w1 ⟨rfl,hc,hm⟩;go_wp2;go_ret;exact⟨rfl,(((((Chg.refl (isB gw) w).alloc _).alloc _).alloc _).alloc _).trans hc,hm⟩
def Zg6(c:Zh)(ws:List Int)(t a n:Int):List Int × Int:=if Xo c t a n=0 then (Sg ws (Yw c t.toNat+a.toNat) n.toNat,0) else (ws,Xo c t a n)
theorem Zg7(ws:List Int)(a:Nat):Sg ws a 0=ws:=by unfold Sg;simp
theorem Yo.zero{w:World}{b gw gb i n:Nat}{c:Zh}{ws:List Int}(h:Yo w b gw gb c ws)(hi:i+n≤ws.length):Yo (w.setCells gw i (List.replicate n (.int .u64 0))) b gw gb c (Sg ws i n):=by
 obtain⟨cap,h0,h1⟩:=h.words;obtain⟨cap',g0,g1⟩:=h.bases;have n1:=h.ne;have n2:=h.nb;have hl:=Ns hi;have far:∀b' o u,b'≠gw→w.cell? ⟨b',o,none⟩=some u→(w.setCells gw i (List.replicate n (.int .u64 0))).cell? ⟨b',o,none⟩=some u:=fun b' o u hb hc=>by
  rw[World.cell?_setCells_out gw _ i w ⟨b',o,none⟩ (fun e=>absurd e.symm (Ne.symm hb))];exact hc
 refine⟨h.ok,by rw[hl];exact h.len,⟨cap,by rw[hl];exact far _ _ _ n1 h0,by rw[hl];exact h1⟩,⟨cap',far _ _ _ n1 g0,g1⟩,At.mk fun k hk=>?_,fun t ht=>far _ _ _ n2 (h.base t ht),fun o=>by rw[World.frozen?_setCells];exact h.fz o,n1,n2⟩;rw[hl] at hk;rw[Nat.zero_add,Nt hi];by_cases hin:i≤k∧k<i+n
 ·rw[if_pos hin];have:=World.cell?_setCells_in gw (List.replicate n (.int .u64 0)) i w (fun j hj=>by rw[Zza] at hj;rw[h.word (by omega)];rfl) (k-i) (by simp;omega);rw[show i+(k-i)=k by omega] at this;rw[this];simp[show k-i<n by omega]
 ·rw[if_neg hin,World.cell?_setCells_out gw _ i w ⟨gw,k,none⟩ (fun _=>by simp;omega)];exact h.word hk
theorem Aq:Zi prog 343:=Zi.mk func343 (by kernel_rfl) rfl
theorem Zkg{b gw gb:Nat}{t a n k:Int}{c:Zh}{ws ws':List Int}{w:World}(h:Yo w b gw gb c ws)(ha:is64 a)(hn:is64 n)(hr:Zg6 c ws t a n=(ws',k))(pm pt pa pn:Nat)
  (c0:w.cell? pm=some (b:Value)) (c1:w.cell? pt=some (.int .i64 t)) (c2:w.cell? pa=some (.int .i64 a)) (c3:w.cell? pn=some (.int .i64 n)) :
  Calls prog 343 #[pm,pt,pa,pn] w
   fun e w'=>Fd k e∧Chg (isB gw) w w'∧Yo w' b gw gb c ws':=by
 have H:=Za h;unfold Zg6 at hr;by_cases hp:Xo c t a n=0
 ·rw[if_pos hp] at hr;cases hr;obtain⟨i,j,m,rfl,rfl,rfl,hi,hj⟩:=Ld hp;simp only[Zy4];rcases Nat.eq_zero_or_pos m with hm|hm
  ·subst hm;have PP:=Za (Zkd h hi (show j≤Z0 c i by omega));have hcl:∀ty p cap (w:World),(Builtin.clear_ #[72] ty #[.slice p 0 cap]).run prog w=.ok (.tuple #[]) w:=fun ty p cap w=>by
    cases p<;>simp[Builtin.clear_,run_underlying underlying72]
   rw[Zg7];clear h hp hi hj ha hn;go_enter func343,ntmps343;go_wp2_with fail;refine PP.out.mono ?_;rintro e w1 ⟨⟨p,cap,rfl⟩,x⟩;go_wp2
   go_end0
   exact⟨.inl ⟨rfl,rfl⟩,Zy3 x,H.out.ext x⟩
  ·have hin:=h.ok.region_in hi;have hl:=h.len;have PP:=Za (Dn h hi hj hm);have HB:=Za (show Yw c i+j+m≤ws.length by omega);clear h hp hin hl hi hj ha hn;go_enter func343,ntmps343;go_wp2_with fail;refine PP.out.mono ?_;rintro e w1 ⟨⟨cap,rfl,hc1,hc2⟩,x⟩;have H1:=Za (H.out.ext x);have hv:∀w,(zeroValue 34).run prog w=.ok (.int .u64 0) w:=fun w=>by kernel_rfl
   have hcl:∀ty,(Builtin.clear_ #[72] ty #[.slice (some ⟨gw,Yw c i+j,none⟩) m cap]).run prog w1=.ok (.tuple #[]) (w1.setCells gw (Yw c i+j) (List.replicate m (.int .u64 0))):=fun ty=>
    Lib.run_clear_slice w1 _ 34 ty (.int .u64 0) underlying72 hv rfl rfl gw (Yw c i+j) m cap hm (fun y hy=>by rw[H1.out.word (by have:=HB.out;omega)];rfl) (fun y _=>H1.out.fz _)
   clear hv;go_wp2
   go_end0
   exact⟨.inl ⟨rfl,rfl⟩,Chg.setCells (P:=isB gw) _ _ (Zy3 x) rfl,H1.out.zero HB.out⟩
 ·rw[if_neg hp] at hr;cases hr;have PP:=Za (Oz _ h rfl hp ha hn);have HP:=Za hp;clear h hp ha hn;go_enter func343,ntmps343;go_wp2_with fail;refine PP.out.ze fun w1 x=>?_;exact⟨rfl,.inr ⟨HP.out,rfl⟩,Zy3 x,H.out.ext x⟩
theorem Zpf{b gw gb:Nat}{t a n k:Int}{c:Zh}{ws ws':List Int}{w:World}(h:Yo w b gw gb c ws)(ha:is64 a)(hn:is64 n)(hr:Zg6 c ws t a n=(ws',k)) :
  Calls prog 312 #[b,.int .i64 t,.int .i64 a,.int .i64 n] w fun e w'=>e=.returned (.int .i64 k)∧Chg (isB gw) w w'∧Yo w' b gw gb c ws':=by
 have hmf:=Ze
 obtain⟨z,hz⟩:=Zb (w.heap.size);obtain⟨⟨c0,_⟩,⟨c1,_⟩,⟨c2,_⟩,⟨c3,f3⟩,_,hx⟩:=Lf w (b:Value) (.int .i64 t) (.int .i64 a) (.int .i64 n) (.int .i64 0) 104 3 3 3 28 hz rfl;have l:=h.lt;obtain⟨l0,l1,l2⟩:=l;have L1:=Za (Dp (z:=z+1+1+1+1) (P:=isB gw) (S:=fun w'=>Yo w' b gw gb c ws') k Aq (by simp[hz]) (by unfold isB;omega)
  (Zkg (h.ext hx) ha hn hr z (z+1) (z+1+1) (z+1+1+1) c0 c1 c2 c3) (fun w' q=>q.far (by omega) (by omega) (by omega) _))
 have HZ:=Za hz;clear c0 c1 c2 c3 f3 hx h ha hn hr;go_enter func312,ntmps312;go_wp2_with fail;refine L1.out.mono ?_;rintro e w1 ⟨rfl,hc,hm⟩;go_wp2;go_ret;exact⟨rfl,(((((Chg.refl (isB gw) w).alloc _).alloc _).alloc _).alloc _).trans hc,hm⟩
theorem Ge:Zi prog 216:=Zi.mk func216 (by kernel_rfl) rfl
def Wl(c:Zh)(ws:List Int)(t k:Int)(w w':World)(sv:Value):Prop:=
 (k=0∧∃a cap,sv=.slice a (Uc c ws t.toNat).length cap∧Yj .u64 w w' a cap (Uc c ws t.toNat))∨(k≠0∧sv=.slice none 0 0)
theorem Wl.mk{c:Zh}{ws:List Int}{i:Nat}{w w':World}{a:Option Addr}{cap:Nat}(h:Yj .u64 w w' a cap (Uc c ws i)):Wl c ws i 0 w w' (.slice a (Uc c ws i).length cap):=
 .inl ⟨rfl,a,cap,rfl,h⟩
theorem Wl.form{c:Zh}{ws:List Int}{t k:Int}{w w':World}{sv:Value}(h:Wl c ws t k w w' sv):∃a n cap,sv=.slice a n cap:=by
 rcases h with ⟨_,a,cap,rfl,_⟩|⟨_,rfl⟩
 ·exact⟨_,_,_,rfl⟩
 ·exact⟨_,_,_,rfl⟩
theorem Wl.setCell{c:Zh}{ws:List Int}{t k:Int}{w w':World}{sv:Value}(h:Wl c ws t k w w' sv){p:Addr}(hp:p.block<w.heap.size)(u:Value):Wl c ws t k w (w'.setCell p u) sv:=by
 rcases h with ⟨h0,a,cap,rfl,hn⟩|h
 ·exact .inl ⟨h0,a,cap,rfl,hn.setCell hp u⟩
 ·exact .inr h
theorem Wl.lower{c:Zh}{ws:List Int}{t k:Int}{w w0 w':World}{sv:Value}(h:Wl c ws t k w0 w' sv)(hl:w.heap.size≤w0.heap.size):Wl c ws t k w w' sv:=by
 rcases h with ⟨h0,a,cap,rfl,hn⟩|h
 ·exact .inl ⟨h0,a,cap,rfl,hn.lower hl⟩
 ·exact .inr h
theorem Yo.regionAt{w:World}{b gw gb t:Nat}{c:Zh}{ws:List Int}(h:Yo w b gw gb c ws)(ht:t<c.ts.length):At .u64 w (some ⟨gw,Yw c t,none⟩) (Uc c ws t):=by
 refine At.mk fun i hi=>?_
 rw[Ox h.ok ht h.len] at hi;have:=h.ok.region_in ht;rw[Zcs hi];exact h.word (by rw[h.len];omega)
theorem Zg8{b gw gb:Nat}{t k:Int}{c:Zh}{ws:List Int}{w:World}(h:Yo w b gw gb c ws)(hr:Ao c t=k)(pm pt pl:Nat)
  (c0:w.cell? pm=some (b:Value)) (c1:w.cell? pt=some (.int .i64 t)) (c2:w.cell? pl=some (.slice none 0 0)) (f2:w.frozen? pl=false) :
  Calls prog 216 #[pm,pt,pl] w
   fun e w'=>Fd k e∧Chg (isB pl) w w'∧∃sv,w'.cell? pl=some sv∧w'.frozen? pl=false∧Wl c ws t k w w' sv:=by
 have H:=Za h;have C2:=Za c2;have F2:=Za f2;unfold Ao at hr;by_cases hp:t<0∨(c.ts.length:Int)≤t
 ·rw[if_pos hp] at hr;subst hr;have PP:=Za (Nx h hp);clear h hp c2 f2;go_enter func216,ntmps216;go_wp2_with fail;refine PP.out.zz ?_;exact⟨rfl,.inr ⟨by decide,rfl⟩,Chg.refl _ _,_,C2.out,F2.out,.inr ⟨by decide,rfl⟩⟩
 ·rw[if_neg hp] at hr;subst hr;obtain⟨i,rfl⟩:∃i:Nat,t=i:=⟨t.toNat,by omega⟩;have hi:i<c.ts.length:=by omega
  have PP:=Za (Ue h hi);have hl:=Ox h.ok hi h.len;have hr:=h.regionAt hi;have hb:(Uc c ws i).length*8≤140737488355328:=by
   have:=h.ok.region_in hi;have:=h.ok.total_le;omega
  have HL:=Za hl;have HR:=Za hr;have HB:=Za hb;clear h hp hl hr hb hi c2 f2;go_enter func216,ntmps216;go_wp2_with fail;refine PP.out.mono ?_;rintro e w1 ⟨⟨cap,rfl,hc1,hc2⟩,x⟩;rw[←HL.out];go_wp2_with fail;refine(O9 (Uc c ws i) (HR.out.ext x) HB.out).mono ?_;rintro e w2 ⟨a',c',rfl,hn,x2⟩;have hE:=x.trans x2;have d2:=hE.cell C2.out;have g2:=hE.frozenAt C2.out F2.out;have lt2:pl<w1.heap.size:=Zj (x.cell C2.out);have HN:=Za hn;clear hn;go_wp2
  go_end0
  exact⟨.inl ⟨rfl,rfl⟩,Chg.setCell (P:=isB pl) (p:=⟨pl,0,none⟩) (Zy3 hE) (.inl rfl) _,_,Zyz _ _ _ d2,by simpa using g2,Wl.mk ((HN.out.setCell (p:=⟨pl,0,none⟩) lt2 _).lower x.size)⟩
theorem Zc2(w:World)(v0 v1 v2 v3:Value)(t0 t1 t2 t3:TypeId){z:Nat}(hz:w.heap.size=z){W:World}(hW:(((w.alloc (.cells #[v0] t0)).alloc (.cells #[v1] t1)).alloc (.cells #[v2] t2)).alloc (.cells #[v3] t3)=W) :
  (W.cell? z=some v0∧W.frozen? z=false)∧(W.cell? ⟨z+1,0,none⟩=some v1∧W.frozen? ⟨z+1,0,none⟩=false)∧(W.cell? ⟨z+1+1,0,none⟩=some v2∧W.frozen? ⟨z+1+1,0,none⟩=false)∧Ext w W:=by
 subst hz hW;have x:∀(W:World) o,Ext W (W.alloc o):=fun W o=>(Zy2 W).alloc o
 refine⟨?_,?_,?_,(((x _ _).trans (x _ _)).trans (x _ _)).trans (x _ _)⟩
 ·exact Kd (U6 w v0 t0 rfl) (((x _ _).trans (x _ _)).trans (x _ _))
 ·exact Kd (U6 _ v1 t1 (by simp)) ((x _ _).trans (x _ _))
 ·exact Kd (U6 _ v2 t2 (by simp)) (x _ _)
theorem Zkh{b gw gb:Nat}{t k:Int}{c:Zh}{ws:List Int}{w:World}(h:Yo w b gw gb c ws)(hr:Ao c t=k) :
  Calls prog 178 #[b,.int .i64 t] w fun e w'=>∃sv,e=.returned (.tuple #[sv,.int .i64 k])∧Wl c ws t k w w' sv∧Ext w w':=by
 have hmf:=Ze
 obtain⟨z,hz⟩:=Zb (w.heap.size);obtain⟨⟨c0,_⟩,⟨c1,_⟩,⟨c2,f2⟩,hx⟩:=Zc2 w (b:Value) (.int .i64 t) (.slice none 0 0) (.int .i64 0) 104 3 72 28 hz rfl;have L1:=Za (Dp (z:=z+1+1+1) (P:=isB (z+1+1)) (S:=fun w'=>∃sv,w'.cell? ⟨z+1+1,0,none⟩=some sv∧w'.frozen? ⟨z+1+1,0,none⟩=false∧Wl c ws t k ((((w.alloc (.cells #[b] 104)).alloc (.cells #[.int .i64 t] 3)).alloc (.cells #[.slice none 0 0] 72)).alloc (.cells #[(0:Int)] 28)) w' sv) k Ge (by simp[hz]) (by unfold isB;omega)
  (Zg8 (h.ext hx) hr z (z+1) (z+1+1) c0 c1 c2 f2) (fun w' ⟨sv,q1,q2,q3⟩=>⟨sv,by rw[cell_far _ _ _ _ (by simp)];exact q1,by simpa using q2,q3.setCell (by simp[hz]) _⟩))
 have HZ:=Za hz;clear c0 c1 c2 f2 hx h hr;go_enter func178,ntmps178;go_wp2_with fail;refine L1.out.mono ?_;rintro e w1 ⟨rfl,hc,sv,c2,f2,hw⟩;obtain⟨a,n,cap,rfl⟩:=hw.form;have HW:=Za hw;clear hw;go_wp2_with fail;have d2:=Zyz w1 ⟨z+1+1,0,none⟩ (.slice a n cap) c2;refine bodyPost_ret (v:=.tuple #[.slice a n cap,.int .i64 k]) (by simp[results,results178,go_sem,d2]) rfl ⟨.slice a n cap,rfl,(HW.out.setCell (p:=⟨z+1+1,0,none⟩) (by simp[HZ.out]<;>omega) _).lower (by simp<;>omega),?_⟩;refine(Chg.setCell (P:=isB (z+1+1)) (p:=⟨z+1+1,0,none⟩) hc (.inl rfl) _).over ((((Zy2 w).alloc _).alloc _).alloc _) (fun j hj=>?_);have:=HZ.out;unfold isB at hj;omega
theorem Ztw{b gw gb:Nat}{c:Zh}{ws:List Int}{w:World}(h:Yo w b gw gb c ws) :
  Calls prog 136 #[b] w (Pv .u64 ws w):=by
 obtain⟨cap,h0,hc1,hc2⟩:=h.words;have hb:ws.length*8≤140737488355328:=by have:=h.ok.total_le;have:=h.len;omega
 have H:=Za h;have HB:=Za hb;clear h hb;go_enter func136,ntmps136;go_wp2_with fail;refine(Jc H.out).zz ?_;go_wp2_with fail;refine(O9 ws H.out.row HB.out).mono ?_;rintro e w2 ⟨a',c',rfl,hn,x2⟩;go_wp2;go_ret;exact⟨a',c',rfl,hn,x2⟩
theorem Zc3(a:Option Addr)(cap:Nat)(xs:List Int)(w:World)(h:At .i64 w a xs)(hl:xs.length≤maxLen) :
  Calls prog 93 #[.slice a xs.length cap] w fun e w'=>e=.returned (.int .i64 (Ya xs))∧Ext w w':=by
 unfold maxLen at hl;by_cases h1:xs.length<1∨8<xs.length
 ·have E:=Za (Zgz h1);rcases h1 with h1|h1
  ·go_enter func93,ntmps93
   go_wp2
   go_ret;exact⟨by rw[E.out];rfl,Zy2 _⟩
  ·go_enter func93,ntmps93
   go_wp2
   go_ret;exact⟨by rw[E.out];rfl,Zy2 _⟩
 ·obtain⟨b,o,rfl,hc⟩:=h.pos (by omega);clear h;have HC:=Za hc;clear hc;have hl1:1≤xs.length:=by omega
  have hl8:xs.length≤8:=by omega
  clear h1;go_enter func93,ntmps93
  go_wp2
  go_loopw [3] (fun i wr=>∃(k:Nat),k≤xs.length∧i=.int .i64 k∧Hid (∀j,j<k→2≤nth xs j∧nth xs j≤64∧(0<j→nth xs (j-1)<nth xs j))∧Ext w wr) (fun i _=>xs.length-(intOf i).toNat)
  case atStart=>exact⟨0,Nat.zero_le _,rfl,fun j hj=>absurd hj (Zzb _),Zy2 _⟩
  case round=>
   obtain⟨k,hk,rfl,HR,hw⟩:=hrel;by_cases hlt:k<xs.length
   ·have hck:=hw.cell (HC.out k hlt);by_cases hb1:nth xs k<2
    ·have E:=Za (M0 hlt (.inl hb1))
     go_wp2
     go_quiet (fail)
     go_wp2
     go_ret;exact⟨by rw[E.out];rfl,hw.drewN _⟩
    ·have hd1:decide (nth xs k<2)=false:=by simpa using hb1
     by_cases hb2:64<nth xs k
     ·have E:=Za (M0 hlt (.inr (.inl hb2)))
      go_wp2
      go_quiet (fail)
      go_wp2
      go_ret;exact⟨by rw[E.out];rfl,hw.drewN _⟩
     ·have hd2:decide (64<nth xs k)=false:=by simpa using hb2
      by_cases hb3:0<k
      ·have hd3:decide (0<(k:Int))=true:=by simpa using hb3
       have hcp:=hw.cell (HC.out (k-1) (by omega));by_cases hb4:nth xs k≤nth xs (k-1)
       ·have E:=Za (M0 hlt (.inr (.inr ⟨hb3,hb4⟩)))
        go_wp2
        go_quiet (fail)
        go_wp2
        go_ret;exact⟨by rw[E.out];rfl,hw.drewN _⟩
       ·have hd4:decide (nth xs k≤nth xs (k-1))=false:=by simpa using hb4
        go_wp2
        go_quiet (fail)
        go_wp2
        go_roundw
        case rel=>exact⟨k+1,by omega,by go_num,fun j hj=>(Nat.lt_succ_iff_lt_or_eq.1 hj).elim (HR.out j) (fun e=>by subst e;exact⟨by omega,by omega,fun _=>by omega⟩),hw.drewN _⟩
        case measure=>simp[intOf];omega
      ·have hd3:decide (0<(k:Int))=false:=by simp;omega
       go_wp2
       go_quiet (fail)
       go_wp2
       go_roundw
       case rel=>exact⟨k+1,by omega,by go_num,fun j hj=>(Nat.lt_succ_iff_lt_or_eq.1 hj).elim (HR.out j) (fun e=>by subst e;exact⟨by omega,by omega,fun _=>by omega⟩),hw.drewN _⟩
       case measure=>simp[intOf];omega
   ·have E:=Za (Zco hl1 hl8 (fun j hj=>HR.out j (by omega)))
    go_wp2
    go_ret;exact⟨by rw[E.out];rfl,hw⟩
theorem Kf{a:Option Addr}{cap:Nat}(xs:List Int)(n:Nat)(p:Int){w:World}(hn:xs.length=n)(hp:Ya xs=p)(h:At .i64 w a xs)(hl:xs.length≤maxLen) :
  Calls prog 93 #[.slice a n cap] w fun e w'=>e=.returned (.int .i64 p)∧Ext w w':=by
 have:=Zc3 a cap xs w h hl;rw[hp,hn] at this;exact this
theorem Zg9(n lo hi:Int)(w:World) :
  Calls prog 108 #[.int .i64 n,.int .i64 lo,.int .i64 hi] w fun e w'=>e=.returned (.bool (decide (lo≤n∧n≤hi)))∧w=w':=by
 by_cases a:lo≤n
 ·by_cases b:n≤hi
  ·go_enter func108,ntmps108;go_wp2;go_ret;exact⟨Yg (by simp[a,b]),rfl⟩
  ·have hd:decide (n≤hi)=false:=by simpa using b
   go_enter func108,ntmps108;go_wp2;go_ret;exact⟨Yg (by simp),rfl⟩
 ·have hd:decide (lo≤n)=false:=by simpa using a
  go_enter func108,ntmps108;go_wp2;go_ret;exact⟨Yg (by simp),rfl⟩
theorem Zm{n lo hi:Int}(b:Bool){w:World}(h:decide (lo≤n∧n≤hi)=b) :
  Calls prog 108 #[.int .i64 n,.int .i64 lo,.int .i64 hi] w fun e w'=>e=.returned (.bool b)∧w=w':=h▸Zg9 n lo hi w
theorem J4{ca ta:Option Addr}{cc tc:Nat}(c:Zh)(b:Bool){w:World}(hb:decide (c.cl.length≤50∧c.ts.length≤50)=b)(h:Y7 w ca ta cc tc c) :
  Calls prog 64 #[.agg #[.slice ca c.cl.length cc,c.page,.slice ta c.ts.length tc,c.wk,c.gr,c.gens]] w fun e w'=>e=.returned (.bool b)∧Ext w w':=by
 have hx:=(Zy2 w).alloc (.cells #[.slice ca c.cl.length cc,c.page,.slice ta c.ts.length tc,c.wk,c.gr,c.gens] 25);have cm:=h.cm;have tm:=h.tm;unfold maxLen at cm tm;clear h;by_cases h1:c.cl.length≤50
 ·by_cases h2:c.ts.length≤50
  ·obtain rfl:true=b:=by rw[←hb];simp[h1,h2]
   have hd2:decide ((c.ts.length:Int)≤50)=true:=by simp;omega
   clear hb;go_enter func64,ntmps64;go_wp2;go_ret;exact⟨rfl,hx⟩
  ·obtain rfl:false=b:=by rw[←hb];simp[h2]
   have hd2:decide ((c.ts.length:Int)≤50)=false:=by simp;omega
   clear hb;go_enter func64,ntmps64;go_wp2;go_ret;exact⟨rfl,hx⟩
 ·obtain rfl:false=b:=by rw[←hb];simp[h1]
  have hd2:decide ((c.cl.length:Int)≤50)=false:=by simp;omega
  clear hb;go_enter func64,ntmps64;go_wp2;go_ret;exact⟨rfl,hx⟩
theorem Tq(c:Zh):Qi c ↔ (Vr c≤c.page∧c.page≤64)∧((1:Int)≤c.ts.length∧(c.ts.length:Int)≤8)∧(0≤c.wk∧c.wk≤8)∧(1≤c.gr∧c.gr≤64)∧(1≤c.gens∧c.gens≤2147483648):=by
 unfold Qi;constructor<;>intro h<;>omega
theorem Qw(g:Int)(t:Ten):M6 g t ↔ (g≤t.q∧t.q≤4096)∧(1≤t.tr∧t.tr≤1048576)∧(1≤t.cp∧t.cp≤1024)∧(0≤t.sst∧t.sst≤1024):=by
 unfold M6;constructor<;>intro h<;>omega
theorem Tu{ca ta:Option Addr}{cc tc:Nat}(c:Zh)(p:Int){w:World}(hp:Yc c=p)(h:Y7 w ca ta cc tc c) :
  Calls prog 65 #[.agg #[.slice ca c.cl.length cc,c.page,.slice ta c.ts.length tc,c.wk,c.gr,c.gens]] w fun e w'=>e=.returned (.int .i64 p)∧Ext w w':=by
 obtain⟨hx,h1⟩:=Zd w (Zf ca cc ta tc c);have tm:=h.tm;unfold maxLen at tm;have H:=Za h;clear h;by_cases h0:Ya c.cl=0
 ·have H0:=Za h0;have ho:=Qu h0;have c1:=ho.pos;have c8:=ho.most;obtain⟨cb,co,rfl,hc⟩:=H.out.cl.pos c1;have hcg:=hc (c.cl.length-1) (by omega);rw[show nth c.cl (c.cl.length-1)=Vr c from rfl] at hcg;have HP:=Za hp;clear h0 ho hc hp;go_enter func65,ntmps65;go_wp2_with fail;refine(Kf c.cl _ 0 rfl H0.out (H.out.cl.ext (hx.trans h1)) H.out.cm).ze fun w1 h2=>?_;replace h1:=h1.trans h2;clear h2;obtain⟨b0,b1,b2,b3,b4,b5⟩:=Vo h1;have hcg1:=(hx.trans h1).cell hcg;clear hcg;by_cases g1:Vr c≤c.page∧c.page≤64
  ·by_cases g2:(1:Int)≤c.ts.length∧(c.ts.length:Int)≤8
   ·by_cases g3:0≤c.wk∧c.wk≤8
    ·by_cases g4:1≤c.gr∧c.gr≤64
     ·by_cases g5:1≤c.gens∧c.gens≤2147483648
      ·have E:=Za (HP.out.symm.trans (J1 H0.out ((Tq c).2 ⟨g1,g2,g3,g4,g5⟩)));have G1:=Za g1;have G2:=Za g2;have G3:=Za g3;have G4:=Za g4;have G5:=Za g5;have t1:1≤c.ts.length:=by omega
       have t8:c.ts.length≤8:=by omega
       clear g1 g2 g3 g4 g5;go_wp2_with fail;refine(Zm true (by simpa using G1.out)).zz ?_;go_wp2_with fail;refine(Zm true (by simpa using G2.out)).zz ?_;go_wp2_with fail;refine(Zm true (by simpa using G3.out)).zz ?_;go_wp2_with fail;refine(Zm true (by simpa using G4.out)).zz ?_;go_wp2_with fail;refine(Zm true (by simpa using G5.out)).zz ?_;go_wp2_with fail;clear b0 b1 b2 b3 b4 b5 hcg1;obtain⟨tb,to_,rfl,ht⟩:=H.out.ts.pos t1;have HT:=Za ht;clear ht
       go_loopw [4] (fun i wr=>∃k:Nat,k≤c.ts.length∧i=.int .i64 k∧Hid (Y0 (Vr c) c.ts=Y0 (Vr c) (c.ts.drop k))∧Ext (w.alloc (.cells #[.slice (some ⟨cb,co,none⟩) c.cl.length cc,c.page,.slice (some ⟨tb,to_,none⟩) c.ts.length tc,c.wk,c.gr,c.gens] 25)) wr) (fun i _=>c.ts.length-(intOf i).toNat)
       case atStart=>exact⟨0,Nat.zero_le _,rfl,rfl,h1⟩
       case round=>
        clear h1;obtain⟨k,hk,rfl,HE,h1⟩:=hrel;obtain⟨b0,b1,b2,b3,b4,b5⟩:=Vo h1;by_cases hlt:k<c.ts.length
        ·obtain⟨q0,q1,q2,q3⟩:=HT.out k hlt;have hd:Y0 (Vr c) c.ts=if M6 (Vr c) (Vg c.ts k) then Y0 (Vr c) (c.ts.drop (k+1)) else 2:=by
          rw[HE.out,Jy c.ts k hlt];rfl
         have HD:=Za hd;clear hd;have r0:=(hx.trans h1).cell q0;have r1:=(hx.trans h1).cell q1;have r2:=(hx.trans h1).cell q2;have r3:=(hx.trans h1).cell q3;clear q0 q1 q2 q3
         generalize Vg c.ts k=t at *
         have h1n:=h1.alloc (.cells #[t.q,t.tr,t.cp,t.sst] 81);by_cases e1:Vr c≤t.q∧t.q≤4096
         ·by_cases e2:1≤t.tr∧t.tr≤1048576
          ·by_cases e3:1≤t.cp∧t.cp≤1024
           ·by_cases e4:0≤t.sst∧t.sst≤1024
            ·have E2:=Za (HD.out.trans (if_pos ((Qw _ t).2 ⟨e1,e2,e3,e4⟩)));have F1:=Za e1;have F2:=Za e2;have F3:=Za e3;have F4:=Za e4;clear e1 e2 e3 e4;go_wp2_with fail;refine(Zm true (by simpa using F1.out)).zz ?_;go_wp2_with fail;refine(Zm true (by simpa using F2.out)).zz ?_;go_wp2_with fail;refine(Zm true (by simpa using F3.out)).zz ?_;go_wp2_with fail;refine(Zm true (by simpa using F4.out)).zz ?_;go_wp2;go_roundw
             case rel=>exact⟨k+1,by omega,by go_num,E2.out,h1n⟩
             case measure=>simp[intOf];omega
            ·have E2:=Za (HD.out.trans (if_neg (fun h=>e4 ((Qw _ t).1 h).2.2.2)));have F1:=Za e1;have F2:=Za e2;have F3:=Za e3;have F4:=Za e4;clear e1 e2 e3 e4;go_wp2_with fail;refine(Zm true (by simpa using F1.out)).zz ?_;go_wp2_with fail;refine(Zm true (by simpa using F2.out)).zz ?_;go_wp2_with fail;refine(Zm true (by simpa using F3.out)).zz ?_;go_wp2_with fail;refine(Zm false (Zyx F4.out)).zz ?_;go_wp2;go_ret;exact⟨by rw[E.out,E2.out];rfl,hx.trans h1n⟩
           ·have E2:=Za (HD.out.trans (if_neg (fun h=>e3 ((Qw _ t).1 h).2.2.1)));have F1:=Za e1;have F2:=Za e2;have F3:=Za e3;clear e1 e2 e3;go_wp2_with fail;refine(Zm true (by simpa using F1.out)).zz ?_;go_wp2_with fail;refine(Zm true (by simpa using F2.out)).zz ?_;go_wp2_with fail;refine(Zm false (Zyx F3.out)).zz ?_;go_wp2;go_ret;exact⟨by rw[E.out,E2.out];rfl,hx.trans h1n⟩
          ·have E2:=Za (HD.out.trans (if_neg (fun h=>e2 ((Qw _ t).1 h).2.1)));have F1:=Za e1;have F2:=Za e2;clear e1 e2;go_wp2_with fail;refine(Zm true (by simpa using F1.out)).zz ?_;go_wp2_with fail;refine(Zm false (Zyx F2.out)).zz ?_;go_wp2;go_ret;exact⟨by rw[E.out,E2.out];rfl,hx.trans h1n⟩
         ·have E2:=Za (HD.out.trans (if_neg (fun h=>e1 ((Qw _ t).1 h).1)));have F1:=Za e1;clear e1;go_wp2_with fail;refine(Zm false (Zyx F1.out)).zz ?_;go_wp2;go_ret;exact⟨by rw[E.out,E2.out];rfl,hx.trans h1n⟩
        ·have E2:=Za (HE.out.trans (by rw[List.drop_of_length_le (by omega)];rfl:Y0 (Vr c) (c.ts.drop k)=0));go_wp2;go_ret;exact⟨by rw[E.out,E2.out];rfl,hx.trans h1⟩
      ·have E:=Za (HP.out.symm.trans (Ud H0.out (fun h=>g5 ((Tq c).1 h).2.2.2.2)));have G1:=Za g1;have G2:=Za g2;have G3:=Za g3;have G4:=Za g4;have G5:=Za g5;clear g1 g2 g3 g4 g5;go_wp2_with fail;refine(Zm true (by simpa using G1.out)).zz ?_;go_wp2_with fail;refine(Zm true (by simpa using G2.out)).zz ?_;go_wp2_with fail;refine(Zm true (by simpa using G3.out)).zz ?_;go_wp2_with fail;refine(Zm true (by simpa using G4.out)).zz ?_;go_wp2_with fail;refine(Zm false (Zyx G5.out)).zz ?_;go_wp2;go_ret;exact⟨by rw[E.out];rfl,hx.trans h1⟩
     ·have E:=Za (HP.out.symm.trans (Ud H0.out (fun h=>g4 ((Tq c).1 h).2.2.2.1)));have G1:=Za g1;have G2:=Za g2;have G3:=Za g3;have G4:=Za g4;clear g1 g2 g3 g4;go_wp2_with fail;refine(Zm true (by simpa using G1.out)).zz ?_;go_wp2_with fail;refine(Zm true (by simpa using G2.out)).zz ?_;go_wp2_with fail;refine(Zm true (by simpa using G3.out)).zz ?_;go_wp2_with fail;refine(Zm false (Zyx G4.out)).zz ?_;go_wp2;go_ret;exact⟨by rw[E.out];rfl,hx.trans h1⟩
    ·have E:=Za (HP.out.symm.trans (Ud H0.out (fun h=>g3 ((Tq c).1 h).2.2.1)));have G1:=Za g1;have G2:=Za g2;have G3:=Za g3;clear g1 g2 g3;go_wp2_with fail;refine(Zm true (by simpa using G1.out)).zz ?_;go_wp2_with fail;refine(Zm true (by simpa using G2.out)).zz ?_;go_wp2_with fail;refine(Zm false (Zyx G3.out)).zz ?_;go_wp2;go_ret;exact⟨by rw[E.out];rfl,hx.trans h1⟩
   ·have E:=Za (HP.out.symm.trans (Ud H0.out (fun h=>g2 ((Tq c).1 h).2.1)));have G1:=Za g1;have G2:=Za g2;clear g1 g2;go_wp2_with fail;refine(Zm true (by simpa using G1.out)).zz ?_;go_wp2_with fail;refine(Zm false (Zyx G2.out)).zz ?_;go_wp2;go_ret;exact⟨by rw[E.out];rfl,hx.trans h1⟩
  ·have E:=Za (HP.out.symm.trans (Ud H0.out (fun h=>g1 ((Tq c).1 h).1)));have G1:=Za g1;clear g1;go_wp2_with fail;refine(Zm false (Zyx G1.out)).zz ?_;go_wp2;go_ret;exact⟨by rw[E.out];rfl,hx.trans h1⟩
 ·have h2:Ya c.cl=2:=(Jw _).resolve_left h0;have E:=Za (hp.symm.trans (Am h0));have H2:=Za h2;clear h0 h2 hp;go_enter func65,ntmps65;go_wp2_with fail;refine(Kf c.cl _ 2 rfl H2.out (H.out.cl.ext (hx.trans h1)) H.out.cm).ze fun w1 h2=>?_;replace h1:=h1.trans h2;clear h2;obtain⟨b0,b1,b2,b3,b4,b5⟩:=Vo h1;go_wp2_with fail
  all_goals (try clear b0 b1 b2 b3 b4 b5)
  go_ret;exact⟨by rw[E.out];rfl,hx.trans h1⟩
theorem Uf{ca ta:Option Addr}{cc tc:Nat}(c:Zh)(t k:Int)(b:Bool){w:World}(hb:decide (Xb c t k)=b)(h:Y7 w ca ta cc tc c) :
  Calls prog 145 #[.agg #[.slice ca c.cl.length cc,c.page,.slice ta c.ts.length tc,c.wk,c.gr,c.gens],.int .i64 t,.int .i64 k] w fun e w'=>e=.returned (.bool b)∧Ext w w':=by
 obtain⟨hx,h1⟩:=Zd w (Zf ca cc ta tc c);have H:=Za h;clear h;by_cases h0:Yc c=0
 ·have ho:=Y8 h0;have c1:=ho.cl.pos;have c8:=ho.cl.most;have t1:=ho.head.2.2.1;have t8:=ho.head.2.2.2.1;have H0:=Za h0;by_cases e1:0≤t∧t≤(c.ts.length:Int)-1
  ·have hw:decide (0≤k∧k≤(c.cl.length:Int)-1)=b:=by rw[←hb];unfold Xb;simp only[h0,true_and,e1.1,e1.2]
   have HW:=Za hw;have F1:=Za e1;clear h0 ho hw hb e1;go_enter func145,ntmps145;go_wp2_with fail
   try clear b0 b1 b2 b3 b4 b5
   refine(Tu c 0 H0.out (H.out.ext (hx.trans h1))).ze fun w1 h2=>?_;replace h1:=h1.trans h2;clear h2;obtain⟨b0,b1,b2,b3,b4,b5⟩:=Vo h1;go_wp2_with fail;refine(Zm true (by simpa using F1.out)).zz ?_;go_wp2_with fail;refine(Zm b HW.out).zz ?_;go_wp2;go_ret;exact⟨rfl,hx.trans h1⟩
  ·obtain rfl:false=b:=by rw[←hb];symm;rw[decide_eq_false_iff_not];exact fun h=>e1 ⟨h.2.1,h.2.2.1⟩
   have F1:=Za e1;clear h0 ho hb e1;go_enter func145,ntmps145;go_wp2_with fail;refine(Tu c 0 H0.out (H.out.ext (hx.trans h1))).ze fun w2 h2=>?_;replace h1:=h1.trans h2;clear h2;obtain⟨b0,b1,b2,b3,b4,b5⟩:=Vo h1;go_wp2_with fail
   all_goals (try clear b0 b1 b2 b3 b4 b5)
   refine(Zm false (Zyx F1.out)).zz ?_;go_wp2;go_ret;exact⟨rfl,hx.trans h1⟩
 ·have h2:Yc c=2:=(Np _).resolve_left h0;obtain rfl:b=false:=by rw[←hb];simp[Xb,h0]
  have H2:=Za h2;clear h0 h2 hb;go_enter func145,ntmps145;go_wp2_with fail;refine(Tu c 2 H2.out (H.out.ext (hx.trans h1))).ze fun w3 h2=>?_;replace h1:=h1.trans h2;clear h2;obtain⟨b0,b1,b2,b3,b4,b5⟩:=Vo h1;go_wp2_with fail
  all_goals (try clear b0 b1 b2 b3 b4 b5)
  go_ret;exact⟨rfl,hx.trans h1⟩
theorem J5{ca ta:Option Addr}{cc tc:Nat}(c:Zh)(t k p q:Int){w:World}(hpq:Gz c t k=(p,q))(h:Y7 w ca ta cc tc c) :
  Calls prog 187 #[.agg #[.slice ca c.cl.length cc,c.page,.slice ta c.ts.length tc,c.wk,c.gr,c.gens],.int .i64 t,.int .i64 k] w fun e w'=>e=.returned (.tuple #[.int .i64 p,.int .i64 q])∧Ext w w':=by
 obtain⟨hx,h1⟩:=Zd w (Zf ca cc ta tc c);have H:=Za h;clear h;by_cases hth:Xb c t k
 ·obtain⟨i,j,rfl,rfl,hi,hj,ho⟩:=Ur hth;rw[Sx hth] at hpq;obtain⟨rfl,rfl⟩:Zl c i j=p∧0=q:=by simpa using hpq
  clear hpq;have c8:=ho.cl.most;have t8:=ho.head.2.2.2.1;have bd:=ho.bounds hi hj;have u1:=bd.c2;have u2:=bd.cq;have u3:=bd.q4096;have u4:=bd.c64;have HS:=Za (show Zl c i j=(Vg c.ts i).q / nth c.cl j from rfl);have HTH:=Za (show decide (Xb c i j)=true by simpa using hth);obtain⟨cb,co,rfl,hc⟩:=H.out.cl.pos (by omega);obtain⟨tb,to_,rfl,ht⟩:=H.out.ts.pos (by omega);have hcj:=hc j hj;have hti:=(ht i hi).1;clear hc ht bd ho hth
  generalize Zl c i j=s at *
  generalize nth c.cl j=x at *
  generalize (Vg c.ts i).q=y at *
  go_enter func187,ntmps187;go_wp2_with fail;refine(Uf c _ _ true HTH.out (H.out.ext (hx.trans h1))).ze fun w1 h2=>?_;replace h1:=h1.trans h2;clear h2;obtain⟨b0,b1,b2,b3,b4,b5⟩:=Vo h1;go_wp2_with fail
  all_goals (try clear b0 b1 b2 b3 b4 b5)
  obtain⟨b0,b1,b2,b3,b4,b5⟩:=Vo h1;have z1:=(hx.trans h1).cell hcj;have z2:=(hx.trans h1).cell hti;clear hcj hti
  go_quiet (fail)
  go_wp2;go_ret2;exact⟨by rw[HS.out];rfl,(hx.trans h1).drewN _⟩
 ·rw[Nr hth] at hpq;obtain⟨rfl,rfl⟩:0=p∧2=q:=by simpa using hpq
  have HTH:=Za (show decide (Xb c t k)=false by simpa using hth);clear hpq hth;go_enter func187,ntmps187;go_wp2_with fail;refine(Uf c _ _ false HTH.out (H.out.ext (hx.trans h1))).ze fun w2 h2=>?_;replace h1:=h1.trans h2;clear h2;obtain⟨b0,b1,b2,b3,b4,b5⟩:=Vo h1;go_wp2_with fail
  all_goals (try clear b0 b1 b2 b3 b4 b5)
  go_ret2;exact⟨rfl,hx.trans h1⟩
theorem Zpg{s pe k:Int}(h1:1≤pe)(h:k*pe<s):k+1≤(s+pe-1) / pe:=by
 rw[Int.le_ediv_iff_mul_le (by omega),Int.add_mul];omega
theorem Zki{s pe k:Int}(h1:1≤pe)(hk:k≤(s+pe-1) / pe)(h:s≤k*pe):k=(s+pe-1) / pe:=by
 have:(s+pe-1) / pe<k+1:=by rw[Int.ediv_lt_iff_lt_mul (by omega),Int.add_mul];omega
 omega
theorem Zc4{ca ta:Option Addr}{cc tc:Nat}(c:Zh)(t k p q:Int){w:World}(hpq:G8 c t k=(p,q))(h:Y7 w ca ta cc tc c) :
  Calls prog 146 #[.agg #[.slice ca c.cl.length cc,c.page,.slice ta c.ts.length tc,c.wk,c.gr,c.gens],.int .i64 t,.int .i64 k] w fun e w'=>e=.returned (.tuple #[.int .i64 p,.int .i64 q])∧Ext w w':=by
 obtain⟨hx,h1⟩:=Zd w (Zf ca cc ta tc c);have H:=Za h;clear h;by_cases hth:Xb c t k
 ·obtain⟨i,j,rfl,rfl,hi,hj,ho⟩:=Ur hth;have HSL:=Za (Sx hth);rw[Sy hth] at hpq;obtain⟨rfl,rfl⟩:Zp c i j=p∧0=q:=by simpa using hpq
  clear hpq;have c8:=ho.cl.most;have bd:=ho.bounds hi hj;have u1:=bd.c2;have u2:=bd.cpage;have u3:=bd.p64;have u4:=bd.c64;have u5:=bd.s1;have u6:=bd.s2048;have u7:=bd.per1;have u8:=bd.per32;have u9:=bd.pg2048;have HS:=Za (show Zp c i j=(Zl c i j+Zw c j-1) / Zw c j from rfl);have HP:=Za (show c.page / nth c.cl j=Zw c j from rfl);obtain⟨cb,co,rfl,hc⟩:=H.out.cl.pos (by omega);have hcj:=hc j hj;clear hc bd ho hth
  generalize Zp c i j=pg at *
  generalize Zl c i j=s at *
  generalize Zw c j=pe at *
  generalize nth c.cl j=x at *
  go_enter func146,ntmps146;go_wp2_with fail;refine(J5 c _ _ _ _ HSL.out (H.out.ext (hx.trans h1))).ze fun w1 h2=>?_;replace h1:=h1.trans h2;clear h2;obtain⟨b0,b1,b2,b3,b4,b5⟩:=Vo h1;go_wp2_with fail
  all_goals (try clear b0 b1 b2 b3 b4 b5)
  go_loopw [10] (fun i wr=>∃k:Nat,i=.int .i64 k∧(k:Int)≤pg∧Ext (w.alloc (.cells #[.slice (some ⟨cb,co,none⟩) c.cl.length cc,c.page,.slice ta c.ts.length tc,c.wk,c.gr,c.gens] 25)) wr) (fun i _=>2048-(intOf i).toNat)
  case atStart=>exact⟨0,rfl,by have:=HS.out;rw[this];exact Int.ediv_nonneg (by omega) (by omega),h1⟩
  case round=>
   clear h1;obtain⟨k,rfl,hk,h1⟩:=hrel;obtain⟨b0,b1,b2,b3,b4,b5⟩:=Vo h1;have z1:=(hx.trans h1).cell hcj;have m1:(k:Int)*pe≤2048*32:=by
    have a1:=Int.mul_le_mul_of_nonneg_left (c:=(k:Int)) u8 (by omega);omega
   have m0:0≤(k:Int)*pe:=Int.mul_nonneg (by omega) (by omega);have hpe:=HP.out;have hm:IntKind.i64.wrap ((k:Int)*pe)=(k:Int)*pe:=IntWalk.i64_in _ (by omega);by_cases hlt:(k:Int)*pe<s
   ·have hup:=Zpg u7 hlt;rw[←HS.out] at hup;go_wp2_with fail
    go_quiet (fail)
    go_wp2;go_roundw
    case rel=>exact⟨k+1,by go_num,by omega,h1.drewN _⟩
    case measure=>simp[intOf];omega
   ·have hd:decide ((k:Int)*pe<s)=false:=by simpa using hlt
    have hend:=Zki u7 (by rw[←HS.out];exact hk) (by omega);have HE:=Za (hend.trans HS.out.symm);clear hend;go_wp2_with fail
    go_quiet (fail)
    go_wp2;go_ret2;exact⟨by rw[←HE.out];rfl,(hx.trans h1).drewN _⟩
 ·have HSL:=Za (Nr hth);rw[Aj hth] at hpq;obtain⟨rfl,rfl⟩:0=p∧2=q:=by simpa using hpq
  clear hpq hth;go_enter func146,ntmps146;go_wp2_with fail;refine(J5 c _ _ _ _ HSL.out (H.out.ext (hx.trans h1))).ze fun w2 h2=>?_;replace h1:=h1.trans h2;clear h2;obtain⟨b0,b1,b2,b3,b4,b5⟩:=Vo h1;go_wp2_with fail
  all_goals (try clear b0 b1 b2 b3 b4 b5)
  go_ret2;exact⟨rfl,hx.trans h1⟩
theorem Kg{ca ta:Option Addr}{cc tc:Nat}(c:Zh)(t p q:Int){w:World}(hpq:Ow c t=(p,q))(h:Y7 w ca ta cc tc c) :
  Calls prog 107 #[.agg #[.slice ca c.cl.length cc,c.page,.slice ta c.ts.length tc,c.wk,c.gr,c.gens],.int .i64 t] w fun e w'=>e=.returned (.tuple #[.int .i64 p,.int .i64 q])∧Ext w w':=by
 obtain⟨hx,h1⟩:=Zd w (Zf ca cc ta tc c);have H:=Za h;clear h;by_cases hth:Xb c t 0
 ·obtain⟨i,j,rfl,hz,hi,hj,ho⟩:=Ur hth;rw[Ub hth] at hpq;obtain⟨rfl,rfl⟩:Yb c i=p∧0=q:=by simpa using hpq
  have HTH:=Za (show decide (Xb c i 0)=true by simpa using hth);have HO:=Za ho;have HK:=Za ((Pu c).2 ho);have c8:=ho.cl.most;have HG:=Za (show Yb c i=Yu (fun j=>Zp c i j*c.page) c.cl.length from rfl);clear hpq hz hth ho hj;go_enter func107,ntmps107;go_wp2_with fail;refine(Uf c _ _ true HTH.out (H.out.ext (hx.trans h1))).ze fun w1 h2=>?_;replace h1:=h1.trans h2;clear h2;obtain⟨b0,b1,b2,b3,b4,b5⟩:=Vo h1;go_wp2_with fail
  all_goals (try clear b0 b1 b2 b3 b4 b5)
  go_loopw [6,7] (fun u n wr=>∃k:Nat,k≤c.cl.length∧n=.int .i64 k∧u=.int .i64 (Yu (fun j=>Zp c i j*c.page) k)∧Ext (w.alloc (.cells #[.slice ca c.cl.length cc,c.page,.slice ta c.ts.length tc,c.wk,c.gr,c.gens] 25)) wr) (fun _ n _=>c.cl.length-(intOf n).toNat)
  case atStart=>exact⟨0,Nat.zero_le _,rfl,rfl,h1⟩
  case round=>
   clear h1;obtain⟨k,hk,rfl,rfl,h1⟩:=hrel;obtain⟨b0,b1,b2,b3,b4,b5⟩:=Vo h1;by_cases hlt:k<c.cl.length
   ·have hv:=HO.out.page_bound hi hlt;have hu:=Xu (fun j=>Zp c i j*c.page) 131072 k (fun j hj=>HO.out.page_bound hi (by omega));have hu2:Yu (fun j=>Zp c i j*c.page) (k+1)=Yu (fun j=>Zp c i j*c.page) k+Zp c i k*c.page:=rfl;have HU:=Za hu2;clear hu2;have HPG:=Za (Sy (Th HK.out hi hlt));have hwr:IntKind.i64.wrap (Zp c i k*c.page)=Zp c i k*c.page:=IntWalk.i64_in _ (by omega);have HWR:=Za hwr;clear hwr
    generalize Yu (fun j=>Zp c i j*c.page) k=u at *
    generalize Zp c i k=pg at *
    go_wp2_with fail;refine(Zc4 c _ _ _ _ HPG.out (H.out.ext (hx.trans h1))).mono ?_;clear b0 b1 b2 b3 b4 b5;rintro e w2 ⟨rfl,h2⟩;replace h1:=h1.trans h2;clear h2;obtain⟨b0,b1,b2,b3,b4,b5⟩:=Vo h1;have hwr:=HWR.out;go_wp2;go_roundw
    case rel=>exact⟨k+1,by omega,by go_num,by rw[HU.out],h1⟩
    case measure=>simp[intOf];omega
   ·obtain rfl:k=c.cl.length:=by omega
    go_wp2;go_ret2;exact⟨by rw[HG.out];rfl,hx.trans h1⟩
 ·rw[G9 hth] at hpq;obtain⟨rfl,rfl⟩:0=p∧2=q:=by simpa using hpq
  have HTH:=Za (show decide (Xb c t 0)=false by simpa using hth);clear hpq hth;go_enter func107,ntmps107;go_wp2_with fail;refine(Uf c _ _ false HTH.out (H.out.ext (hx.trans h1))).ze fun w2 h2=>?_;replace h1:=h1.trans h2;clear h2;obtain⟨b0,b1,b2,b3,b4,b5⟩:=Vo h1;go_wp2_with fail
  all_goals (try clear b0 b1 b2 b3 b4 b5)
  go_ret2;exact⟨rfl,hx.trans h1⟩
theorem Fe{ca ta:Option Addr}{cc tc:Nat}(c:Zh)(t p q:Int){w:World}(hpq:Zcq c t=(p,q))(h:Y7 w ca ta cc tc c) :
  Calls prog 106 #[.agg #[.slice ca c.cl.length cc,c.page,.slice ta c.ts.length tc,c.wk,c.gr,c.gens],.int .i64 t] w fun e w'=>e=.returned (.tuple #[.int .i64 p,.int .i64 q])∧Ext w w':=by
 obtain⟨hx,h1⟩:=Zd w (Zf ca cc ta tc c);have H:=Za h;clear h;by_cases hth:Xb c t 0
 ·obtain⟨i,j,rfl,hz,hi,hj,ho⟩:=Ur hth;rw[Nq hth] at hpq;obtain⟨rfl,rfl⟩:Vh c i=p∧0=q:=by simpa using hpq
  have HTH:=Za (show decide (Xb c i 0)=true by simpa using hth);have HO:=Za ho;have HK:=Za ((Pu c).2 ho);have t8:=ho.head.2.2.2.1;have HC1:=Za ho.cl.pos;have HG:=Za (show Vh c i=Yu (Yb c) i from rfl);clear hpq hz hth ho hj;go_enter func106,ntmps106;go_wp2_with fail;refine(Uf c _ _ true HTH.out (H.out.ext (hx.trans h1))).ze fun w1 h2=>?_;replace h1:=h1.trans h2;clear h2;obtain⟨b0,b1,b2,b3,b4,b5⟩:=Vo h1;go_wp2_with fail
  all_goals (try clear b0 b1 b2 b3 b4 b5)
  go_loopw [6,7] (fun u n wr=>∃k:Nat,k≤i∧n=.int .i64 k∧u=.int .i64 (Yu (Yb c) k)∧Ext (w.alloc (.cells #[.slice ca c.cl.length cc,c.page,.slice ta c.ts.length tc,c.wk,c.gr,c.gens] 25)) wr) (fun _ n _=>i-(intOf n).toNat)
  case atStart=>exact⟨0,Nat.zero_le _,rfl,rfl,h1⟩
  case round=>
   clear h1;obtain⟨k,hk,rfl,rfl,h1⟩:=hrel;obtain⟨b0,b1,b2,b3,b4,b5⟩:=Vo h1;by_cases hlt:k<i
   ·have hv:=HO.out.words_bound (t:=k) (by omega);have hu:=Xu (Yb c) 1048576 k (fun j hj=>HO.out.words_bound (by omega));have hu2:Yu (Yb c) (k+1)=Yu (Yb c) k+Yb c k:=rfl;have HU:=Za hu2;clear hu2;have HPG:=Za (Ub (Th (i:=k) HK.out (by omega) HC1.out))
    generalize Yu (Yb c) k=u at *
    generalize Yb c k=wd at *
    go_wp2_with fail;refine(Kg c _ _ _ HPG.out (H.out.ext (hx.trans h1))).mono ?_;clear b0 b1 b2 b3 b4 b5;rintro e w2 ⟨rfl,h2⟩;replace h1:=h1.trans h2;clear h2;go_wp2;go_roundw
    case rel=>exact⟨k+1,by omega,by go_num,by rw[HU.out],h1⟩
    case measure=>simp[intOf];omega
   ·obtain rfl:k=i:=by omega
    go_wp2;go_ret2;exact⟨by rw[HG.out];rfl,hx.trans h1⟩
 ·rw[Dg hth] at hpq;obtain⟨rfl,rfl⟩:0=p∧2=q:=by simpa using hpq
  have HTH:=Za (show decide (Xb c t 0)=false by simpa using hth);clear hpq hth;go_enter func106,ntmps106;go_wp2_with fail;refine(Uf c _ _ false HTH.out (H.out.ext (hx.trans h1))).ze fun w2 h2=>?_;replace h1:=h1.trans h2;clear h2;obtain⟨b0,b1,b2,b3,b4,b5⟩:=Vo h1;go_wp2_with fail
  all_goals (try clear b0 b1 b2 b3 b4 b5)
  go_ret2;exact⟨rfl,hx.trans h1⟩
theorem Zc5{ca ta:Option Addr}{cc tc:Nat}(c:Zh)(p q:Int){w:World}(hpq:Qj c=(p,q))(h:Y7 w ca ta cc tc c) :
  Calls prog 63 #[.agg #[.slice ca c.cl.length cc,c.page,.slice ta c.ts.length tc,c.wk,c.gr,c.gens]] w fun e w'=>e=.returned (.tuple #[.int .i64 p,.int .i64 q])∧Ext w w':=by
 obtain⟨hx,h1⟩:=Zd w (Zf ca cc ta tc c);have tm:=h.tm;unfold maxLen at tm;have H:=Za h;clear h;by_cases h0:Yc c=0
 ·have ho:=Y8 h0;obtain⟨rfl,rfl⟩:Vh c c.ts.length=p∧0=q:=by unfold Qj at hpq;rw[if_pos h0] at hpq;simpa using hpq
  have t1:=ho.head.2.2.1;have t8:=ho.head.2.2.2.1;have th:=Th (i:=c.ts.length-1) h0 (by omega) ho.cl.pos;have e1:((c.ts.length-1:Nat):Int)=(c.ts.length:Int)-1:=by omega
  have HB:=Za (Nq th);have HR:=Za (Ub th);rw[e1] at HB HR;have hb:=ho.base_bound (t:=c.ts.length-1) (by omega);have hw:=ho.words_bound (t:=c.ts.length-1) (by omega);have HG:=Za (show Vh c c.ts.length=Vh c (c.ts.length-1)+Yb c (c.ts.length-1) by
   have:c.ts.length=(c.ts.length-1)+1:=by omega
   rw[this];rfl)
  clear hpq h0 ho e1 th
  generalize Vh c (c.ts.length-1)=u at *
  generalize Yb c (c.ts.length-1)=v at *
  go_enter func63,ntmps63;go_wp2_with fail
  try clear b0 b1 b2 b3 b4 b5
  refine(Fe c _ _ _ HB.out (H.out.ext (hx.trans h1))).ze fun w1 h2=>?_;replace h1:=h1.trans h2;clear h2;obtain⟨b0,b1,b2,b3,b4,b5⟩:=Vo h1;go_wp2_with fail;clear b0 b1 b2 b3 b4 b5;refine(Kg c _ _ _ HR.out (H.out.ext (hx.trans h1))).ze fun w2 h2=>?_;replace h1:=h1.trans h2;clear h2;go_wp2;go_ret2;exact⟨by rw[HG.out];rfl,hx.trans h1⟩
 ·obtain⟨rfl,rfl⟩:0=p∧2=q:=by unfold Qj at hpq;rw[if_neg h0] at hpq;simpa using hpq
  have HB:=Za (Dg (c:=c) (t:=(c.ts.length:Int)-1) (fun h=>h0 h.1));clear h0 hpq;go_enter func63,ntmps63;go_wp2_with fail;refine(Fe c _ _ _ HB.out (H.out.ext (hx.trans h1))).ze fun w3 h2=>?_;replace h1:=h1.trans h2;clear h2;obtain⟨b0,b1,b2,b3,b4,b5⟩:=Vo h1;go_wp2_with fail
  all_goals (try clear b0 b1 b2 b3 b4 b5)
  go_ret2;exact⟨rfl,hx.trans h1⟩
def pc5(x:Ztv):List Value:=[.int .i64 x.size,.int .i64 x.first,.int .i64 x.many,.int .i64 x.page,.int .i64 x.per]
def pcs(c:Zh)(t:Nat):Nat→List Value
 | 0=>[]
 | k+1=>pcs c t k++pc5 (Sz c t k)
theorem Dt(c:Zh)(t:Nat):∀k,(pcs c t k).length=k*5
 | 0=>rfl
 | k+1=>by show(pcs c t k++pc5 (Sz c t k)).length=_;rw[Zy9,Dt c t k];simp[pc5];omega
theorem Zs4(c:Zh)(t:Nat):∀k i j,i<k→j<5→(pcs c t k)[i*5+j]?=(pc5 (Sz c t i))[j]?
 | 0,i,j,hi,_=>absurd hi (Zzb _)
 | k+1,i,j,hi,hj=>by
  show(pcs c t k++pc5 (Sz c t k))[i*5+j]?=_
  by_cases e:i<k
  ·rw[List.getElem?_append_left (by rw[Dt];omega)];exact Zs4 c t k i j e hj
  ·obtain rfl:i=k:=by omega
   rw[List.getElem?_append_right (by rw[Dt];omega),Dt,show i*5+j-i*5=j by omega]
theorem Zkj(x:Ztv):∀u∈pc5 x,u.oneCell'=true:=by
 intro u hu;simp only[pc5,List.mem_cons,List.not_mem_nil,or_false] at hu;rcases hu with rfl|rfl|rfl|rfl|rfl<;>rfl
structure Zt(w:World)(b gp:Nat)(c:Zh)(t:Nat):Prop where
 ok:KOk c
 ti:t<c.ts.length
 parts:∃cap,w.cell? b=some (.slice (some ⟨gp,0,none⟩) c.cl.length cap)
 slots:w.cell? ⟨b,1,none⟩=some (.int .i64 (sS c t c.cl.length))
 pages:w.cell? ⟨b,2,none⟩=some (.int .i64 (sG c t c.cl.length))
 page:w.cell? ⟨b,3,none⟩=some (.int .i64 c.page)
 row:∀i,i<c.cl.length→∀j u,(pc5 (Sz c t i))[j]?=some u→w.cell? ⟨gp,i*5+j,none⟩=some u
theorem Zt.ext{w w':World}{b gp:Nat}{c:Zh}{t:Nat}(h:Zt w b gp c t)(hx:Ext w w'):Zt w' b gp c t:=by
 obtain⟨cap,h0⟩:=h.parts;exact⟨h.ok,h.ti,⟨cap,hx.cell h0⟩,hx.cell h.slots,hx.cell h.pages,hx.cell h.page,fun i hi j u hu=>hx.cell (h.row i hi j u hu)⟩
theorem Zt.cells{w:World}{b gp:Nat}{c:Zh}{t:Nat}(h:Zt w b gp c t){i:Nat}(hi:i<c.cl.length) :
  w.cell? ⟨gp,i*5,none⟩=some (.int .i64 (nth c.cl i))∧w.cell? ⟨gp,i*5+1,none⟩=some (.int .i64 (sS c t i))∧w.cell? ⟨gp,i*5+2,none⟩=some (.int .i64 (Zl c t i)) ∧
  w.cell? ⟨gp,i*5+3,none⟩=some (.int .i64 (sG c t i))∧w.cell? ⟨gp,i*5+4,none⟩=some (.int .i64 (Zw c i)):=
 ⟨h.row i hi 0 _ rfl,h.row i hi 1 _ rfl,h.row i hi 2 _ rfl,h.row i hi 3 _ rfl,h.row i hi 4 _ rfl⟩
theorem Zt.pg2{w:World}{b gp:Nat}{c:Zh}{t:Nat}(h:Zt w b gp c t):2≤c.page∧c.page≤64:=by
 have bd:=h.ok.bounds h.ti (k:=0) h.ok.cl.pos;have:=bd.c2;have:=bd.cpage;have:=bd.p64;omega
theorem Wp{b gp:Nat}{c:Zh}{t:Nat}{w:World}(h:Zt w b gp c t):Calls prog 45 #[b] w fun e w'=>e=.returned (.bool false)∧w=w':=by
 have h3:=h.page;have hp:=h.pg2.1;have t0:(c.page==0)=false:=by simp;omega
 go_enter func45,ntmps45;go_wp2;go_ret;exact⟨rfl,rfl⟩
theorem Ff{b gp:Nat}{c:Zh}{t:Nat}{w:World}(h:Zt w b gp c t):Calls prog 81 #[b] w fun e w'=>e=.returned (.int .i64 (sS c t c.cl.length))∧w=w':=by
 have h1:=h.slots;have H:=Za h;clear h;go_enter func81,ntmps81;go_wp2_with fail;refine(Wp H.out).zz ?_;go_wp2;go_ret;exact⟨rfl,rfl⟩
theorem Zha{b gp:Nat}{c:Zh}{t:Nat}{w:World}(h:Zt w b gp c t):Calls prog 221 #[b] w fun e w'=>e=.returned (.int .i64 (sG c t c.cl.length))∧w=w':=by
 have h1:=h.pages;have H:=Za h;clear h;go_enter func221,ntmps221;go_wp2_with fail;refine(Wp H.out).zz ?_;go_wp2;go_ret;exact⟨rfl,rfl⟩
theorem Ar{a b:Int}{A B:Int}(h0:0≤a)(h1:a≤A)(h2:0≤b)(h3:b≤B):0≤a*b∧a*b≤A*B:=by
 refine⟨Int.mul_nonneg h0 h2,?_⟩;have h4:=Int.mul_le_mul_of_nonneg_right (c:=b) h1 h2;have h5:=Int.mul_le_mul_of_nonneg_left (c:=A) h3 (Int.le_trans h0 h1);omega
theorem Zhb{b gp:Nat}{c:Zh}{t:Nat}{w:World}(h:Zt w b gp c t):Calls prog 16 #[b] w fun e w'=>e=.returned (.int .i64 (sG c t c.cl.length*c.page))∧Ext w w':=by
 have h1:=h.pages;have h2:=h.page;have g:=h.ok.sG_le h.ti (Zy1 _);have m8:=h.ok.cl.most;have p:=h.pg2;have mb:=Ar (a:=sG c t c.cl.length) (b:=c.page) (A:=16384) (B:=64) (by omega) (by omega) (by omega) p.2;obtain⟨mb0,mb1⟩:=mb;have H:=Za h;clear h g p
 generalize sG c t c.cl.length=G at *
 generalize hP:G*c.page=Q at *
 generalize c.page=pg at *
 have HQ:=Za hP;have hQ:=hP;go_enter func16,ntmps16;go_wp2_with fail;refine(Wp H.out).zz ?_;go_wp2_with fail
 go_quiet (fail)
 go_wp2;go_ret;exact⟨rfl,(Zy2 _).drewN _⟩
theorem Ztx{b gp k:Nat}{c:Zh}{t:Nat}{w:World}(h:Zt w b gp c t)(hk:k<c.cl.length):Calls prog 316 #[b,.int .i64 k] w fun e w'=>e=.returned (.tuple #[.int .i64 (sS c t k),.int .i64 (Zl c t k),(0:Int)])∧Ext w w':=by
 obtain⟨cap,h0⟩:=h.parts;obtain⟨_,r1,r2,_,_⟩:=h.cells hk;have H:=Za h;have m8:=h.ok.cl.most;have t0:decide ((k:Int)<0)=false:=by simp
 have t1:decide ((c.cl.length:Int)≤(k:Int))=false:=by simp;omega
 have hk0:(0:Int)≤(k:Int):=Int.natCast_nonneg _;have hk1:(k:Int)<(c.cl.length:Int):=by omega
 clear h;go_enter func316,ntmps316;go_wp2_with fail;refine(Wp H.out).zz ?_;go_wp2_with fail
 go_quiet (fail)
 go_wp2
 go_ret3
 exact⟨rfl,(Zy2 _).drewN _⟩
theorem Zhc{b gp:Nat}{k:Int}{c:Zh}{t:Nat}{w:World}(h:Zt w b gp c t)(hk:(c.cl.length:Int)≤k):Calls prog 316 #[b,.int .i64 k] w fun e w'=>e=.returned (.tuple #[(0:Int),(0:Int),(2:Int)])∧Ext w w':=by
 obtain⟨cap,h0⟩:=h.parts;have H:=Za h;have m8:=h.ok.cl.most;have t0:decide (k<0)=false:=by simp;omega
 have t1:decide ((c.cl.length:Int)≤k)=true:=by simp;omega
 have hk0:0≤k:=by omega
 clear h;go_enter func316,ntmps316;go_wp2_with fail;refine(Wp H.out).zz ?_;go_wp2
 go_ret3
 exact⟨rfl,Zy2 _⟩
section
open Go.RowKit Go.Shelf
def pv5(x:Ztv):Value:=.agg #[x.size,x.first,x.many,x.page,x.per]
def Zfg(P:Program)(g:Nat)(cs:Array Value)(x:Ztv)(r:Bool)(w:World):Prop:=
 ∀w',Ext w w'→Calls P g (#[pv5 x]++cs) w' fun e w''=>e=.returned (.bool r)∧Ext w' w''
theorem Zhd(x:Ztv)(s:Int)(r:Bool)(p:Addr){w:World}(hs:w.cell? p=some (.int .i64 s))(hr:decide (x.first≤s)=r) :
  Calls prog 79 #[pv5 x,.pointer (some p)] w fun e w'=>e=.returned (.bool r)∧Ext w w':=by
 unfold pv5;have HR:=Za hr;have hl:p.block<w.heap.size:=Zj hs;have hs2:(w.alloc (.cells #[x.size,x.first,x.many,x.page,x.per] 128)).cell? p=some (.int .i64 s):=Xd hs _;clear hr;go_enter func79,ntmps79;go_wp2;go_ret;exact⟨Yg HR.out,(Zy2 w).alloc _⟩
theorem Zph(x:Ztv)(s:Int)(r:Bool)(p:Addr){w:World}(hs:w.cell? p=some (.int .i64 s))(hr:decide (x.page≤s)=r) :
  Calls prog 384 #[pv5 x,.pointer (some p)] w fun e w'=>e=.returned (.bool r)∧Ext w w':=by
 unfold pv5;have HR:=Za hr;have hl:p.block<w.heap.size:=Zj hs;have hs2:(w.alloc (.cells #[x.size,x.first,x.many,x.page,x.per] 128)).cell? p=some (.int .i64 s):=Xd hs _;clear hr;go_enter func384,ntmps384;go_wp2;go_ret;exact⟨Yg HR.out,(Zy2 w).alloc _⟩
theorem Zhe{b gp so pb i:Nat}{c:Zh}{t:Nat}(g:Nat)(cs:Array Value)(r:Bool){w:World}(h:Zt w b gp c t)(hi:i<c.cl.length)(hs:w.cell? so=some (.func (.func g) #[] cs))(hp:w.cell? pb=some (b:Value))
  (ha:Zfg prog g cs (Sz c t i) r w) (hk:Zi prog g) :
  Calls prog 113 #[.int .i64 i,so,pb] w fun e w'=>e=.returned (.bool (!r))∧Ext w w':=by
 unfold Zi at hk;have HA:=Za ha;obtain⟨cap,h0⟩:=h.parts;obtain⟨r0,r1,r2,r3,r4⟩:=h.cells hi;have m8:=h.ok.cl.most;have hi0:(0:Int)≤(i:Int):=Int.natCast_nonneg _;have hi1:(i:Int)<(c.cl.length:Int):=by omega
 have hd:Ext w w.drew:=(Zy2 w).drew;clear ha h;go_enter func113,ntmps113;go_wp2_with fail
 go_region_held3 (fun w'=>w'.cell? so=some (.func (.func g) #[] cs)∧w'.cell? pb=some (b:Value)∧w'.cell? b=some (.slice (some ⟨gp,0,none⟩) c.cl.length cap)∧w'.cell? ⟨gp,i*5,none⟩=some (.int .i64 (nth c.cl i))∧w'.cell? ⟨gp,i*5+1,none⟩=some (.int .i64 (sS c t i))∧w'.cell? ⟨gp,i*5+2,none⟩=some (.int .i64 (Zl c t i))∧w'.cell? ⟨gp,i*5+3,none⟩=some (.int .i64 (sG c t i))∧w'.cell? ⟨gp,i*5+4,none⟩=some (.int .i64 (Zw c i)))
  ((first|go_keep|(go_split_ands;exact⟨hE.cell (by assumption),hE.cell (by assumption),hE.cell (by assumption),hE.cell (by assumption),hE.cell (by assumption),hE.cell (by assumption),hE.cell (by assumption),hE.cell (by assumption)⟩)))
  ((go_at_fn g;refine(HA.out _ hd).ze fun w1 hE=>?_))
 all_goals
  go_wp2;go_ret;exact⟨rfl,hd.trans hE⟩
theorem As:Zi prog 113:=Zi.mk func113 (by kernel_rfl) rfl
theorem Au:Zi prog 79:=Zi.mk func79 (by kernel_rfl) rfl
theorem Zhf:Zi prog 384:=Zi.mk func384 (by kernel_rfl) rfl
theorem Av{b gp K:Nat}{c:Zh}{t:Nat}(g:Nat)(cs:Array Value){w:World}(h:Zt w b gp c t)(hK:K<c.cl.length)
  (ha:∀i,i<c.cl.length→Zfg prog g cs (Sz c t i) (decide (i≤K)) w) (hk:Zi prog g) :
  Calls prog 78 #[b,.func (.func g) #[] cs] w fun e w'=>e=.returned (.int .i64 K)∧Ext w w':=by
 have HA:=Za ha;have HK:=Za hk;obtain⟨cap,h0⟩:=h.parts;have H:=Za h;have m8:=h.ok.cl.most;have hb:b<w.heap.size:=Zj h0;clear ha h hk;go_enter func78,ntmps78;go_wp2_with fail;refine(J0 113 #[.pointer (some ⟨w.heap.size+1,0,none⟩),w.heap.size] c.cl.length (K+1) (fun i=>decide (K<i)) _ (by omega) (fun i w' hi hx=>?_) (by omega) (fun i hi=>by simp;omega) (fun i hi _=>by simp;omega) As).mono ?_
 ·have hxw:Ext w w':=Ext.trans (((Zy2 w).alloc _).alloc _) hx;refine(Zhe g cs (decide (i≤K)) (H.out.ext hxw) hi (hx.cell (by simp)) (hx.cell (by simp)) (fun w'' hx''=>HA.out i hi w'' (hxw.trans hx'')) HK.out).ze fun w1 hE=>?_;exact⟨Yg (by by_cases hc:i≤K<;>simp[hc]<;>omega),hE⟩
 ·rintro e w1 ⟨rfl,x⟩;go_wp2;go_ret;exact⟨rfl,Ext.trans (((Zy2 w).alloc _).alloc _) x⟩
theorem Ny{b gp k:Nat}{c:Zh}{t:Nat}{s:Int}(a:Int){w:World}(h:Zt w b gp c t)(hk:Yk c t s k)(ha:s-sS c t k=a) :
  Calls prog 47 #[b,.int .i64 s] w fun e w'=>e=.returned (.tuple #[.int .i64 k,.int .i64 a,(0:Int)])∧Ext w w':=by
 obtain⟨cap,h0⟩:=h.parts;have h1:=h.slots;have H:=Za h;have m8:=h.ok.cl.most;have hb:b<w.heap.size:=Zj h0;have kl:=hk.lt;have lo:=hk.lo;have sl:=h.ok.sS_le h.ti (Nat.le_of_lt hk.lt);have sn:=h.ok.sS_le h.ti (Zy1 _);have up:=Sj (f:=Zl c t) (n:=c.cl.length) (a:=k+1) (b:=c.cl.length) (h.ok.slots1 h.ti) (by omega) (Zy1 _);have hi:=hk.hi;have up2:sS c t (k+1)≤sS c t c.cl.length:=by unfold sS;omega
 have t0:decide (s<0)=false:=by simp;omega
 have t1:decide (sS c t c.cl.length≤s)=false:=by simp;omega
 have HS:=Za (h.ok.S_side h.ti hk);have HA:=Za ha;have s0:0≤s:=by omega
 have s1:s≤16384:=by omega
 clear up hi up2 h hk ha;go_enter func47,ntmps47;go_wp2_with fail;refine(Wp (H.out.ext ((Zy2 _).alloc _))).zz ?_;go_wp2_with fail
 go_quiet (fail)
 go_wp2_with fail;have hc:∀nq,((w.alloc (.cells #[.int .i64 s] 3)).drewN nq).cell? w.heap.size=some (.int .i64 s):=fun nq=>((Zy2 _).drewN nq).cell (Zg w _ _ 0)
 have X0:=((Zy2 w).alloc (.cells #[.int .i64 s] 3)).drewN nq;replace hc:=hc nq
 generalize (w.alloc (.cells #[.int .i64 s] 3)).drewN nq=w2 at *
 refine(Av (K:=k) 79 #[w.heap.size] (H.out.ext X0) kl (fun i hi w' hx=>Zhd (Sz c t i) s (decide (i≤k)) ⟨w.heap.size,0,none⟩ (hx.cell hc) (HS.out i hi)) Au).ze fun w3 x3=>?_;have hc3:=x3.cell hc;have X3:=X0.trans x3;have c0:=X3.cell h0;obtain⟨_,r1,_,_,_⟩:=(H.out.ext X3).cells kl;have k0:(0:Int)≤(k:Int):=Int.natCast_nonneg _;have k1:(k:Int)<(c.cl.length:Int):=by omega
 obtain⟨sl0,sl1⟩:=sl;clear hc X0 x3
 generalize sS c t k=S at *
 go_wp2_with fail
 go_quiet (fail)
 go_wp2
 go_ret3
 exact⟨by rw[←HA.out];rfl,X3.drewN _⟩
theorem Kh{b gp:Nat}{c:Zh}{t:Nat}{s:Int}{w:World}(h:Zt w b gp c t)(hk:s<0∨sS c t c.cl.length≤s) :
  Calls prog 47 #[b,.int .i64 s] w fun e w'=>e=.returned (.tuple #[(0:Int),(0:Int),(2:Int)])∧Ext w w':=by
 have h1:=h.slots;have H:=Za h;have hb:b<w.heap.size:=Zj h1;have sn:=h.ok.sS_le h.ti (Zy1 _);clear h;by_cases h0:s<0
 ·have t0:decide (s<0)=true:=by simp;omega
  clear hk;go_enter func47,ntmps47;go_wp2_with fail;refine(Wp (H.out.ext ((Zy2 _).alloc _))).zz ?_;go_wp2_with fail
  go_quiet (fail)
  go_wp2
  go_ret3
  exact⟨rfl,((Zy2 _).alloc _).drewN _⟩
 ·have t0:decide (s<0)=false:=by simp;omega
  have t1:decide (sS c t c.cl.length≤s)=true:=by simp;omega
  have s0:0≤s:=by omega
  clear hk;go_enter func47,ntmps47;go_wp2_with fail;refine(Wp (H.out.ext ((Zy2 _).alloc _))).zz ?_;go_wp2_with fail
  go_quiet (fail)
  go_wp2
  go_ret3
  exact⟨rfl,((Zy2 _).alloc _).drewN _⟩
theorem Fg{b gp k:Nat}{c:Zh}{t:Nat}{s:Int}{w:World}(h:Zt w b gp c t)(hk:Yk c t s k) :
  Calls prog 199 #[b,.int .i64 s] w fun e w'=>e=.returned (.tuple #[.int .i64 k,(0:Int)])∧Ext w w':=by
 have H:=Za h;have HK:=Za hk;clear h hk;go_enter func199,ntmps199;go_wp2_with fail;refine(Ny _ H.out HK.out rfl).ze fun w1 x=>?_;go_wp2;go_ret2;exact⟨rfl,x⟩
theorem Zkk{b gp k:Nat}{c:Zh}{t:Nat}{s:Int}{w:World}(h:Zt w b gp c t)(hk:Yk c t s k) :
  Calls prog 194 #[b,.int .i64 s] w fun e w'=>e=.returned (.tuple #[.int .i64 (nth c.cl k),(0:Int)])∧Ext w w':=by
 have H:=Za h;have HK:=Za hk;have m8:=h.ok.cl.most;have kl:=hk.lt;have k0:(0:Int)≤(k:Int):=Int.natCast_nonneg _;have k1:(k:Int)<(c.cl.length:Int):=by omega
 clear h hk;go_enter func194,ntmps194;go_wp2_with fail;refine(Ny _ H.out HK.out rfl).ze fun w1 x=>?_;obtain⟨cap,h0⟩:=(H.out.ext x).parts;obtain⟨r0,_,_,_,_⟩:=(H.out.ext x).cells kl;go_wp2;go_ret2;exact⟨rfl,x⟩
def Zci(c:Zh)(t:Nat)(s:Int)(k:Nat):Int:=s-sS c t k
def Nz(c:Zh)(t:Nat)(s:Int)(k:Nat):Int:=sG c t k+Zci c t s k / Zw c k
def On(c:Zh)(t:Nat)(s:Int)(k:Nat):Int:=Nz c t s k*c.page+Zci c t s k % Zw c k*nth c.cl k
theorem Zkl{b gp k:Nat}{c:Zh}{t:Nat}{s:Int}{w:World}(h:Zt w b gp c t)(hk:Yk c t s k) :
  Calls prog 382 #[b,.int .i64 s] w fun e w'=>e=.returned (.tuple #[.int .i64 (Nz c t s k),(0:Int)])∧Ext w w':=by
 have H:=Za h;have HK:=Za hk;have m8:=h.ok.cl.most;have kl:=hk.lt;have k0:(0:Int)≤(k:Int):=Int.natCast_nonneg _;have k1:(k:Int)<(c.cl.length:Int):=by omega
 have bd:=h.ok.bounds h.ti kl;have u1:=bd.per1;have u2:=bd.per32;have u3:=bd.s2048;have gl:=h.ok.sG_le h.ti (Nat.le_of_lt kl);obtain⟨g0,g1⟩:=gl;have a0:0≤Zci c t s k:=by have:=hk.lo;unfold Zci;omega
 have a1:Zci c t s k≤2048:=by have:=hk.hi;have e:sS c t (k+1)=sS c t k+Zl c t k:=rfl;unfold Zci;omega
 have HP:=Za (show Nz c t s k=sG c t k+Zci c t s k / Zw c k from rfl);obtain⟨q,hq⟩:=Zb (Zci c t s k / Zw c k);have q0:0≤q:=by rw[←hq];exact Int.ediv_nonneg a0 (by omega)
 have q1:q≤2048:=by rw[←hq];exact Int.le_trans (Int.ediv_le_self _ a0) a1
 have HQ:=Za hq;clear h hk bd hq
 generalize ha:Zci c t s k=a at *
 have HA:=Za (show s-sS c t k=a from ha);clear ha;go_enter func382,ntmps382;go_wp2_with fail;refine(Ny a H.out HK.out HA.out).ze fun w1 x=>?_;obtain⟨cap,h0⟩:=(H.out.ext x).parts;obtain⟨_,_,_,r3,r4⟩:=(H.out.ext x).cells kl;have hq:=HQ.out
 generalize Zw c k=pe at *
 generalize sG c t k=G at *
 have pz:¬pe=0:=by omega
 go_wp2_with fail
 go_quiet (fail)
 go_wp2;go_ret2;exact⟨by rw[HP.out,HQ.out];rfl,x.drewN _⟩
theorem J6{b gp k:Nat}{c:Zh}{t:Nat}{s:Int}{w:World}(h:Zt w b gp c t)(hk:Yk c t s k) :
  Calls prog 21 #[b,.int .i64 s] w fun e w'=>e=.returned (.tuple #[.int .i64 (On c t s k),(0:Int)])∧Ext w w':=by
 have H:=Za h;have HK:=Za hk;have m8:=h.ok.cl.most;have kl:=hk.lt;have k0:(0:Int)≤(k:Int):=Int.natCast_nonneg _;have k1:(k:Int)<(c.cl.length:Int):=by omega
 have bd:=h.ok.bounds h.ti kl;have u1:=bd.per1;have u2:=bd.per32;have u3:=bd.s2048;have u4:=bd.c2;have u5:=bd.c64;have u6:=bd.p64;have u7:=bd.cpage;have gl:=h.ok.sG_le h.ti (Nat.le_of_lt kl);obtain⟨g0,g1⟩:=gl;have a0:0≤Zci c t s k:=by have:=hk.lo;unfold Zci;omega
 have a1:Zci c t s k≤2048:=by have:=hk.hi;have e:sS c t (k+1)=sS c t k+Zl c t k:=rfl;unfold Zci;omega
 have HP:=Za (show On c t s k=(sG c t k+Zci c t s k / Zw c k)*c.page+Zci c t s k % Zw c k*nth c.cl k from rfl)
 generalize ha:Zci c t s k=a at *
 have HA:=Za (show s-sS c t k=a from ha);obtain⟨q,hq⟩:=Zb (a / Zw c k);obtain⟨r,hr⟩:=Zb (a % Zw c k);have q0:0≤q:=by rw[←hq];exact Int.ediv_nonneg a0 (by omega)
 have q1:q≤2048:=by rw[←hq];exact Int.le_trans (Int.ediv_le_self _ a0) a1
 have r0:0≤r:=by rw[←hr];exact Int.emod_nonneg _ (by omega)
 have r1:r≤32:=by rw[←hr];have:=Int.emod_lt_of_pos a (show 0<Zw c k by omega);omega
 obtain⟨p1,hp1⟩:∃p,(sG c t k+q)*c.page=p:=⟨_,rfl⟩;obtain⟨p2,hp2⟩:∃p,r*nth c.cl k=p:=⟨_,rfl⟩;have b1:=Ar (a:=sG c t k+q) (b:=c.page) (A:=18432) (B:=64) (by omega) (by omega) (by omega) u6;have b2:=Ar (a:=r) (b:=nth c.cl k) (A:=32) (B:=64) r0 r1 (by omega) u5;rw[hp1] at b1;rw[hp2] at b2;obtain⟨b10,b11⟩:=b1;obtain⟨b20,b21⟩:=b2;rw[hq,hr,hp1,hp2] at HP;have HQ:=Za hq;have HR:=Za hr;have HP1:=Za hp1;have HP2:=Za hp2;clear h hk bd ha hq hr hp1 hp2;go_enter func21,ntmps21;go_wp2_with fail;refine(Ny a H.out HK.out HA.out).ze fun w1 x=>?_;obtain⟨cap,h0⟩:=(H.out.ext x).parts;have h3:=(H.out.ext x).page;obtain⟨c0,c1,c2,c3,c4⟩:=(H.out.ext x).cells kl;have hb:b<w1.heap.size:=Zj h0;have hq:=HQ.out;have hr:=HR.out;have hp1:=HP1.out;have hp2:=HP2.out
 generalize Zw c k=pe at *
 generalize sG c t k=G at *
 generalize nth c.cl k=sz at *
 generalize c.page=pg at *
 have pz:¬pe=0:=by omega
 go_wp2_with fail
 go_quiet (fail)
 go_wp2;go_ret2;exact⟨by rw[HP.out];rfl,(x.alloc _).drewN _⟩
end
section
open Go.RowKit Go.Shelf
structure Zjy(w:World)(b:Nat)(v0 v1 v2 v3 v4:Value):Prop where
 c0:w.cell? b=some v0
 c1:w.cell? ⟨b,1,none⟩=some v1
 c2:w.cell? ⟨b,2,none⟩=some v2
 c3:w.cell? ⟨b,3,none⟩=some v3
 c4:w.cell? ⟨b,4,none⟩=some v4
 fz:∀o,w.frozen? ⟨b,o,none⟩=false
theorem Zjy.lt{w:World}{b:Nat}{v0 v1 v2 v3 v4:Value}(h:Zjy w b v0 v1 v2 v3 v4):b<w.heap.size:=Zj h.c0
theorem Zjy.ext{w w':World}{b:Nat}{v0 v1 v2 v3 v4:Value}(h:Zjy w b v0 v1 v2 v3 v4)(hx:Ext w w'):Zjy w' b v0 v1 v2 v3 v4:=
 ⟨hx.cell h.c0,hx.cell h.c1,hx.cell h.c2,hx.cell h.c3,hx.cell h.c4,fun o=>by rw[hx.frozen (p:=⟨b,o,none⟩) h.lt];exact h.fz o⟩
theorem Zjy.new(w:World)(v0 v1 v2 v3 v4:Value)(t:TypeId){b:Nat}(hb:w.heap.size=b):Zjy (w.alloc (.cells #[v0,v1,v2,v3,v4] t)) b v0 v1 v2 v3 v4:=by
 subst hb;exact⟨Zg w _ t 0,Zg w _ t 1,Zg w _ t 2,Zg w _ t 3,Zg w _ t 4,fun o=>World.frozen?_alloc_at _ _ _ _ rfl⟩
theorem Fh{W:World}{b i j:Nat}{u v:Value}(h:decide (i=j)=false)(hc:W.cell? ⟨b,j,none⟩=some v):(W.setCell ⟨b,i,none⟩ u).cell? ⟨b,j,none⟩=some v:=by
 have:=Zy0 W ⟨b,i,none⟩ ⟨b,j,none⟩ u (by intro e;cases e;simp at h);rw[this];exact hc
theorem Zkm{W:World}{b j:Nat}{u v:Value}(hc:W.cell? ⟨b,j,none⟩=some v):(W.setCell ⟨b,j,none⟩ u).cell? ⟨b,j,none⟩=some u:=Zyz W _ _ hc
theorem Zjy.store{W:World}{b:Nat}{v0 v1 v2 v3 v4:Value}(h:Zjy W b v0 v1 v2 v3 v4)(u0 u1 u2 u3 u4:Value):Zjy (((((W.setCell b u0).setCell ⟨b,1,none⟩ u1).setCell ⟨b,2,none⟩ u2).setCell ⟨b,3,none⟩ u3).setCell ⟨b,4,none⟩ u4) b u0 u1 u2 u3 u4:=by
 refine⟨?_,?_,?_,?_,?_,fun o=>by simpa using h.fz o⟩
 ·exact Fh rfl (Fh rfl (Fh rfl (Fh rfl (Zkm h.c0))))
 ·exact Fh rfl (Fh rfl (Fh rfl (Zkm (Fh rfl h.c1))))
 ·exact Fh rfl (Fh rfl (Zkm (Fh rfl (Fh rfl h.c2))))
 ·exact Fh rfl (Zkm (Fh rfl (Fh rfl (Fh rfl h.c3))))
 ·exact Zkm (Fh rfl (Fh rfl (Fh rfl (Fh rfl h.c4))))
theorem Zs5{W:World}{b:Nat}{a:Addr}(h:b≠a.block){v0 v1 v2 v3 v4 v:Value}(hc:W.cell? a=some v):(((((W.setCell b v0).setCell ⟨b,1,none⟩ v1).setCell ⟨b,2,none⟩ v2).setCell ⟨b,3,none⟩ v3).setCell ⟨b,4,none⟩ v4).cell? a=some v:=by
 rw[cell_far _ _ _ _ (by exact h),cell_far _ _ _ _ (by exact h),cell_far _ _ _ _ (by exact h),cell_far _ _ _ _ (by exact h),cell_far _ _ _ _ (by exact h)];exact hc
theorem Ext.set5{w W:World}(h:Ext w W){b:Nat}(hb:w.heap.size≤b)(u0 u1 u2 u3 u4:Value):Ext w (((((W.setCell b u0).setCell ⟨b,1,none⟩ u1).setCell ⟨b,2,none⟩ u2).setCell ⟨b,3,none⟩ u3).setCell ⟨b,4,none⟩ u4):=
 ((((h.setCell (p:=⟨b,0,none⟩) hb u0).setCell (p:=⟨b,1,none⟩) hb u1).setCell (p:=⟨b,2,none⟩) hb u2).setCell (p:=⟨b,3,none⟩) hb u3).setCell (p:=⟨b,4,none⟩) hb u4
def Td(c:Zh)(t:Nat)(p:Int)(k:Nat):Int:=(p-sG c t k)*Zw c k
theorem Zty{b gp k:Nat}{c:Zh}{t:Nat}{p:Int}{w:World}(h:Zt w b gp c t)(hk:Qk c t p k) :
  Calls prog 366 #[b,.int .i64 p] w fun e w'=>e=.returned (.tuple #[pv5 (Sz c t k),.int .i64 (Td c t p k)])∧Ext w w':=by
 obtain⟨cap,h0⟩:=h.parts;have H:=Za h;have kl:=hk.lt;have m8:=h.ok.cl.most;have HS:=Za (h.ok.G_side h.ti hk);have k0:(0:Int)≤(k:Int):=Int.natCast_nonneg _;have k1:(k:Int)<(c.cl.length:Int):=by omega
 have bd:=h.ok.bounds h.ti kl;have u1:=bd.per1;have u2:=bd.per32;have u3:=bd.pg2048;have gl:=h.ok.sG_le h.ti (Nat.le_of_lt kl);obtain⟨g0,g1⟩:=gl;have lo:=hk.lo;have hi:p-sG c t k≤2048:=by have:=hk.hi;have e:sG c t (k+1)=sG c t k+Zp c t k:=rfl;omega
 have mb:=Ar (a:=p-sG c t k) (b:=Zw c k) (A:=2048) (B:=32) (by omega) hi (by omega) u2;obtain⟨a,ha⟩:=Zb ((p-sG c t k)*Zw c k);have AH:=Za (show Td c t p k=a from ha);have HA:=Za ha;rw[ha] at mb;obtain⟨a0,a1⟩:=mb;have p1:p≤20480:=by omega
 obtain⟨z,hz⟩:=Zb (w.heap.size);obtain⟨W0,hW0⟩:=Zb ((w.alloc (.cells #[.int .i64 p] 3)).alloc (.cells #[(0:Int),(0:Int),(0:Int),(0:Int),(0:Int)] 128));have x0:Ext w W0:=by rw[←hW0];exact((Zy2 _).alloc _).alloc _
 have cp:W0.cell? z=some (.int .i64 p):=by rw[←hW0,←hz];exact((Zy2 _).alloc _).cell (Zg _ _ _ 0)
 have f0:Zjy W0 (z+1) (.int .i64 0) (.int .i64 0) (.int .i64 0) (.int .i64 0) (.int .i64 0):=by rw[←hW0];exact Zjy.new _ _ _ _ _ _ _ (by simp[←hz])
 have hbz:b<z:=by rw[←hz];exact Zj h0
 have hgz:gp<z:=by rw[←hz];exact Zj (h.cells kl).1
 have F0:=Za f0;have CP:=Za cp;have X0:=Za x0;have HZ:=Za hz;have PA:=Za (h.ext x0);have hd:Ext W0 W0.drew:=(Zy2 _).drew;have hb0:=x0.cell h0;obtain⟨r0,r1,r2,r3,r4⟩:=(h.ext x0).cells kl;clear h hk bd ha f0 cp x0 h0;go_enter func366,ntmps366;go_wp2_with fail;have nz1:z+1≠b:=by omega
 have nz2:z+1≠gp:=by omega
 go_region_held3 (fun w'=>w'.cell? b=some (.slice (some ⟨gp,0,none⟩) c.cl.length cap)∧w'.cell? ⟨gp,k*5,none⟩=some (.int .i64 (nth c.cl k))∧w'.cell? ⟨gp,k*5+1,none⟩=some (.int .i64 (sS c t k))∧w'.cell? ⟨gp,k*5+2,none⟩=some (.int .i64 (Zl c t k))∧w'.cell? ⟨gp,k*5+3,none⟩=some (.int .i64 (sG c t k))∧w'.cell? ⟨gp,k*5+4,none⟩=some (.int .i64 (Zw c k)))
  ((first|with_reducible exact⟨Zs5 nz1 (hE.cell hb0),Zs5 nz2 (hE.cell r0),Zs5 nz2 (hE.cell r1),Zs5 nz2 (hE.cell r2),Zs5 nz2 (hE.cell r3),Zs5 nz2 (hE.cell r4)⟩|with_reducible exact⟨hE.cell hb0,hE.cell r0,hE.cell r1,hE.cell r2,hE.cell r3,hE.cell r4⟩|go_keep))
  ((go_at_call 78;refine(Av (K:=k) 384 #[z] (PA.out.ext hd) kl (fun i hi w' hx=>Zph (Sz c t i) p (decide (i≤k)) ⟨z,0,none⟩ ((hd.trans hx).cell CP.out) (HS.out i hi)) Zhf).ze fun w1 hE0=>?_;have hE:=hd.trans hE0;obtain⟨q0,q1,q2,q3,q4,qf⟩:=F0.out.ext hE;have qf0:=qf 0;have qf1:=qf 1;have qf2:=qf 2;have qf3:=qf 3;have qf4:=qf 4))
 all_goals
  have F1:=Za ((F0.out.ext hE).store (.int .i64 (nth c.cl k)) (.int .i64 (sS c t k)) (.int .i64 (Zl c t k)) (.int .i64 (sG c t k)) (.int .i64 (Zw c k)));have zs:w.heap.size≤z+1:=by have:=HZ.out;omega
  have X1:=Za ((X0.out.trans hE).set5 zs (.int .i64 (nth c.cl k)) (.int .i64 (sS c t k)) (.int .i64 (Zl c t k)) (.int .i64 (sG c t k)) (.int .i64 (Zw c k)));have CP1:=Za (Zs5 (show z+1≠(⟨z,0,none⟩:Addr).block by simp) (hE.cell CP.out) (v0:=.int .i64 (nth c.cl k)) (v1:=.int .i64 (sS c t k)) (v2:=.int .i64 (Zl c t k)) (v3:=.int .i64 (sG c t k)) (v4:=.int .i64 (Zw c k)));clear q0 q1 q2 q3 q4 qf qf0 qf1 qf2 qf3 qf4 hb0 r0 r1 r2 r3 r4 hE hE0
  generalize (((((w1.setCell ⟨z+1,0,none⟩ (.int .i64 (nth c.cl k))).setCell ⟨z+1,1,none⟩ (.int .i64 (sS c t k))).setCell ⟨z+1,2,none⟩ (.int .i64 (Zl c t k))).setCell ⟨z+1,3,none⟩ (.int .i64 (sG c t k))).setCell ⟨z+1,4,none⟩ (.int .i64 (Zw c k)))=w2 at *
  obtain⟨q0,q1,q2,q3,q4,qf⟩:=F1.out;have qf0:=qf 0;have qf1:=qf 1;have qf2:=qf 2;have qf3:=qf 3;have qf4:=qf 4;have cp2:=CP1.out;have ha:=HA.out;have hd2:Ext w2 w2.drew:=(Zy2 _).drew;have F2:=Za ((F1.out.store (.int .i64 (nth c.cl k)) (.int .i64 (sS c t k)) (.int .i64 (Zl c t k)) (.int .i64 (sG c t k)) (.int .i64 (Zw c k))).ext (Zy2 _).drew);have zs2:w.heap.size≤z+1:=zs;have X2:=Za ((X1.out.set5 zs2 (.int .i64 (nth c.cl k)) (.int .i64 (sS c t k)) (.int .i64 (Zl c t k)) (.int .i64 (sG c t k)) (.int .i64 (Zw c k))).drew);have CP2:=Za ((Zy2 _).drew.cell (Zs5 (show z+1≠(⟨z,0,none⟩:Addr).block by simp) cp2 (v0:=.int .i64 (nth c.cl k)) (v1:=.int .i64 (sS c t k)) (v2:=.int .i64 (Zl c t k)) (v3:=.int .i64 (sG c t k)) (v4:=.int .i64 (Zw c k))));go_wp2_with fail
  go_region_held3 (fun w'=>w'.cell? ⟨z+1,0,none⟩=some (.int .i64 (nth c.cl k))∧w'.cell? ⟨z+1,1,none⟩=some (.int .i64 (sS c t k))∧w'.cell? ⟨z+1,2,none⟩=some (.int .i64 (Zl c t k))∧w'.cell? ⟨z+1,3,none⟩=some (.int .i64 (sG c t k))∧w'.cell? ⟨z+1,4,none⟩=some (.int .i64 (Zw c k))∧w'.cell? z=some (.int .i64 p))
   ((first|with_reducible exact⟨F2.out.c0,F2.out.c1,F2.out.c2,F2.out.c3,F2.out.c4,CP2.out⟩|with_reducible exact⟨hd2.cell q0,hd2.cell q1,hd2.cell q2,hd2.cell q3,hd2.cell q4,hd2.cell cp2⟩|go_keep))
   (fail)
  all_goals
   clear q0 q1 q2 q3 q4 qf qf0 qf1 qf2 qf3 qf4 cp2;obtain⟨q0,q1,q2,q3,q4,qf⟩:=F2.out;go_wp2_with fail;refine bodyPost_ret (v:=.tuple #[pv5 (Sz c t k),.int .i64 a]) (by simp[results,results366,go_sem,q0,q1,q2,q3,q4,pv5,Sz,IntWalk.i64_in (p-sG c t k) (by omega),HA.out,IntWalk.i64_in a (by omega)]) rfl ⟨by rw[AH.out],X2.out⟩
end
section
open Go.RowKit Go.Shelf
def Qx(c:Zh)(t:Nat)(p:Int)(k:Nat):Int:=sS c t k+Td c t p k
def Qy(c:Zh)(t:Nat)(p:Int)(k:Nat):Int:=if Zl c t k-Td c t p k<Zw c k then Zl c t k-Td c t p k else Zw c k
theorem Zfh{c:Zh}{t k:Nat}{p:Int}(ho:KOk c)(ht:t<c.ts.length)(hk:Qk c t p k):0≤Td c t p k∧Td c t p k<Zl c t k:=by
 have bd:=ho.bounds ht hk.lt;have u1:=bd.per1;have e:sG c t (k+1)=sG c t k+Zp c t k:=rfl;have lo:=hk.lo;have hi:=hk.hi;have hd:p-sG c t k+1≤Zp c t k:=by omega
 have hpg:Zp c t k*Zw c k≤Zl c t k+Zw c k-1:=by unfold Zp;exact Int.ediv_mul_le _ (by omega)
 have h1:=Int.mul_le_mul_of_nonneg_right (c:=Zw c k) hd (by omega);have h2:(p-sG c t k+1)*Zw c k=(p-sG c t k)*Zw c k+Zw c k:=by rw[Int.add_mul,Int.one_mul]
 unfold Td;exact⟨Int.mul_nonneg (by omega) (by omega),by omega⟩
theorem Ztz{b gp k:Nat}{c:Zh}{t:Nat}{p:Int}{w:World}(h:Zt w b gp c t)(hk:Qk c t p k) :
  Calls prog 341 #[b,.int .i64 p] w fun e w'=>e=.returned (.tuple #[.int .i64 (Qx c t p k),.int .i64 (Qy c t p k),(0:Int)])∧Ext w w':=by
 have h2:=h.pages;have H:=Za h;have HK:=Za hk;have m8:=h.ok.cl.most;have kl:=hk.lt;have bd:=h.ok.bounds h.ti kl;have u1:=bd.per1;have u2:=bd.per32;have u3:=bd.s2048;have u4:=bd.s1;have gl:=h.ok.sS_le h.ti (Nat.le_of_lt kl);obtain⟨g0,g1⟩:=gl;obtain⟨a0,a1⟩:=Zfh h.ok h.ti hk;have lo:=hk.lo;have hi:=hk.hi;have gk:=h.ok.sG_le h.ti (Nat.le_of_lt kl);have up:=Sj (f:=Zp c t) (n:=c.cl.length) (a:=k+1) (b:=c.cl.length) (h.ok.pages1 h.ti) (by omega) (Zy1 _);have up2:sG c t (k+1)≤sG c t c.cl.length:=by unfold sG;omega
 have t0:decide (p<0)=false:=by simp;omega
 have t1:decide (sG c t c.cl.length≤p)=false:=by simp;omega
 have p0:0≤p:=by omega
 have HF:=Za (show Qx c t p k=sS c t k+Td c t p k from rfl);have HM:=Za (show Qy c t p k=if Zl c t k-Td c t p k<Zw c k then Zl c t k-Td c t p k else Zw c k from rfl);clear h hk bd up up2 gk lo hi;go_enter func341,ntmps341;go_wp2_with fail;refine(Wp H.out).zz ?_;go_wp2_with fail;refine(Zty H.out HK.out).ze fun w1 x=>?_;unfold pv5 Sz
 generalize Td c t p k=a at *
 generalize sS c t k=S at *
 generalize Zl c t k=s at *
 generalize Zw c k=pe at *
 go_wp2_with fail;by_cases hm:s-a<pe
 ·have HM2:=Za (show Qy c t p k=s-a by rw[HM.out,if_pos hm])
  go_region
  all_goals
   go_wp2
   go_ret3
   exact⟨by rw[HF.out,HM2.out];rfl,(x.alloc _).drew⟩
 ·have HM2:=Za (show Qy c t p k=pe by rw[HM.out,if_neg hm])
  go_region
  all_goals
   go_wp2
   go_ret3
   exact⟨by rw[HF.out,HM2.out];rfl,(x.alloc _).drew⟩
end
def Je{α:Type}(f:Nat→α)(k:Nat):List α:=(List.range k).map f
theorem J7{α:Type}(f:Nat→α)(k:Nat):Je f (k+1)=Je f k++[f k]:=by simp[Je,List.range_succ]
theorem Yh{α:Type}(f:Nat→α)(k:Nat):(Je f k).length=k:=by simp[Je]
theorem Zkn{α:Type}{f:Nat→α}{pre:List α}{x:α}(h:pre++[x]=Je f (pre++[x]).length):pre=Je f pre.length∧x=f pre.length:=by
 rw[Zy9,List.length_singleton,J7] at h;have h1:=List.append_inj h (by simp[Yh]);exact⟨h1.1,by simpa using h1.2⟩
section
open Go.RowKit Go.Shelf
attribute [local go_sem] Oper.semAt_some
theorem Vb{F:Fence}{n:Nat}{P:Program}{id:Nat}{ops:Array Oper}{bb:Bool}{Q:Exit→Act→World→Prop}{a:Act}{w:World}(h:(Code.region id ops bb).wpIn F n P (NoPanic Q) a w):(Code.region id ops bb).wpIn F n P Q a w:=
 wpIn_mono h (fun e a w h=>NoPanic.imp e a w h)
end
structure N0(c:Zh)(t:Nat)(s:Int)(k:Nat)(d m:Int):Prop where
 eq:s=sS c t k+d*Zw c k+m
 d0:0≤d
 dP:d<Zp c t k
 m0:0≤m
 mP:m<Zw c k
 lt:d*Zw c k+m<Zl c t k
 pg:Nz c t s k=sG c t k+d
 ad:On c t s k=(sG c t k+d)*c.page+m*nth c.cl k
theorem Yk.inPage{c:Zh}{t k:Nat}{s:Int}(ho:KOk c)(ht:t<c.ts.length)(h:Yk c t s k):∃d m,N0 c t s k d m:=by
 have bd:=ho.bounds ht h.lt;have p1:=bd.per1;have hi:=h.hi;have lo:=h.lo;have hs:sS c t (k+1)=sS c t k+Zl c t k:=rfl;have e1:=Int.emod_add_mul_ediv (s-sS c t k) (Zw c k);have m0:=Int.emod_nonneg (s-sS c t k) (by omega:Zw c k≠0);have m1:=Int.emod_lt_of_pos (s-sS c t k) (by omega:0<Zw c k);have d0:=Int.ediv_nonneg (a:=s-sS c t k) (b:=Zw c k) (by omega) (by omega);rw[Int.mul_comm] at e1;refine⟨(s-sS c t k) / Zw c k,(s-sS c t k) % Zw c k,by omega,d0,?_,m0,m1,by omega,rfl,rfl⟩;have:(s-sS c t k) / Zw c k+1≤(Zl c t k+Zw c k-1) / Zw c k:=by
  rw[Int.le_ediv_iff_mul_le (by omega),Int.add_mul];omega
 unfold Zp;omega
theorem Zfi{c:Zh}{k:Nat}(h:2≤nth c.cl k):Zw c k*nth c.cl k≤c.page:=by
 unfold Zw;exact Int.ediv_mul_le _ (by omega)
theorem N0.inside{c:Zh}{t k:Nat}{s d m:Int}(ho:KOk c)(ht:t<c.ts.length)(hk:k<c.cl.length)(h:N0 c t s k d m):0≤m*nth c.cl k∧m*nth c.cl k+nth c.cl k≤c.page:=by
 have bd:=ho.bounds ht hk;have c2:=bd.c2;have h1:=Zfi (c:=c) (k:=k) c2;have h2:=Int.mul_nonneg h.m0 (by omega:0≤nth c.cl k);have h3:=Int.mul_le_mul_of_nonneg_right (show m+1≤Zw c k by have:=h.mP;omega) (by omega:0≤nth c.cl k);rw[Int.add_mul] at h3;omega
theorem N0.page{c:Zh}{t k:Nat}{s d m:Int}(hk:k<c.cl.length)(h:N0 c t s k d m):Qk c t (sG c t k+d) k:=
 ⟨hk,by have:=h.d0;omega,by have:sG c t (k+1)=sG c t k+Zp c t k:=rfl;have:=h.dP;omega⟩
theorem N0.ahead{c:Zh}{t k:Nat}{s d m:Int}(h:N0 c t s k d m):Td c t (sG c t k+d) k=d*Zw c k:=by
 have _:=h;unfold Td;rw[show sG c t k+d-sG c t k=d by omega]
theorem N0.first{c:Zh}{t k:Nat}{s d m:Int}(h:N0 c t s k d m):Qx c t (sG c t k+d) k+m=s∧m<Qy c t (sG c t k+d) k:=by
 have ha:=h.ahead;have e:=h.eq;have l:=h.lt;have mp:=h.mP;unfold Qx Qy;rw[ha];refine⟨by omega,?_⟩;split<;>omega
theorem J8{c:Zh}(ho:KOk c){t:Nat}(ht:t<c.ts.length){a b:Nat}(hab:a≤b)(hb:b≤c.cl.length):sG c t a+((b-a:Nat):Int)≤sG c t b:=Sj (ho.pages1 ht) hab hb
theorem Rx{c:Zh}(ho:KOk c){t:Nat}(ht:t<c.ts.length){a b:Nat}(hab:a≤b)(hb:b≤c.cl.length):sS c t a+((b-a:Nat):Int)≤sS c t b:=Sj (ho.slots1 ht) hab hb
theorem Yk.uniq{c:Zh}(ho:KOk c){t:Nat}(ht:t<c.ts.length){s:Int}{k j:Nat}(h:Yk c t s k)(h':Yk c t s j):k=j:=by
 have a:=h.lo;have b:=h.hi;have a':=h'.lo;have b':=h'.hi;have l:=h.lt;have l':=h'.lt;rcases Nat.lt_trichotomy k j with g|g|g
 ·have:=Rx ho ht (a:=k+1) (b:=j) g (by omega);omega
 ·exact g
 ·have:=Rx ho ht (a:=j+1) (b:=k) g (by omega);omega
theorem J9{c:Zh}(ho:KOk c){t:Nat}(ht:t<c.ts.length){s s':Int}{k k':Nat}(h:Yk c t s k)(h':Yk c t s' k')(hs:s<s'):On c t s k+nth c.cl k≤On c t s' k':=by
 obtain⟨d,m,q⟩:=h.inPage ho ht;obtain⟨d',m',q'⟩:=h'.inPage ho ht;have i1:=q.inside ho ht h.lt;have i2:=q'.inside ho ht h'.lt;have pg1:1≤c.page:=by have:=(ho.bounds ht h.lt).c2;omega
 have far:∀{x y:Int},x+1≤y→x*c.page+c.page≤y*c.page:=fun {x y} hxy=>by
  have:=Int.mul_le_mul_of_nonneg_right hxy (by omega:0≤c.page)
  rwa [Int.add_mul,Int.one_mul] at this
 rw[q.ad,q'.ad];have kk:k≤k':=by
  rcases Nat.lt_or_ge k' k with g|g
  ·have:=Rx ho ht (a:=k'+1) (b:=k) g (by have:=h.lt;omega);have:=h'.hi;have:=h.lo;omega
  ·exact g
 rcases Nat.lt_or_ge k k' with g|g
 ·have g1:=J8 ho ht (a:=k+1) (b:=k') g (by have:=h'.lt;omega);have g2:sG c t (k+1)=sG c t k+Zp c t k:=rfl;have:=far (x:=sG c t k+d) (y:=sG c t k'+d') (by have:=q.dP;have:=q'.d0;omega);omega
 ·have e:k'=k:=by omega
  subst e;have e1:=q.eq;have e2:=q'.eq;have p1:=(ho.bounds ht h.lt).per1;have dd:d≤d':=by
   rcases Int.lt_or_le d' d with g|g
   ·have:=Int.mul_le_mul_of_nonneg_right (show d'+1≤d by omega) (by omega:0≤Zw c k');rw[Int.add_mul] at this;have:=q'.mP;have:=q.m0;omega
   ·exact g
  rcases Int.lt_or_le d d' with g|g
  ·have:=far (x:=sG c t k'+d) (y:=sG c t k'+d') (by omega);omega
  ·have e3:d'=d:=by omega
   subst e3;have:=Int.mul_le_mul_of_nonneg_right (show m+1≤m' by omega) (by have:=(ho.bounds ht h.lt).c2;omega:0≤nth c.cl k');rw[Int.add_mul,Int.one_mul] at this;omega
theorem Aw{c:Zh}(ho:KOk c){t:Nat}(ht:t<c.ts.length){s:Int}{k:Nat}(h:Yk c t s k):0≤On c t s k∧On c t s k+nth c.cl k≤sG c t c.cl.length*c.page:=by
 obtain⟨d,m,q⟩:=h.inPage ho ht;have i1:=q.inside ho ht h.lt;have pg1:1≤c.page:=by have:=(ho.bounds ht h.lt).c2;omega
 have g1:=J8 ho ht (a:=k+1) (b:=c.cl.length) h.lt (Zy1 _);have g2:sG c t (k+1)=sG c t k+Zp c t k:=rfl;have g3:=(ho.sG_le ht (k:=k) (by have:=h.lt;omega)).1;have d0:=q.d0;have h1:=Int.mul_le_mul_of_nonneg_right (show sG c t k+d+1≤sG c t c.cl.length by have:=q.dP;omega) (by omega:0≤c.page);rw[Int.add_mul,Int.one_mul] at h1;have h2:=Int.mul_nonneg (show 0≤sG c t k+d by omega) (by omega:0≤c.page);rw[q.ad];omega
theorem Zhg{c:Zh}(ho:KOk c){t k:Nat}(ht:t<c.ts.length){p:Int}(h:Qk c t p k) :
  1≤Qy c t p k∧Yk c t (Qx c t p k) k∧Yk c t (Qx c t p k+Qy c t p k-1) k:=by
 have ab:=Zfh ho ht h;have p1:=(ho.bounds ht h.lt).per1;have e2:sS c t (k+1)=sS c t k+Zl c t k:=rfl;have hm:Qy c t p k=Zl c t k-Td c t p k∨(Qy c t p k=Zw c k∧Zw c k≤Zl c t k-Td c t p k):=by
  unfold Qy;split<;>omega
 refine⟨?_,⟨h.lt,?_,?_⟩,⟨h.lt,?_,?_⟩⟩<;>(try unfold Qx)<;>omega
def kOf(c:Zh)(t:Nat)(s:Int):Nat:=((List.range c.cl.length).find? fun k=>decide (s<sS c t (k+1))).getD 0
def kpOf(c:Zh)(t:Nat)(p:Int):Nat:=((List.range c.cl.length).find? fun k=>decide (p<sG c t (k+1))).getD 0
theorem Yk.kOf{c:Zh}(ho:KOk c){t:Nat}(ht:t<c.ts.length){s:Int}{k:Nat}(h:Yk c t s k):kOf c t s=k:=by
 have:(List.range c.cl.length).find? (fun k=>decide (s<sS c t (k+1)))=some k:=by
  rw[List.find?_range_eq_some];refine⟨by simpa using h.hi,by simpa using h.lt,fun j hj=>?_⟩;have:=Rx ho ht (a:=j+1) (b:=k) (by omega) (by have:=h.lt;omega);have:=h.lo;simp;omega
 unfold Go.Proofs.YtfcldaembdedjaaGreatDoor.kOf;rw[this];rfl
theorem Qk.kpOf{c:Zh}(ho:KOk c){t:Nat}(ht:t<c.ts.length){p:Int}{k:Nat}(h:Qk c t p k):kpOf c t p=k:=by
 have:(List.range c.cl.length).find? (fun k=>decide (p<sG c t (k+1)))=some k:=by
  rw[List.find?_range_eq_some];refine⟨by simpa using h.hi,by simpa using h.lt,fun j hj=>?_⟩;have:=J8 ho ht (a:=j+1) (b:=k) (by omega) (by have:=h.lt;omega);have:=h.lo;simp;omega
 unfold Go.Proofs.YtfcldaembdedjaaGreatDoor.kpOf;rw[this];rfl
section
def nS(c:Zh)(t:Nat):Nat:=(sS c t c.cl.length).toNat
def nG(c:Zh)(t:Nat):Nat:=(sG c t c.cl.length).toNat
theorem KOk.nS_eq{c:Zh}(h:KOk c){t:Nat}(ht:t<c.ts.length):(nS c t:Int)=sS c t c.cl.length:=by
 have:=(h.sS_le ht (Zy1 _)).1;unfold nS;omega
theorem KOk.nG_eq{c:Zh}(h:KOk c){t:Nat}(ht:t<c.ts.length):(nG c t:Int)=sG c t c.cl.length:=by
 have:=(h.sG_le ht (Zy1 _)).1;unfold nG;omega
variable{w0 wr w3 W w4 w':World}{c:Zh}{t b n p q:Nat}{ca:Option Addr}{cc:Nat}{wo:Int}{lv fv mv V:Value}
theorem KOk.nG_pos(h:KOk c)(ht:t<c.ts.length):1≤nG c t:=by
 have h1:=h.nG_eq ht;have h2:=(h.sG_le ht (k:=c.cl.length) (Zy1 _)).1;have h3:=h.cl.pos;have:=J8 h ht (a:=0) (b:=c.cl.length) (by omega) (Zy1 _);have:sG c t 0=0:=rfl;omega
theorem KOk.nS_pos(h:KOk c)(ht:t<c.ts.length):1≤nS c t:=by
 have h1:=h.nS_eq ht;have h3:=h.cl.pos;have:=Rx h ht (a:=0) (b:=c.cl.length) (by omega) (Zy1 _);have:sS c t 0=0:=rfl;omega
end
end Go.Proofs.YtfcldaembdedjaaGreatDoor
