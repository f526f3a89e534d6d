/-
  Parts of the proof of TopCycles: Next3, BoolRow, Ref04, Pins, Pins2, Pins3, Pins4, TopP, TopM.
-/
import Derived.Test.YtfcldaembdedjaaGreatDoorQ03
set_option linter.unusedVariables false
set_option linter.unusedSimpArgs false
set_option maxRecDepth 100000
set_option maxHeartbeats 16000000
namespace Go.Proofs.YtfcldaembdedjaaGreatDoor
open Go.RowKit Tryz
section
open Go.RowKit Go.Shelf
attribute [local go_sem] Oper.semAt_some
theorem Zhs(n:Nat)(hn:1≤n)(n₀ Bi Br Bt b g i:Nat)(bs:List Bool)(is:Bool)(hi:i<bs.length)(w:World)(hBi:Bi<n₀)(hBr:Br<n₀)(hBt:Bt<n₀)(hg:g<n₀)
  (ci:w.cell? Bi=some (.int .i64 i)) (cr:w.cell? Br=some (b:Value)) (ct:w.cell? Bt=some (.int .u64 (Uw is:Nat))) (hr:Z1 w b g bs) (hb:b<n₀) :
  SeqStopsK Fence.wide n prog 374 #[Bi,Br,Bt] Pd (Below n₀) (fun ys=>ys=Je (U8 bs is i) (Xr bs.length-i / 64)) (fun pre=>∃k,k≤Xr bs.length-i / 64∧pre=Je (U8 bs is i) k) (Xr bs.length-i / 64) w:=fun l J Jx W hW hJ _ hY h0=>by
 have hx:Ext w W:=hW;exact Zpu n hn l n₀ Bi Br Bt b g i bs is hi hBi hBr hBt hb hg J Jx (fun pre V h=>hJ pre V V.drew none h ⟨rfl,rfl,rfl,Zy1 _,fun _ _ _=>rfl⟩ (fun r e=>by cases e)) hY W (hx.cell ci) (hx.cell cr) (hx.cell ct) (hr.ext hx) h0
theorem Te.neg{bs:List Bool}{fm:Int}{is:Bool}{p:Int}{q:Bool}(h:Te bs fm is p q)(hf:fm≤0):Te bs ((0:Nat):Int) is p q:=by
 rcases h with ⟨rfl,i,rfl,h1,h2,h3,h4⟩|⟨rfl,rfl,h4⟩
 ·exact .inl ⟨rfl,i,rfl,by omega,h2,h3,fun j _ hj=>h4 j (by omega) hj⟩
 ·exact .inr ⟨rfl,rfl,fun j _ hj=>h4 j (by omega) hj⟩
theorem Kj{b g:Nat}{i:Int}{is:Bool}(bs:List Bool){w:World}(h:Z1 w b g bs)(hi:(bs.length:Int)≤i∨bs.length=0):Calls prog 317 #[b,.int .i64 i,is] w fun e w'=>e=.returned (.tuple #[(0:Int),false])∧Ext w w':=by
 have H:=Za h;clear h;obtain⟨m,hm,hd⟩:∃m:Int,((i<0∧m=0)∨(0≤i∧m=i))∧decide (0≤m∧m<bs.length)=false:=by
  by_cases h:i<0
  ·exact⟨0,.inl ⟨h,rfl⟩,Zyx (by omega)⟩
  ·exact⟨i,.inr ⟨by omega,rfl⟩,Zyx (by omega)⟩
 have D:=Za hd;clear hd hi;rcases hm with ⟨hi,rfl⟩|⟨hi,rfl⟩
 all_goals
  cases is
  all_goals
   go_enter func317,ntmps317;go_wp2_with fail;refine(Xp bs false (H.out.ext ?_) D.out).mono ?_
   ·repeat (first|exact Zy2 _|refine Ext.alloc ?_ _)
   rintro e w1 ⟨rfl,rfl⟩;go_wp2_with fail;exact bodyPost_ret (v:=.tuple #[(0:Int),false]) (by simp[results,results317,go_sem]) rfl ⟨rfl,by repeat (first|exact Zy2 _|refine Ext.alloc ?_ _)⟩
theorem N9{bs:List Bool}{is:Bool}{i:Nat}{pre:List Zv6}{x:Zv6}(hlen:pre.length<Xr bs.length-i / 64)(h65:bs.length≤65536)(e:pre++[x]=Je (U8 bs is i) (pre++[x]).length) :
  pre=Je (U8 bs is i) pre.length∧x.1.1=i / 64+pre.length∧x.1.2=wf bs is i (i / 64+pre.length):=by
 obtain⟨e1,e2⟩:=Zkn e;have hl:i / 64+pre.length<1024:=by unfold Xr at hlen;omega
 exact⟨e1,by rw[e2];exact Zan hl,by rw[e2];exact Zao hl⟩
theorem So{α:Type}(pre:List α)(x:α)(k:Nat):k+(pre++[x]).length=k+pre.length+1:=by rw[Zy9,List.length_singleton,Nat.add_assoc]
theorem Zde(w:World)(v:Value)(t:TypeId):(w.alloc (.cells #[v] t)).frozen? w.heap.size=false:=by simp
theorem Io{b g i:Nat}{fm:Int}{is:Bool}(bs:List Bool)(p:Int)(q:Bool){w:World}(h:Z1 w b g bs)(hT:Tab w)(hi:i<bs.length)(hf:(fm<0∧i=0)∨fm=i)(hn:Te bs i is p q) :
  Calls prog 317 #[b,.int .i64 fm,is] w fun e w'=>e=.returned (.tuple #[.int .i64 p,q])∧Ext w w':=by
 have H:=Za h;have HT:=Za hT;have HN:=Za hn;have D:=Za (show decide (0≤(i:Int)∧(i:Int)<bs.length)=true by simp;omega);have h65:=h.most;have hb:=h.lt;have hg:=h.glt (by omega);clear h hT hn;refine(callsIn_wide (n:=3)).1 ?_;refine callsIn_of_wp_marks func317 rfl trivial ?_ rfl;simp only[ntmps317,List.size_toArray,List.length_cons,List.length_nil,Nat.reduceAdd,Nat.reduceSub,Array.replicate_succ,Array.replicate_zero,List.push_toArray,List.append_toArray,List.nil_append,List.cons_append];obtain⟨z,hz⟩:=Zb (w.heap.size);obtain⟨W0,hW0⟩:=Zb (((((((w.alloc (.cells #[b] 129)).alloc (.cells #[(0:Int)] 3)).alloc (.cells #[false] 4)).alloc (.cells #[b] 129)).alloc (.cells #[(i:Int)] 3)).alloc (.cells #[.int .u64 ((Uw is:Nat):Int)] 34)));have x0:Ext w W0:=by rw[←hW0];repeat (first|exact Zy2 _|refine Ext.alloc ?_ _)
 have sz:W0.heap.size=z+6:=by rw[←hW0,←hz];simp
 have k0:W0.cell? z=some (b:Value):=by
  rw[←hW0,←hz];exact(by repeat (first|exact Zy2 _|refine Ext.alloc ?_ _):Ext (w.alloc (.cells #[b] 129)) _).cell (Zr _ _ _)
 have k1:W0.cell? ⟨z+1,0,none⟩=some (.int .i64 0)∧W0.frozen? ⟨z+1,0,none⟩=false:=by
  have e:=(by rw[←hW0];repeat (first|exact Zy2 _|refine Ext.alloc ?_ _):Ext ((w.alloc (.cells #[b] 129)).alloc (.cells #[(0:Int)] 3)) W0);have c:=Zr (w.alloc (.cells #[b] 129)) (.int .i64 0) 3;rw[World.size_alloc,hz] at c;exact⟨e.cell c,e.frozenAt c (by simp[←hz])⟩
 have k2:W0.cell? ⟨z+1+1,0,none⟩=some (.bool false)∧W0.frozen? ⟨z+1+1,0,none⟩=false:=by
  have e:=(by rw[←hW0];repeat (first|exact Zy2 _|refine Ext.alloc ?_ _):Ext (((w.alloc (.cells #[b] 129)).alloc (.cells #[(0:Int)] 3)).alloc (.cells #[false] 4)) W0);have c:=Zr ((w.alloc (.cells #[b] 129)).alloc (.cells #[(0:Int)] 3)) (.bool false) 4;have f:=Zde ((w.alloc (.cells #[b] 129)).alloc (.cells #[(0:Int)] 3)) (.bool false) 4;simp only[World.size_alloc,hz] at c f;exact⟨e.cell c,e.frozenAt c f⟩
 have k3:W0.cell? ⟨z+1+1+1,0,none⟩=some (b:Value):=by
  have c:=Zr (((w.alloc (.cells #[b] 129)).alloc (.cells #[(0:Int)] 3)).alloc (.cells #[false] 4)) (b:Value) 129;simp only[World.size_alloc,hz] at c;rw[←hW0];exact(((Zy2 _).alloc _).alloc _).cell c
 have k4:W0.cell? ⟨z+1+1+1+1,0,none⟩=some (.int .i64 (i:Int)):=by
  have c:=Zr ((((w.alloc (.cells #[b] 129)).alloc (.cells #[(0:Int)] 3)).alloc (.cells #[false] 4)).alloc (.cells #[b] 129)) (.int .i64 (i:Int)) 3;simp only[World.size_alloc,hz] at c;rw[←hW0];exact((Zy2 _).alloc _).cell c
 have k5:W0.cell? ⟨z+1+1+1+1+1,0,none⟩=some (.int .u64 ((Uw is:Nat):Int)):=by
  have c:=Zr (((((w.alloc (.cells #[b] 129)).alloc (.cells #[(0:Int)] 3)).alloc (.cells #[false] 4)).alloc (.cells #[b] 129)).alloc (.cells #[(i:Int)] 3)) (.int .u64 ((Uw is:Nat):Int)) 34;simp only[World.size_alloc,hz] at c;rw[←hW0];exact c
 have hz':=Za hz;have ST:=Za (Zhs 2 (by decide) W0.heap.size (z+1+1+1+1) (z+1+1+1) (z+1+1+1+1+1) b g i bs is hi W0 (by omega) (by omega) (by omega) (by omega) k4 k3 k5 (H.out.ext x0) (by omega));have K0:=Za k0;have K1:=Za k1;have K2:=Za k2;have SZ:=Za sz;have HW0:=Za hW0;clear k0 k1 k2 k3 k4 k5 sz hz hW0;rcases hf with ⟨hf,rfl⟩|rfl
 ·have D0:decide ((0:Int)≤0∧(0:Int)<bs.length)=true:=D.out;have HW0:Hid (((((((w.alloc (.cells #[b] 129)).alloc (.cells #[(0:Int)] 3)).alloc (.cells #[false] 4)).alloc (.cells #[b] 129)).alloc (.cells #[(0:Int)] 3)).alloc (.cells #[.int .u64 ((Uw is:Nat):Int)] 34))=W0):=Za HW0.out;have DD:=Za D0;clear D0;cases is
  ·gi_wp2_with (first|(refine⟨trivial,?_⟩;gi_at_call 80;refine(callsIn_wide.2 (Xp bs true (H.out.ext (by repeat (first|exact Zy2 _|refine Ext.alloc ?_ _))) DD.out)).mono ?_;rintro e w' ⟨rfl,rfl⟩)|(refine⟨trivial,?_⟩;gi_at_call 350;refine(callsIn_wide.2 (Ji _ _ _)).mono ?_;rintro e w' ⟨rfl,rfl⟩))
   rw[hz'.out];rw[show Value.int .u64 (18446744073709551615:Int)=Value.int .u64 ((Uw false:Nat):Int) from rfl,HW0.out];refine wpIn_rangeFunc_ownF rfl (by omega) (gf:=374) (lb:=#[.pointer (some ⟨z+1+1+1+1,0,none⟩),.pointer (some ⟨z+1+1+1,0,none⟩),.pointer (some ⟨z+1+1+1+1+1,0,none⟩)]) rfl trivial (enters_of func374 (by kernel_rfl) rfl)
    ST.out belowK_t (belowK_b (Zy1 _)) (Below.refl _ _) (fun _=>rfl)
    (fun pre W=>((pre=Je (U8 bs false 0) pre.length→Kx bs false 0 (64*(0 / 64+pre.length)))∧W.cell? z=some (b:Value)∧W.cell? ⟨z+1,0,none⟩=some (.int .i64 0)∧W.frozen? ⟨z+1,0,none⟩=false∧W.cell? ⟨z+1+1,0,none⟩=some (.bool false)∧W.frozen? ⟨z+1+1,0,none⟩=false)∧Below w.heap.size w W)
    (fun c pre W=>(c=.ret∧∃y:Int,W.cell? ⟨z+1,0,none⟩=some (.int .i64 y)∧W.cell? ⟨z+1+1,0,none⟩=some (.bool true)∧(pre=Je (U8 bs false 0) pre.length→y=p∧q=true))∧Below w.heap.size w W)
    (OwnFrom.and (Own.from (fun s A B row hs hg hr=>⟨hs.1,cell_kept hs.2.1 hg hr,cell_kept hs.2.2.1 hg hr,(frozen_kept hs.2.2.1 hg hr).trans hs.2.2.2.1,cell_kept hs.2.2.2.2.1 hg hr,(frozen_kept hs.2.2.2.2.1 hg hr).trans hs.2.2.2.2.2⟩) _) (ownFrom_below (Zy1 _) x0.size))
    (fun c=>OwnFrom.and (Own.from (fun s A B row hs hg hr=>by obtain⟨h1,y,h2,h3,h4⟩:=hs;exact⟨h1,y,cell_kept h2 hg hr,cell_kept h3 hg hr,h4⟩) _) (ownFrom_below (Zy1 _) x0.size))
    ⟨⟨fun _ j h1 h2=>absurd h2 (by simp),K0.out,K1.out.1,K1.out.2,K2.out.1,K2.out.2⟩,x0⟩
    (fun x=>{ tmps:=#[(b:Value),.int .i64 (0:Int),.bool false,(z:Value),undef,undef,.pointer (some ⟨z+1,0,none⟩),.pointer (some ⟨z+1+1,0,none⟩),.int .u64 ((Uw false:Nat):Int),.int .i64 (x.1.1:Int),.int .u64 (x.1.2:Int),undef,.bool false,.int .i64 fm,.int .i64 (0:Int),(b:Value),.int .i64 (0:Int),.bool true,.bool false,(b:Value),.int .i64 (0:Int),.int .u64 ((Uw false:Nat):Int),.func (.func 374) #[] #[.pointer (some ⟨z+1+1+1+1,0,none⟩),.pointer (some ⟨z+1+1+1,0,none⟩),.pointer (some ⟨z+1+1+1+1+1,0,none⟩)],.int .i64 (x.1.1:Int),.int .u64 (x.1.2:Int),undef,undef,undef,undef,undef,undef,undef,undef,undef,undef,undef],defers:=[] }) ?assign ?body ?done ?stop
   case assign=>
    intro l x W K hK;simp only[Pd]
    gi_wp2
    exact hK
   case body=>
    rintro l pre x W ⟨⟨hpure,c0,c1,f1,c2,f2⟩,hB⟩ hlen;obtain⟨k,hk'⟩:∃k,x.1.1=k:=⟨_,rfl⟩;obtain⟨v,hv'⟩:∃v,x.1.2=v:=⟨_,rfl⟩;have hk:k<1024:=by rw[←hk'];exact x.2.1
    have HV:Hid (v<18446744073709551616):=Za (by rw[←hv'];exact x.2.2);have IT:=Za (fun e=>N9 (bs:=bs) (is:=false) (i:=0) (pre:=pre) (x:=x) hlen h65 e);have HP:=Za hpure;have HB:=Za hB;simp only[hk',hv'];rw[hk',hv'] at IT;clear hpure hB hk' hv';have fin:v=0∨((v:Int)==0)=false:=by
     by_cases e:v=0
     ·exact .inl e
     ·exact .inr (by simp;omega)
    rcases fin with rfl|hvz
    ·gi_wp2
     refine⟨KeepsOthers.refl _,Below.refl _ _,⟨fun e=>?_,c0,c1,f1,c2,f2⟩,HB.out⟩;obtain⟨e1,e2,e3⟩:=IT.out e;rw[So];exact(HP.out e1).zero e3.symm
    ·have hv0:v≠0:=by rintro rfl;simp at hvz
     obtain⟨cz,hcz⟩:=Zb (Lib.ctz 64 v);have cl:=(N8 HV.out hv0).1;rw[hcz] at cl;have CZ:=Za hcz;clear hcz;have t1:IntKind.i64.wrap ((k:Int)*64)=(k:Int)*64:=IntWalk.i64_in _ (by omega);have t2:IntKind.i64.wrap ((k:Int)*64+(cz:Int))=(k:Int)*64+(cz:Int):=IntWalk.i64_in _ (by omega);obtain⟨hb',hbd⟩:∃r,decide (0≤(k:Int)*64+(cz:Int)∧(k:Int)*64+(cz:Int)<bs.length)=r:=⟨_,rfl⟩;have BD:=Za hbd;clear hbd;have HIT:=Za (fun e=>(HP.out (IT.out e).1).hit (by rw[←(IT.out e).2.2];exact hv0));cases hb'
     ·have hge:=Zy8 BD.out;have HGE:=Za hge;clear hge
      gi_wp2_with (first|(refine⟨trivial,?_⟩;gi_at_call 351;refine(CallsIn.inRound l (callsIn_wide.2 (Pc v HV.out hv0 (HT.out.ext HB.out)))).mono ?_;rw[CZ.out];rintro e w' ⟨rfl,rfl⟩)|(refine⟨trivial,?_⟩;gi_at_call 80;refine(CallsIn.inRound l (callsIn_wide.2 (Xp bs false (H.out.ext HB.out) BD.out))).mono ?_;rintro e w' ⟨rfl,rfl⟩))
      refine⟨KeepsOthers.refl _,Below.refl _ _,⟨fun e=>?_,c0,c1,f1,c2,f2⟩,HB.out⟩;rw[So];have h2:=(HIT.out e).2;rw[←(IT.out e).2.2,CZ.out] at h2;exact h2 (by have:=HGE.out;have:=(IT.out e).2.1;omega)
     ·have hlt:=Zy7 BD.out;have HLT:=Za hlt;clear hlt
      gi_wp2_with (first|(refine⟨trivial,?_⟩;gi_at_call 351;refine(CallsIn.inRound l (callsIn_wide.2 (Pc v HV.out hv0 (HT.out.ext HB.out)))).mono ?_;rw[CZ.out];rintro e w' ⟨rfl,rfl⟩)|(refine⟨trivial,?_⟩;gi_at_call 80;refine(CallsIn.inRound l (callsIn_wide.2 (Xp bs true (H.out.ext HB.out) BD.out))).mono ?_;rintro e w' ⟨rfl,rfl⟩))
      have n12:(⟨z+1,0,none⟩:Addr)≠⟨z+1+1,0,none⟩:=by intro e;have:=congrArg Addr.block e;simp at this
      refine⟨(KeepsOthers.setCell _ _ _).trans (KeepsOthers.setCell _ _ _),⟨rfl,(k:Int)*64+(cz:Int),?_,?_,fun e=>?_⟩,(HB.out.setCell (p:=⟨z+1,0,none⟩) (by have:=hz'.out;simp;omega) _).setCell (p:=⟨z+1+1,0,none⟩) (by have:=hz'.out;simp;omega) _⟩
      ·rw[Zy0 _ _ _ _ n12.symm];exact Zyz _ _ _ c1
      ·exact Zyz (u:=.bool false) _ _ _ (by rw[Zy0 _ _ _ _ n12];exact c2)
      ·have h1:=(HIT.out e).1;rw[←(IT.out e).2.2,CZ.out] at h1;have:=(h1 (by have:=HLT.out;have:=(IT.out e).2.1;omega)).same HN.out;refine⟨?_,this.2.symm⟩;rw[←this.1,←(IT.out e).2.1];omega
   case done=>
    rintro D ys W hD rfl ⟨⟨hpure,c0,c1,f1,c2,f2⟩,hB⟩ hK;have n12:(⟨z+1,0,none⟩:Addr)≠⟨z+1+1,0,none⟩:=by intro e;have:=congrArg Addr.block e;simp at this
    have hno:=hpure (by rw[Yh]);rw[Yh] at hno;have hend:=(hno.none (by unfold Xr;omega)).same HN.out;have EN:=Za hend;have HB:=Za hB;have HK:=Za hK;clear hpure hno hend hB hK
    gi_wp2
    have hK':=((KeepsOthers.setCell W ⟨z+1,0,none⟩ (.int .i64 0)).trans (KeepsOthers.setCell _ ⟨z+1+1,0,none⟩ (.bool false))).same D _ HK.out rfl;refine⟨by simp,.inl ⟨_,_,rfl,run_takeDeferred hK',?_⟩⟩;have d1:((W.setCell ⟨z+1,0,none⟩ (.int .i64 0)).setCell ⟨z+1+1,0,none⟩ (.bool false)).cell? ⟨z+1,0,none⟩=some (.int .i64 0):=by
     rw[Zy0 _ _ _ _ n12.symm];exact Zyz _ _ _ c1
    have d2:((W.setCell ⟨z+1,0,none⟩ (.int .i64 0)).setCell ⟨z+1+1,0,none⟩ (.bool false)).cell? ⟨z+1+1,0,none⟩=some (.bool false):=
     Zyz (u:=.bool false) _ _ _ (by rw[Zy0 _ _ _ _ n12];exact c2)
    have e1:=cell_kept d1 (grownBy_putObj' _ D (.deferred none)) (fun r e=>by cases e;exact⟨_,hK',rfl⟩);have e2:=cell_kept d2 (grownBy_putObj' _ D (.deferred none)) (fun r e=>by cases e;exact⟨_,hK',rfl⟩);refine⟨.tuple #[(0:Int),false],?_,by rw[←EN.out.1,←EN.out.2],((HB.out.setCell (p:=⟨z+1,0,none⟩) (by have:=hz'.out;simp;omega) _).setCell (p:=⟨z+1+1,0,none⟩) (by have:=hz'.out;simp;omega) _).trans (belowK_b (w:=w) (Zy1 _) _ D _ _ (Zy6 x0.size hD) hK' rfl rfl)⟩;simp[results,f317,go_sem,e1,e2]
   case stop=>
    rintro D c pre W hD ⟨m,hm,rfl⟩ ⟨⟨rfl,y,c1,c2,hyq⟩,hB⟩ hK;obtain⟨rfl,rfl⟩:=hyq (by rw[Yh])
    gi_wp2
    refine⟨by simp,.inl ⟨_,_,rfl,run_takeDeferred hK,?_⟩⟩;have e1:=cell_kept c1 (grownBy_putObj' _ D (.deferred none)) (fun r e=>by cases e;exact⟨_,hK,rfl⟩);have e2:=cell_kept c2 (grownBy_putObj' _ D (.deferred none)) (fun r e=>by cases e;exact⟨_,hK,rfl⟩);refine⟨.tuple #[.int .i64 y,true],?_,rfl,hB.trans (belowK_b (w:=w) (Zy1 _) W D _ _ (Zy6 x0.size hD) hK rfl rfl)⟩;simp[results,f317,go_sem,e1,e2]
  ·gi_wp2_with (first|(refine⟨trivial,?_⟩;gi_at_call 80;refine(callsIn_wide.2 (Xp bs true (H.out.ext (by repeat (first|exact Zy2 _|refine Ext.alloc ?_ _))) DD.out)).mono ?_;rintro e w' ⟨rfl,rfl⟩)|(refine⟨trivial,?_⟩;gi_at_call 350;refine(callsIn_wide.2 (Ji _ _ _)).mono ?_;rintro e w' ⟨rfl,rfl⟩))
   rw[hz'.out];rw[show((((((w.alloc (.cells #[b] 129)).alloc (.cells #[(0:Int)] 3)).alloc (.cells #[false] 4)).alloc (.cells #[b] 129)).alloc (.cells #[(0:Int)] 3)).alloc (.cells #[.int .u64 0] 34))=W0 from HW0.out];refine wpIn_rangeFunc_ownF rfl (by omega) (gf:=374) (lb:=#[.pointer (some ⟨z+1+1+1+1,0,none⟩),.pointer (some ⟨z+1+1+1,0,none⟩),.pointer (some ⟨z+1+1+1+1+1,0,none⟩)]) rfl trivial (enters_of func374 (by kernel_rfl) rfl)
    ST.out belowK_t (belowK_b (Zy1 _)) (Below.refl _ _) (fun _=>rfl)
    (fun pre W=>((pre=Je (U8 bs true 0) pre.length→Kx bs true 0 (64*(0 / 64+pre.length)))∧W.cell? z=some (b:Value)∧W.cell? ⟨z+1,0,none⟩=some (.int .i64 0)∧W.frozen? ⟨z+1,0,none⟩=false∧W.cell? ⟨z+1+1,0,none⟩=some (.bool false)∧W.frozen? ⟨z+1+1,0,none⟩=false)∧Below w.heap.size w W)
    (fun c pre W=>(c=.ret∧∃y:Int,W.cell? ⟨z+1,0,none⟩=some (.int .i64 y)∧W.cell? ⟨z+1+1,0,none⟩=some (.bool true)∧(pre=Je (U8 bs true 0) pre.length→y=p∧q=true))∧Below w.heap.size w W)
    (OwnFrom.and (Own.from (fun s A B row hs hg hr=>⟨hs.1,cell_kept hs.2.1 hg hr,cell_kept hs.2.2.1 hg hr,(frozen_kept hs.2.2.1 hg hr).trans hs.2.2.2.1,cell_kept hs.2.2.2.2.1 hg hr,(frozen_kept hs.2.2.2.2.1 hg hr).trans hs.2.2.2.2.2⟩) _) (ownFrom_below (Zy1 _) x0.size))
    (fun c=>OwnFrom.and (Own.from (fun s A B row hs hg hr=>by obtain⟨h1,y,h2,h3,h4⟩:=hs;exact⟨h1,y,cell_kept h2 hg hr,cell_kept h3 hg hr,h4⟩) _) (ownFrom_below (Zy1 _) x0.size))
    ⟨⟨fun _ j h1 h2=>absurd h2 (by simp),K0.out,K1.out.1,K1.out.2,K2.out.1,K2.out.2⟩,x0⟩
    (fun x=>{ tmps:=#[(b:Value),.int .i64 (0:Int),.bool true,(z:Value),undef,undef,.pointer (some ⟨z+1,0,none⟩),.pointer (some ⟨z+1+1,0,none⟩),.int .u64 (0:Int),.int .i64 (x.1.1:Int),.int .u64 (x.1.2:Int),undef,.bool true,.int .i64 fm,.int .i64 (0:Int),(b:Value),.int .i64 (0:Int),.bool true,.bool false,(b:Value),.int .i64 (0:Int),.int .u64 (0:Int),.func (.func 374) #[] #[.pointer (some ⟨z+1+1+1+1,0,none⟩),.pointer (some ⟨z+1+1+1,0,none⟩),.pointer (some ⟨z+1+1+1+1+1,0,none⟩)],.int .i64 (x.1.1:Int),.int .u64 (x.1.2:Int),undef,undef,undef,undef,undef,undef,undef,undef,undef,undef,undef],defers:=[] }) ?assign ?body ?done ?stop
   case assign=>
    intro l x W K hK;simp only[Pd]
    gi_wp2
    exact hK
   case body=>
    rintro l pre x W ⟨⟨hpure,c0,c1,f1,c2,f2⟩,hB⟩ hlen;obtain⟨k,hk'⟩:∃k,x.1.1=k:=⟨_,rfl⟩;obtain⟨v,hv'⟩:∃v,x.1.2=v:=⟨_,rfl⟩;have hk:k<1024:=by rw[←hk'];exact x.2.1
    have HV:Hid (v<18446744073709551616):=Za (by rw[←hv'];exact x.2.2);have IT:=Za (fun e=>N9 (bs:=bs) (is:=true) (i:=0) (pre:=pre) (x:=x) hlen h65 e);have HP:=Za hpure;have HB:=Za hB;simp only[hk',hv'];rw[hk',hv'] at IT;clear hpure hB hk' hv';have fin:v=0∨((v:Int)==0)=false:=by
     by_cases e:v=0
     ·exact .inl e
     ·exact .inr (by simp;omega)
    rcases fin with rfl|hvz
    ·gi_wp2
     refine⟨KeepsOthers.refl _,Below.refl _ _,⟨fun e=>?_,c0,c1,f1,c2,f2⟩,HB.out⟩;obtain⟨e1,e2,e3⟩:=IT.out e;rw[So];exact(HP.out e1).zero e3.symm
    ·have hv0:v≠0:=by rintro rfl;simp at hvz
     obtain⟨cz,hcz⟩:=Zb (Lib.ctz 64 v);have cl:=(N8 HV.out hv0).1;rw[hcz] at cl;have CZ:=Za hcz;clear hcz;have t1:IntKind.i64.wrap ((k:Int)*64)=(k:Int)*64:=IntWalk.i64_in _ (by omega);have t2:IntKind.i64.wrap ((k:Int)*64+(cz:Int))=(k:Int)*64+(cz:Int):=IntWalk.i64_in _ (by omega);obtain⟨hb',hbd⟩:∃r,decide (0≤(k:Int)*64+(cz:Int)∧(k:Int)*64+(cz:Int)<bs.length)=r:=⟨_,rfl⟩;have BD:=Za hbd;clear hbd;have HIT:=Za (fun e=>(HP.out (IT.out e).1).hit (by rw[←(IT.out e).2.2];exact hv0));cases hb'
     ·have hge:=Zy8 BD.out;have HGE:=Za hge;clear hge
      gi_wp2_with (first|(refine⟨trivial,?_⟩;gi_at_call 351;refine(CallsIn.inRound l (callsIn_wide.2 (Pc v HV.out hv0 (HT.out.ext HB.out)))).mono ?_;rw[CZ.out];rintro e w' ⟨rfl,rfl⟩)|(refine⟨trivial,?_⟩;gi_at_call 80;refine(CallsIn.inRound l (callsIn_wide.2 (Xp bs false (H.out.ext HB.out) BD.out))).mono ?_;rintro e w' ⟨rfl,rfl⟩))
      refine⟨KeepsOthers.refl _,Below.refl _ _,⟨fun e=>?_,c0,c1,f1,c2,f2⟩,HB.out⟩;rw[So];have h2:=(HIT.out e).2;rw[←(IT.out e).2.2,CZ.out] at h2;exact h2 (by have:=HGE.out;have:=(IT.out e).2.1;omega)
     ·have hlt:=Zy7 BD.out;have HLT:=Za hlt;clear hlt
      gi_wp2_with (first|(refine⟨trivial,?_⟩;gi_at_call 351;refine(CallsIn.inRound l (callsIn_wide.2 (Pc v HV.out hv0 (HT.out.ext HB.out)))).mono ?_;rw[CZ.out];rintro e w' ⟨rfl,rfl⟩)|(refine⟨trivial,?_⟩;gi_at_call 80;refine(CallsIn.inRound l (callsIn_wide.2 (Xp bs true (H.out.ext HB.out) BD.out))).mono ?_;rintro e w' ⟨rfl,rfl⟩))
      have n12:(⟨z+1,0,none⟩:Addr)≠⟨z+1+1,0,none⟩:=by intro e;have:=congrArg Addr.block e;simp at this
      refine⟨(KeepsOthers.setCell _ _ _).trans (KeepsOthers.setCell _ _ _),⟨rfl,(k:Int)*64+(cz:Int),?_,?_,fun e=>?_⟩,(HB.out.setCell (p:=⟨z+1,0,none⟩) (by have:=hz'.out;simp;omega) _).setCell (p:=⟨z+1+1,0,none⟩) (by have:=hz'.out;simp;omega) _⟩
      ·rw[Zy0 _ _ _ _ n12.symm];exact Zyz _ _ _ c1
      ·exact Zyz (u:=.bool false) _ _ _ (by rw[Zy0 _ _ _ _ n12];exact c2)
      ·have h1:=(HIT.out e).1;rw[←(IT.out e).2.2,CZ.out] at h1;have:=(h1 (by have:=HLT.out;have:=(IT.out e).2.1;omega)).same HN.out;refine⟨?_,this.2.symm⟩;rw[←this.1,←(IT.out e).2.1];omega
   case done=>
    rintro D ys W hD rfl ⟨⟨hpure,c0,c1,f1,c2,f2⟩,hB⟩ hK;have n12:(⟨z+1,0,none⟩:Addr)≠⟨z+1+1,0,none⟩:=by intro e;have:=congrArg Addr.block e;simp at this
    have hno:=hpure (by rw[Yh]);rw[Yh] at hno;have hend:=(hno.none (by unfold Xr;omega)).same HN.out;have EN:=Za hend;have HB:=Za hB;have HK:=Za hK;clear hpure hno hend hB hK
    gi_wp2
    have hK':=((KeepsOthers.setCell W ⟨z+1,0,none⟩ (.int .i64 0)).trans (KeepsOthers.setCell _ ⟨z+1+1,0,none⟩ (.bool false))).same D _ HK.out rfl;refine⟨by simp,.inl ⟨_,_,rfl,run_takeDeferred hK',?_⟩⟩;have d1:((W.setCell ⟨z+1,0,none⟩ (.int .i64 0)).setCell ⟨z+1+1,0,none⟩ (.bool false)).cell? ⟨z+1,0,none⟩=some (.int .i64 0):=by
     rw[Zy0 _ _ _ _ n12.symm];exact Zyz _ _ _ c1
    have d2:((W.setCell ⟨z+1,0,none⟩ (.int .i64 0)).setCell ⟨z+1+1,0,none⟩ (.bool false)).cell? ⟨z+1+1,0,none⟩=some (.bool false):=
     Zyz (u:=.bool false) _ _ _ (by rw[Zy0 _ _ _ _ n12];exact c2)
    have e1:=cell_kept d1 (grownBy_putObj' _ D (.deferred none)) (fun r e=>by cases e;exact⟨_,hK',rfl⟩);have e2:=cell_kept d2 (grownBy_putObj' _ D (.deferred none)) (fun r e=>by cases e;exact⟨_,hK',rfl⟩);refine⟨.tuple #[(0:Int),false],?_,by rw[←EN.out.1,←EN.out.2],((HB.out.setCell (p:=⟨z+1,0,none⟩) (by have:=hz'.out;simp;omega) _).setCell (p:=⟨z+1+1,0,none⟩) (by have:=hz'.out;simp;omega) _).trans (belowK_b (w:=w) (Zy1 _) _ D _ _ (Zy6 x0.size hD) hK' rfl rfl)⟩;simp[results,f317,go_sem,e1,e2]
   case stop=>
    rintro D c pre W hD ⟨m,hm,rfl⟩ ⟨⟨rfl,y,c1,c2,hyq⟩,hB⟩ hK;obtain⟨rfl,rfl⟩:=hyq (by rw[Yh])
    gi_wp2
    refine⟨by simp,.inl ⟨_,_,rfl,run_takeDeferred hK,?_⟩⟩;have e1:=cell_kept c1 (grownBy_putObj' _ D (.deferred none)) (fun r e=>by cases e;exact⟨_,hK,rfl⟩);have e2:=cell_kept c2 (grownBy_putObj' _ D (.deferred none)) (fun r e=>by cases e;exact⟨_,hK,rfl⟩);refine⟨.tuple #[.int .i64 y,true],?_,rfl,hB.trans (belowK_b (w:=w) (Zy1 _) W D _ _ (Zy6 x0.size hD) hK rfl rfl)⟩;simp[results,f317,go_sem,e1,e2]
 ·cases is
  ·gi_wp2_with (first|(refine⟨trivial,?_⟩;gi_at_call 80;refine(callsIn_wide.2 (Xp bs true (H.out.ext (by repeat (first|exact Zy2 _|refine Ext.alloc ?_ _))) D.out)).mono ?_;rintro e w' ⟨rfl,rfl⟩)|(refine⟨trivial,?_⟩;gi_at_call 350;refine(callsIn_wide.2 (Ji _ _ _)).mono ?_;rintro e w' ⟨rfl,rfl⟩))
   rw[hz'.out];rw[show Value.int .u64 (18446744073709551615:Int)=Value.int .u64 ((Uw false:Nat):Int) from rfl,HW0.out];refine wpIn_rangeFunc_ownF rfl (by omega) (gf:=374) (lb:=#[.pointer (some ⟨z+1+1+1+1,0,none⟩),.pointer (some ⟨z+1+1+1,0,none⟩),.pointer (some ⟨z+1+1+1+1+1,0,none⟩)]) rfl trivial (enters_of func374 (by kernel_rfl) rfl)
    ST.out belowK_t (belowK_b (Zy1 _)) (Below.refl _ _) (fun _=>rfl)
    (fun pre W=>((pre=Je (U8 bs false i) pre.length→Kx bs false i (64*(i / 64+pre.length)))∧W.cell? z=some (b:Value)∧W.cell? ⟨z+1,0,none⟩=some (.int .i64 0)∧W.frozen? ⟨z+1,0,none⟩=false∧W.cell? ⟨z+1+1,0,none⟩=some (.bool false)∧W.frozen? ⟨z+1+1,0,none⟩=false)∧Below w.heap.size w W)
    (fun c pre W=>(c=.ret∧∃y:Int,W.cell? ⟨z+1,0,none⟩=some (.int .i64 y)∧W.cell? ⟨z+1+1,0,none⟩=some (.bool true)∧(pre=Je (U8 bs false i) pre.length→y=p∧q=true))∧Below w.heap.size w W)
    (OwnFrom.and (Own.from (fun s A B row hs hg hr=>⟨hs.1,cell_kept hs.2.1 hg hr,cell_kept hs.2.2.1 hg hr,(frozen_kept hs.2.2.1 hg hr).trans hs.2.2.2.1,cell_kept hs.2.2.2.2.1 hg hr,(frozen_kept hs.2.2.2.2.1 hg hr).trans hs.2.2.2.2.2⟩) _) (ownFrom_below (Zy1 _) x0.size))
    (fun c=>OwnFrom.and (Own.from (fun s A B row hs hg hr=>by obtain⟨h1,y,h2,h3,h4⟩:=hs;exact⟨h1,y,cell_kept h2 hg hr,cell_kept h3 hg hr,h4⟩) _) (ownFrom_below (Zy1 _) x0.size))
    ⟨⟨fun _ j h1 h2=>absurd h2 (by simp;omega),K0.out,K1.out.1,K1.out.2,K2.out.1,K2.out.2⟩,x0⟩
    (fun x=>{ tmps:=#[(b:Value),.int .i64 i,.bool false,(z:Value),undef,undef,.pointer (some ⟨z+1,0,none⟩),.pointer (some ⟨z+1+1,0,none⟩),.int .u64 ((Uw false:Nat):Int),.int .i64 (x.1.1:Int),.int .u64 (x.1.2:Int),undef,.bool false,.int .i64 i,.int .i64 i,(b:Value),.int .i64 i,.bool true,.bool false,(b:Value),.int .i64 i,.int .u64 ((Uw false:Nat):Int),.func (.func 374) #[] #[.pointer (some ⟨z+1+1+1+1,0,none⟩),.pointer (some ⟨z+1+1+1,0,none⟩),.pointer (some ⟨z+1+1+1+1+1,0,none⟩)],.int .i64 (x.1.1:Int),.int .u64 (x.1.2:Int),undef,undef,undef,undef,undef,undef,undef,undef,undef,undef,undef],defers:=[] }) ?assign ?body ?done ?stop
   case assign=>
    intro l x W K hK;simp only[Pd]
    gi_wp2
    exact hK
   case body=>
    rintro l pre x W ⟨⟨hpure,c0,c1,f1,c2,f2⟩,hB⟩ hlen;obtain⟨k,hk'⟩:∃k,x.1.1=k:=⟨_,rfl⟩;obtain⟨v,hv'⟩:∃v,x.1.2=v:=⟨_,rfl⟩;have hk:k<1024:=by rw[←hk'];exact x.2.1
    have HV:Hid (v<18446744073709551616):=Za (by rw[←hv'];exact x.2.2);have IT:=Za (fun e=>N9 (bs:=bs) (is:=false) (i:=i) (pre:=pre) (x:=x) hlen h65 e);have HP:=Za hpure;have HB:=Za hB;simp only[hk',hv'];rw[hk',hv'] at IT;clear hpure hB hk' hv';have fin:v=0∨((v:Int)==0)=false:=by
     by_cases e:v=0
     ·exact .inl e
     ·exact .inr (by simp;omega)
    rcases fin with rfl|hvz
    ·gi_wp2
     refine⟨KeepsOthers.refl _,Below.refl _ _,⟨fun e=>?_,c0,c1,f1,c2,f2⟩,HB.out⟩;obtain⟨e1,e2,e3⟩:=IT.out e;rw[So];exact(HP.out e1).zero e3.symm
    ·have hv0:v≠0:=by rintro rfl;simp at hvz
     obtain⟨cz,hcz⟩:=Zb (Lib.ctz 64 v);have cl:=(N8 HV.out hv0).1;rw[hcz] at cl;have CZ:=Za hcz;clear hcz;have t1:IntKind.i64.wrap ((k:Int)*64)=(k:Int)*64:=IntWalk.i64_in _ (by omega);have t2:IntKind.i64.wrap ((k:Int)*64+(cz:Int))=(k:Int)*64+(cz:Int):=IntWalk.i64_in _ (by omega);obtain⟨hb',hbd⟩:∃r,decide (0≤(k:Int)*64+(cz:Int)∧(k:Int)*64+(cz:Int)<bs.length)=r:=⟨_,rfl⟩;have BD:=Za hbd;clear hbd;have HIT:=Za (fun e=>(HP.out (IT.out e).1).hit (by rw[←(IT.out e).2.2];exact hv0));cases hb'
     ·have hge:=Zy8 BD.out;have HGE:=Za hge;clear hge
      gi_wp2_with (first|(refine⟨trivial,?_⟩;gi_at_call 351;refine(CallsIn.inRound l (callsIn_wide.2 (Pc v HV.out hv0 (HT.out.ext HB.out)))).mono ?_;rw[CZ.out];rintro e w' ⟨rfl,rfl⟩)|(refine⟨trivial,?_⟩;gi_at_call 80;refine(CallsIn.inRound l (callsIn_wide.2 (Xp bs false (H.out.ext HB.out) BD.out))).mono ?_;rintro e w' ⟨rfl,rfl⟩))
      refine⟨KeepsOthers.refl _,Below.refl _ _,⟨fun e=>?_,c0,c1,f1,c2,f2⟩,HB.out⟩;rw[So];have h2:=(HIT.out e).2;rw[←(IT.out e).2.2,CZ.out] at h2;exact h2 (by have:=HGE.out;have:=(IT.out e).2.1;omega)
     ·have hlt:=Zy7 BD.out;have HLT:=Za hlt;clear hlt
      gi_wp2_with (first|(refine⟨trivial,?_⟩;gi_at_call 351;refine(CallsIn.inRound l (callsIn_wide.2 (Pc v HV.out hv0 (HT.out.ext HB.out)))).mono ?_;rw[CZ.out];rintro e w' ⟨rfl,rfl⟩)|(refine⟨trivial,?_⟩;gi_at_call 80;refine(CallsIn.inRound l (callsIn_wide.2 (Xp bs true (H.out.ext HB.out) BD.out))).mono ?_;rintro e w' ⟨rfl,rfl⟩))
      have n12:(⟨z+1,0,none⟩:Addr)≠⟨z+1+1,0,none⟩:=by intro e;have:=congrArg Addr.block e;simp at this
      refine⟨(KeepsOthers.setCell _ _ _).trans (KeepsOthers.setCell _ _ _),⟨rfl,(k:Int)*64+(cz:Int),?_,?_,fun e=>?_⟩,(HB.out.setCell (p:=⟨z+1,0,none⟩) (by have:=hz'.out;simp;omega) _).setCell (p:=⟨z+1+1,0,none⟩) (by have:=hz'.out;simp;omega) _⟩
      ·rw[Zy0 _ _ _ _ n12.symm];exact Zyz _ _ _ c1
      ·exact Zyz (u:=.bool false) _ _ _ (by rw[Zy0 _ _ _ _ n12];exact c2)
      ·have h1:=(HIT.out e).1;rw[←(IT.out e).2.2,CZ.out] at h1;have:=(h1 (by have:=HLT.out;have:=(IT.out e).2.1;omega)).same HN.out;refine⟨?_,this.2.symm⟩;rw[←this.1,←(IT.out e).2.1];omega
   case done=>
    rintro D ys W hD rfl ⟨⟨hpure,c0,c1,f1,c2,f2⟩,hB⟩ hK;have n12:(⟨z+1,0,none⟩:Addr)≠⟨z+1+1,0,none⟩:=by intro e;have:=congrArg Addr.block e;simp at this
    have hno:=hpure (by rw[Yh]);rw[Yh] at hno;have hend:=(hno.none (by unfold Xr;omega)).same HN.out;have EN:=Za hend;have HB:=Za hB;have HK:=Za hK;clear hpure hno hend hB hK
    gi_wp2
    have hK':=((KeepsOthers.setCell W ⟨z+1,0,none⟩ (.int .i64 0)).trans (KeepsOthers.setCell _ ⟨z+1+1,0,none⟩ (.bool false))).same D _ HK.out rfl;refine⟨by simp,.inl ⟨_,_,rfl,run_takeDeferred hK',?_⟩⟩;have d1:((W.setCell ⟨z+1,0,none⟩ (.int .i64 0)).setCell ⟨z+1+1,0,none⟩ (.bool false)).cell? ⟨z+1,0,none⟩=some (.int .i64 0):=by
     rw[Zy0 _ _ _ _ n12.symm];exact Zyz _ _ _ c1
    have d2:((W.setCell ⟨z+1,0,none⟩ (.int .i64 0)).setCell ⟨z+1+1,0,none⟩ (.bool false)).cell? ⟨z+1+1,0,none⟩=some (.bool false):=
     Zyz (u:=.bool false) _ _ _ (by rw[Zy0 _ _ _ _ n12];exact c2)
    have e1:=cell_kept d1 (grownBy_putObj' _ D (.deferred none)) (fun r e=>by cases e;exact⟨_,hK',rfl⟩);have e2:=cell_kept d2 (grownBy_putObj' _ D (.deferred none)) (fun r e=>by cases e;exact⟨_,hK',rfl⟩);refine⟨.tuple #[(0:Int),false],?_,by rw[←EN.out.1,←EN.out.2],((HB.out.setCell (p:=⟨z+1,0,none⟩) (by have:=hz'.out;simp;omega) _).setCell (p:=⟨z+1+1,0,none⟩) (by have:=hz'.out;simp;omega) _).trans (belowK_b (w:=w) (Zy1 _) _ D _ _ (Zy6 x0.size hD) hK' rfl rfl)⟩;simp[results,f317,go_sem,e1,e2]
   case stop=>
    rintro D c pre W hD ⟨m,hm,rfl⟩ ⟨⟨rfl,y,c1,c2,hyq⟩,hB⟩ hK;obtain⟨rfl,rfl⟩:=hyq (by rw[Yh])
    gi_wp2
    refine⟨by simp,.inl ⟨_,_,rfl,run_takeDeferred hK,?_⟩⟩;have e1:=cell_kept c1 (grownBy_putObj' _ D (.deferred none)) (fun r e=>by cases e;exact⟨_,hK,rfl⟩);have e2:=cell_kept c2 (grownBy_putObj' _ D (.deferred none)) (fun r e=>by cases e;exact⟨_,hK,rfl⟩);refine⟨.tuple #[.int .i64 y,true],?_,rfl,hB.trans (belowK_b (w:=w) (Zy1 _) W D _ _ (Zy6 x0.size hD) hK rfl rfl)⟩;simp[results,f317,go_sem,e1,e2]
  ·gi_wp2_with (first|(refine⟨trivial,?_⟩;gi_at_call 80;refine(callsIn_wide.2 (Xp bs true (H.out.ext (by repeat (first|exact Zy2 _|refine Ext.alloc ?_ _))) D.out)).mono ?_;rintro e w' ⟨rfl,rfl⟩)|(refine⟨trivial,?_⟩;gi_at_call 350;refine(callsIn_wide.2 (Ji _ _ _)).mono ?_;rintro e w' ⟨rfl,rfl⟩))
   rw[hz'.out];rw[show((((((w.alloc (.cells #[b] 129)).alloc (.cells #[(0:Int)] 3)).alloc (.cells #[false] 4)).alloc (.cells #[b] 129)).alloc (.cells #[(i:Int)] 3)).alloc (.cells #[.int .u64 0] 34))=W0 from HW0.out];refine wpIn_rangeFunc_ownF rfl (by omega) (gf:=374) (lb:=#[.pointer (some ⟨z+1+1+1+1,0,none⟩),.pointer (some ⟨z+1+1+1,0,none⟩),.pointer (some ⟨z+1+1+1+1+1,0,none⟩)]) rfl trivial (enters_of func374 (by kernel_rfl) rfl)
    ST.out belowK_t (belowK_b (Zy1 _)) (Below.refl _ _) (fun _=>rfl)
    (fun pre W=>((pre=Je (U8 bs true i) pre.length→Kx bs true i (64*(i / 64+pre.length)))∧W.cell? z=some (b:Value)∧W.cell? ⟨z+1,0,none⟩=some (.int .i64 0)∧W.frozen? ⟨z+1,0,none⟩=false∧W.cell? ⟨z+1+1,0,none⟩=some (.bool false)∧W.frozen? ⟨z+1+1,0,none⟩=false)∧Below w.heap.size w W)
    (fun c pre W=>(c=.ret∧∃y:Int,W.cell? ⟨z+1,0,none⟩=some (.int .i64 y)∧W.cell? ⟨z+1+1,0,none⟩=some (.bool true)∧(pre=Je (U8 bs true i) pre.length→y=p∧q=true))∧Below w.heap.size w W)
    (OwnFrom.and (Own.from (fun s A B row hs hg hr=>⟨hs.1,cell_kept hs.2.1 hg hr,cell_kept hs.2.2.1 hg hr,(frozen_kept hs.2.2.1 hg hr).trans hs.2.2.2.1,cell_kept hs.2.2.2.2.1 hg hr,(frozen_kept hs.2.2.2.2.1 hg hr).trans hs.2.2.2.2.2⟩) _) (ownFrom_below (Zy1 _) x0.size))
    (fun c=>OwnFrom.and (Own.from (fun s A B row hs hg hr=>by obtain⟨h1,y,h2,h3,h4⟩:=hs;exact⟨h1,y,cell_kept h2 hg hr,cell_kept h3 hg hr,h4⟩) _) (ownFrom_below (Zy1 _) x0.size))
    ⟨⟨fun _ j h1 h2=>absurd h2 (by simp;omega),K0.out,K1.out.1,K1.out.2,K2.out.1,K2.out.2⟩,x0⟩
    (fun x=>{ tmps:=#[(b:Value),.int .i64 i,.bool true,(z:Value),undef,undef,.pointer (some ⟨z+1,0,none⟩),.pointer (some ⟨z+1+1,0,none⟩),.int .u64 (0:Int),.int .i64 (x.1.1:Int),.int .u64 (x.1.2:Int),undef,.bool true,.int .i64 i,.int .i64 i,(b:Value),.int .i64 i,.bool true,.bool false,(b:Value),.int .i64 i,.int .u64 (0:Int),.func (.func 374) #[] #[.pointer (some ⟨z+1+1+1+1,0,none⟩),.pointer (some ⟨z+1+1+1,0,none⟩),.pointer (some ⟨z+1+1+1+1+1,0,none⟩)],.int .i64 (x.1.1:Int),.int .u64 (x.1.2:Int),undef,undef,undef,undef,undef,undef,undef,undef,undef,undef,undef],defers:=[] }) ?assign ?body ?done ?stop
   case assign=>
    intro l x W K hK;simp only[Pd]
    gi_wp2
    exact hK
   case body=>
    rintro l pre x W ⟨⟨hpure,c0,c1,f1,c2,f2⟩,hB⟩ hlen;obtain⟨k,hk'⟩:∃k,x.1.1=k:=⟨_,rfl⟩;obtain⟨v,hv'⟩:∃v,x.1.2=v:=⟨_,rfl⟩;have hk:k<1024:=by rw[←hk'];exact x.2.1
    have HV:Hid (v<18446744073709551616):=Za (by rw[←hv'];exact x.2.2);have IT:=Za (fun e=>N9 (bs:=bs) (is:=true) (i:=i) (pre:=pre) (x:=x) hlen h65 e);have HP:=Za hpure;have HB:=Za hB;simp only[hk',hv'];rw[hk',hv'] at IT;clear hpure hB hk' hv';have fin:v=0∨((v:Int)==0)=false:=by
     by_cases e:v=0
     ·exact .inl e
     ·exact .inr (by simp;omega)
    rcases fin with rfl|hvz
    ·gi_wp2
     refine⟨KeepsOthers.refl _,Below.refl _ _,⟨fun e=>?_,c0,c1,f1,c2,f2⟩,HB.out⟩;obtain⟨e1,e2,e3⟩:=IT.out e;rw[So];exact(HP.out e1).zero e3.symm
    ·have hv0:v≠0:=by rintro rfl;simp at hvz
     obtain⟨cz,hcz⟩:=Zb (Lib.ctz 64 v);have cl:=(N8 HV.out hv0).1;rw[hcz] at cl;have CZ:=Za hcz;clear hcz;have t1:IntKind.i64.wrap ((k:Int)*64)=(k:Int)*64:=IntWalk.i64_in _ (by omega);have t2:IntKind.i64.wrap ((k:Int)*64+(cz:Int))=(k:Int)*64+(cz:Int):=IntWalk.i64_in _ (by omega);obtain⟨hb',hbd⟩:∃r,decide (0≤(k:Int)*64+(cz:Int)∧(k:Int)*64+(cz:Int)<bs.length)=r:=⟨_,rfl⟩;have BD:=Za hbd;clear hbd;have HIT:=Za (fun e=>(HP.out (IT.out e).1).hit (by rw[←(IT.out e).2.2];exact hv0));cases hb'
     ·have hge:=Zy8 BD.out;have HGE:=Za hge;clear hge
      gi_wp2_with (first|(refine⟨trivial,?_⟩;gi_at_call 351;refine(CallsIn.inRound l (callsIn_wide.2 (Pc v HV.out hv0 (HT.out.ext HB.out)))).mono ?_;rw[CZ.out];rintro e w' ⟨rfl,rfl⟩)|(refine⟨trivial,?_⟩;gi_at_call 80;refine(CallsIn.inRound l (callsIn_wide.2 (Xp bs false (H.out.ext HB.out) BD.out))).mono ?_;rintro e w' ⟨rfl,rfl⟩))
      refine⟨KeepsOthers.refl _,Below.refl _ _,⟨fun e=>?_,c0,c1,f1,c2,f2⟩,HB.out⟩;rw[So];have h2:=(HIT.out e).2;rw[←(IT.out e).2.2,CZ.out] at h2;exact h2 (by have:=HGE.out;have:=(IT.out e).2.1;omega)
     ·have hlt:=Zy7 BD.out;have HLT:=Za hlt;clear hlt
      gi_wp2_with (first|(refine⟨trivial,?_⟩;gi_at_call 351;refine(CallsIn.inRound l (callsIn_wide.2 (Pc v HV.out hv0 (HT.out.ext HB.out)))).mono ?_;rw[CZ.out];rintro e w' ⟨rfl,rfl⟩)|(refine⟨trivial,?_⟩;gi_at_call 80;refine(CallsIn.inRound l (callsIn_wide.2 (Xp bs true (H.out.ext HB.out) BD.out))).mono ?_;rintro e w' ⟨rfl,rfl⟩))
      have n12:(⟨z+1,0,none⟩:Addr)≠⟨z+1+1,0,none⟩:=by intro e;have:=congrArg Addr.block e;simp at this
      refine⟨(KeepsOthers.setCell _ _ _).trans (KeepsOthers.setCell _ _ _),⟨rfl,(k:Int)*64+(cz:Int),?_,?_,fun e=>?_⟩,(HB.out.setCell (p:=⟨z+1,0,none⟩) (by have:=hz'.out;simp;omega) _).setCell (p:=⟨z+1+1,0,none⟩) (by have:=hz'.out;simp;omega) _⟩
      ·rw[Zy0 _ _ _ _ n12.symm];exact Zyz _ _ _ c1
      ·exact Zyz (u:=.bool false) _ _ _ (by rw[Zy0 _ _ _ _ n12];exact c2)
      ·have h1:=(HIT.out e).1;rw[←(IT.out e).2.2,CZ.out] at h1;have:=(h1 (by have:=HLT.out;have:=(IT.out e).2.1;omega)).same HN.out;refine⟨?_,this.2.symm⟩;rw[←this.1,←(IT.out e).2.1];omega
   case done=>
    rintro D ys W hD rfl ⟨⟨hpure,c0,c1,f1,c2,f2⟩,hB⟩ hK;have n12:(⟨z+1,0,none⟩:Addr)≠⟨z+1+1,0,none⟩:=by intro e;have:=congrArg Addr.block e;simp at this
    have hno:=hpure (by rw[Yh]);rw[Yh] at hno;have hend:=(hno.none (by unfold Xr;omega)).same HN.out;have EN:=Za hend;have HB:=Za hB;have HK:=Za hK;clear hpure hno hend hB hK
    gi_wp2
    have hK':=((KeepsOthers.setCell W ⟨z+1,0,none⟩ (.int .i64 0)).trans (KeepsOthers.setCell _ ⟨z+1+1,0,none⟩ (.bool false))).same D _ HK.out rfl;refine⟨by simp,.inl ⟨_,_,rfl,run_takeDeferred hK',?_⟩⟩;have d1:((W.setCell ⟨z+1,0,none⟩ (.int .i64 0)).setCell ⟨z+1+1,0,none⟩ (.bool false)).cell? ⟨z+1,0,none⟩=some (.int .i64 0):=by
     rw[Zy0 _ _ _ _ n12.symm];exact Zyz _ _ _ c1
    have d2:((W.setCell ⟨z+1,0,none⟩ (.int .i64 0)).setCell ⟨z+1+1,0,none⟩ (.bool false)).cell? ⟨z+1+1,0,none⟩=some (.bool false):=
     Zyz (u:=.bool false) _ _ _ (by rw[Zy0 _ _ _ _ n12];exact c2)
    have e1:=cell_kept d1 (grownBy_putObj' _ D (.deferred none)) (fun r e=>by cases e;exact⟨_,hK',rfl⟩);have e2:=cell_kept d2 (grownBy_putObj' _ D (.deferred none)) (fun r e=>by cases e;exact⟨_,hK',rfl⟩);refine⟨.tuple #[(0:Int),false],?_,by rw[←EN.out.1,←EN.out.2],((HB.out.setCell (p:=⟨z+1,0,none⟩) (by have:=hz'.out;simp;omega) _).setCell (p:=⟨z+1+1,0,none⟩) (by have:=hz'.out;simp;omega) _).trans (belowK_b (w:=w) (Zy1 _) _ D _ _ (Zy6 x0.size hD) hK' rfl rfl)⟩;simp[results,f317,go_sem,e1,e2]
   case stop=>
    rintro D c pre W hD ⟨m,hm,rfl⟩ ⟨⟨rfl,y,c1,c2,hyq⟩,hB⟩ hK;obtain⟨rfl,rfl⟩:=hyq (by rw[Yh])
    gi_wp2
    refine⟨by simp,.inl ⟨_,_,rfl,run_takeDeferred hK,?_⟩⟩;have e1:=cell_kept c1 (grownBy_putObj' _ D (.deferred none)) (fun r e=>by cases e;exact⟨_,hK,rfl⟩);have e2:=cell_kept c2 (grownBy_putObj' _ D (.deferred none)) (fun r e=>by cases e;exact⟨_,hK,rfl⟩);refine⟨.tuple #[.int .i64 y,true],?_,rfl,hB.trans (belowK_b (w:=w) (Zy1 _) W D _ _ (Zy6 x0.size hD) hK rfl rfl)⟩;simp[results,f317,go_sem,e1,e2]
theorem Sq{b g:Nat}{fm:Int}{is:Bool}(bs:List Bool)(p:Int)(q:Bool){w:World}(h:Z1 w b g bs)(hT:Tab w)(hn:Te bs fm is p q) :
  Calls prog 317 #[b,.int .i64 fm,is] w fun e w'=>e=.returned (.tuple #[.int .i64 p,q])∧Ext w w':=by
 by_cases hf:fm<0
 ·by_cases hl:bs.length=0
  ·have:=hn.same (.inr ⟨rfl,rfl,fun j _ hj=>absurd hj (by omega)⟩);rw[this.1,this.2];exact Kj bs h (.inr hl)
  ·exact Io bs p q h hT (by omega) (.inl ⟨hf,rfl⟩) (hn.neg (by omega))
 ·obtain⟨i,rfl⟩:=Int.eq_ofNat_of_zero_le (by omega:0≤fm);by_cases hi:i<bs.length
  ·exact Io bs p q h hT hi (.inr rfl) hn
  ·have:=hn.same (.inr ⟨rfl,rfl,fun j hj hl=>absurd hj (by omega)⟩);rw[this.1,this.2];exact Kj bs h (.inl (by omega))
end
def BAt(w:World)(a:Option Addr)(bs:List Bool):Prop:=
 ∀i,i<bs.length→∃b o,a=some ⟨b,o,none⟩∧w.cell? ⟨b,o+i,none⟩=some (.bool (Zu bs i))
theorem BAt.pos{w:World}{a:Option Addr}{bs:List Bool}(h:BAt w a bs)(h0:0<bs.length) :
  ∃b o,a=some ⟨b,o,none⟩∧∀i,i<bs.length→w.cell? ⟨b,o+i,none⟩=some (.bool (Zu bs i)):=by
 obtain⟨b,o,rfl,_⟩:=h 0 h0;refine⟨b,o,rfl,fun i hi=>?_⟩;obtain⟨b',o',e,hc⟩:=h i hi;cases e;exact hc
theorem BAt.mk{w:World}{b o:Nat}{bs:List Bool}(h:∀i,i<bs.length→w.cell? ⟨b,o+i,none⟩=some (.bool (Zu bs i))):BAt w (some ⟨b,o,none⟩) bs:=
 fun i hi=>⟨b,o,rfl,h i hi⟩
def bcs(bs:List Bool):List Value:=bs.map Value.bool
theorem Zua(bs:List Bool):(bcs bs).length=bs.length:=by simp[bcs]
theorem Zv7(bs:List Bool)(i:Nat)(h:i<bs.length):(bcs bs)[i]?=some (.bool (Zu bs i)):=by
 simp[bcs,Zu,List.getD,h]
theorem Zpv(l:List Bool)(p:Bool):bcs l++[.bool p]=bcs (l++[p]):=by unfold bcs;rw[List.map_append];rfl
theorem Zpw{w:World}{base e:Nat}{v:Value}{n:Nat}{bs:List Bool}(h:w.ownsRow base e 1 v n (bcs bs))(h0:0<n) :
  ∃g cap,v=.slice (some ⟨g,0,none⟩) n cap∧base≤g∧g<w.heap.size∧n=bs.length∧n≤cap∧cap≤maxLen∧BAt w (some ⟨g,0,none⟩) bs∧∀o,w.frozen? ⟨g,o,none⟩=false:=by
 have hn:n=bs.length:=by have:=h.1;rw[Zua] at this;omega
 have h':=h;obtain⟨_,⟨rfl,rfl⟩|⟨g,cap,cur,rfl,hb,hh,hc,hm,hs,ht⟩⟩:=h
 ·exact absurd h0 (Nat.lt_irrefl 0)
 ·refine⟨g,cap,rfl,hb,(Array.getElem?_eq_some_iff.1 hh).1,hn,hc,hm,?_,fun o=>h'.frozenAt o⟩;refine BAt.mk fun i hi=>?_
  rw[Nat.zero_add,h'.cellAt _ (by omega)];exact Zv7 bs i hi
theorem Zlg:(prog.info? 4).map (fun i=>(i.zero,i.size,i.bytes))=some (some (.bool false),1,1):=by kernel_rfl
def Zv8(w:World)(p:Option Addr)(m:Bool):Prop:=(p=none∧m=true)∨∃b q,p=some ⟨b,0,none⟩∧w.cell? ⟨b,0,none⟩=some (.pointer q)∧m=q.isNone
theorem Xv{p:Option Addr}(m:Bool){w:World}(h:Zv8 w p m):Calls prog 118 #[.pointer p] w fun e w'=>e=.returned (.bool m)∧w=w':=by
 rcases h with ⟨rfl,rfl⟩|⟨b,q,rfl,hc,rfl⟩
 ·go_enter func118,ntmps118;go_wp2;go_ret;exact⟨rfl,rfl⟩
 ·cases q with
  | none=>
   go_enter func118,ntmps118;go_wp2;go_ret;exact⟨rfl,rfl⟩
  | some q=>
   go_enter func118,ntmps118;go_wp2;go_ret;exact⟨rfl,rfl⟩
def pbs(ms:List Int):List Bool:=ms.map fun x=>decide (0<x)
theorem Lo(ms:List Int):(pbs ms).length=ms.length:=by unfold pbs;simp
structure Xw(w:World)(b rb rg g:Nat)(ms:List Int):Prop where
 head:w.cell? b=some (rb:Value)
 ex:∃a cap,w.cell? ⟨b,1,none⟩=some (.slice a ms.length cap)∧At .u8 w a ms∧ms.length≤cap∧cap≤maxLen∧(0<ms.length→a=some ⟨g,0,none⟩∧∀o,w.frozen? ⟨g,o,none⟩=false)
 row:Z1 w rb rg (pbs ms)
 small:∀x∈ms,0≤x∧x≤255
 apart:0<ms.length→g≠b∧g≠rb∧g≠rg∧rg≠b
 two:b≠rb
theorem Xw.ext{w w':World}{b rb rg g:Nat}{ms:List Int}(h:Xw w b rb rg g ms)(hx:Ext w w'):Xw w' b rb rg g ms:=by
 obtain⟨a,cap,h1,h2,h3,h4,h5⟩:=h.ex;refine⟨hx.cell h.head,⟨a,cap,hx.cell h1,h2.ext hx,h3,h4,fun hp=>⟨(h5 hp).1,fun o=>?_⟩⟩,h.row.ext hx,h.small,h.apart,h.two⟩;obtain⟨x,o',e,hc⟩:=h2 0 hp;rw[(h5 hp).1] at e;cases e;have hl:g<w.heap.size:=Zj hc;rw[hx.frozen (p:=⟨g,o,none⟩) hl];exact(h5 hp).2 o
theorem Xw.isNone{w:World}{b rb rg g:Nat}{ms:List Int}(h:Xw w b rb rg g ms):Zv8 w (some ⟨b,0,none⟩) false:=.inr ⟨b,some ⟨rb,0,none⟩,rfl,h.head,rfl⟩
theorem Xw.most{w:World}{b rb rg g:Nat}{ms:List Int}(h:Xw w b rb rg g ms):ms.length≤65536:=by have:=h.row.most;rw[Lo] at this;exact this
theorem Zpx{b rb rg g:Nat}(ms:List Int){w:World}(h:Xw w b rb rg g ms):Calls prog 182 #[b] w fun e w'=>e=.returned (.int .i64 ms.length)∧w=w':=by
 obtain⟨a,cap,h1,_⟩:=h.ex;have HN:=Za h.isNone;clear h;go_enter func182,ntmps182;go_wp2_with fail;refine(Xv false HN.out).zz ?_;go_wp2;go_ret;exact⟨rfl,rfl⟩
def Lp(ms:List Int)(i:Int):Int:=if 0≤i∧i<ms.length then nth ms i.toNat else 0
theorem Pw{b rb rg g:Nat}{i:Int}(ms:List Int)(c:Int){w:World}(h:Xw w b rb rg g ms)(hc:Lp ms i=c):Calls prog 85 #[b,.int .i64 i] w fun e w'=>e=.returned (.int .i64 c)∧w=w':=by
 have HN:=Za h.isNone;have hm:=h.most;obtain⟨a,cap,h1,hA,_⟩:=h.ex;by_cases h0:i<0
 ·obtain rfl:c=0:=by rw[←hc];unfold Lp;rw[if_neg (by omega)]
  clear h hc hA;go_enter func85,ntmps85;go_wp2_with fail;refine(Xv false HN.out).zz ?_;go_wp2;go_ret;exact⟨rfl,rfl⟩
 ·obtain⟨n,rfl⟩:=Int.eq_ofNat_of_zero_le (show 0≤i by omega);by_cases hn:n<ms.length
  ·obtain⟨x,o,rfl,hcs⟩:=hA.pos (by omega);have z:=hcs n hn;have sm:=h.small _ (Ov hn);have e:nth ms n=c:=by rw[←hc];unfold Lp;rw[if_pos (by omega),Zy4]
   rw[e] at z sm;have sm0:=sm.1;have sm1:=sm.2;clear h hc hA hcs e sm h0;go_enter func85,ntmps85;go_wp2_with fail;refine(Xv false HN.out).zz ?_;go_wp2;go_ret;exact⟨rfl,rfl⟩
  ·obtain rfl:c=0:=by rw[←hc];unfold Lp;rw[if_neg (by omega)]
   clear h hc hA h0;go_enter func85,ntmps85;go_wp2_with fail;refine(Xv false HN.out).zz ?_;go_wp2;go_ret;exact⟨rfl,rfl⟩
theorem Zlh:(prog.info? 5).map (fun i=>(i.zero,i.size,i.bytes))=some (some (.int .u8 0),1,1):=by kernel_rfl
theorem Zdf(n:Nat)(h:n≤65536):∀W:World,(Instr.makeSlice 165 (.int .i64 (n:Int)) (.int .i64 (n:Int))).run prog W=.ok (.slice (some ⟨W.heap.size,0,none⟩) n n) (W.alloc (.cells (madeCells #[.int .u8 0] n) 5)):=by
 intro W;exact run_make_row' 165 5 (.int .u8 0) 1 underlying165 Zlh rfl .i64 .i64 n (by omega) (by omega) W
theorem Zpy(n:Nat):pbs (List.replicate n 0)=List.replicate n false:=by unfold pbs;simp
def Zv9(n:Nat)(w:World)(e:Ending)(w':World):Prop:=
 ∃b rb rg g,e=.returned (.tuple #[.pointer (some ⟨b,0,none⟩),(0:Int)])∧Xw w' b rb rg g (List.replicate n 0)∧w.heap.size≤b∧w.heap.size≤rb∧(0<n→w.heap.size≤rg∧w.heap.size≤g)∧Ext w w'
theorem Xw.newZero{w:World}{n rb rg:Nat}{t u:TypeId}(h:n≤65536)(hr:Z1 w rb rg (List.replicate n false)) :
  Xw ((w.alloc (.cells (madeCells #[.int .u8 0] n) t)).alloc (.cells #[.pointer (some ⟨rb,0,none⟩),.slice (some ⟨w.heap.size,0,none⟩) n n] u)) (w.heap.size+1) rb rg w.heap.size (List.replicate n 0):=by
 have c:=fun i=>Zg (w.alloc (.cells (madeCells #[.int .u8 0] n) t)) #[.pointer (some ⟨rb,0,none⟩),.slice (some ⟨w.heap.size,0,none⟩) n n] u i
 simp only[World.size_alloc] at c;have hl:=hr.lt;refine⟨by rw[c 0];rfl,⟨some ⟨w.heap.size,0,none⟩,n,by rw[c 1,Zza];rfl,?_,by simp,by unfold maxLen;omega,fun _=>⟨rfl,fun o=>?_⟩⟩,?_,?_,?_,by omega⟩
 ·refine At.mk fun i hi=>?_
  rw[Zza] at hi;rw[Nat.zero_add,show nth (List.replicate n (0:Int)) i=0 by simp[nth,List.getD,hi]];exact((Zy2 _).alloc _).cell (by rw[Zg,Im hi])
 ·rw[((Zy2 _).alloc _).frozen (by simp)];simp
 ·rw[Zpy];exact(hr.ext ((Zy2 _).alloc _)).ext ((Zy2 _).alloc _)
 ·intro x hx;have:=List.eq_of_mem_replicate hx;omega
 ·intro hp;rw[Zza] at hp;have:=hr.glt (by rw[Zza];exact hp);omega
theorem Zpz(n:Nat){w:World}(h:n≤65536):Calls prog 142 #[.int .i64 n] w (Zv9 n w):=by
 have hmk:=Zdf n h;have t0:decide ((n:Int)<0)=false:=by simp
 have t1:decide ((65536:Int)<(n:Int))=false:=by simp;omega
 go_enter func142,ntmps142;go_wp2_with fail;refine(N7 n h).mono ?_;rintro e w1 ⟨rb,rg,rfl,hr,b1,g1,x1⟩;have HR:=Za hr;have X:=Za x1;clear hr x1;go_wp2;go_ret2;have hs:=X.out.size;exact⟨w1.heap.size+1,rb,rg,w1.heap.size,rfl,Xw.newZero h HR.out,by omega,b1,fun hp=>⟨g1 hp,hs⟩,(X.out.alloc _).alloc _⟩
theorem Zap{p:Option Addr}{n m:Int}{r:Bool}{w:World}(hm:IntKind.u8.wrap (n+1)=m)(hr:decide (n<255)=r):Calls prog 332 #[.pointer p,.int .u8 n] w fun e w'=>e=.returned (.tuple #[.int .u8 m,r])∧w=w':=by
 go_enter func332,ntmps332;go_wp2;go_ret2;exact⟨rfl,rfl⟩
theorem Zaq{p:Option Addr}{n m:Int}{r:Bool}{w:World}(hm:IntKind.u8.wrap (n-1)=m)(hr:decide (0<n)=r):Calls prog 333 #[.pointer p,.int .u8 n] w fun e w'=>e=.returned (.tuple #[.int .u8 m,r])∧w=w':=by
 go_enter func333,ntmps333;go_wp2;go_ret2;exact⟨rfl,rfl⟩
theorem Zli{ms:List Int}{n:Nat}{y:Int}:pbs (ms.set n y)=(pbs ms).set n (decide (0<y)):=by unfold pbs;rw[List.map_set]
def Zxa(rg g:Nat)(ms:List Int):Nat→Prop:=fun k=>0<ms.length∧(k=rg∨k=g)
theorem Xw.store{w:World}{b rb rg g n:Nat}{ms:List Int}{y:Int}(h:Xw w b rb rg g ms)(hn:n<ms.length) :
  Z1 (w.setCell ⟨g,n,none⟩ (.int .u8 y)) rb rg (pbs ms)∧∀w',Chg (tch rg (pbs ms)) (w.setCell ⟨g,n,none⟩ (.int .u8 y)) w'→Z1 w' rb rg (pbs (ms.set n y))→0≤y∧y≤255→Xw w' b rb rg g (ms.set n y)∧Chg (Zxa rg g ms) w w':=by
 have hp:0<ms.length:=by omega
 obtain⟨a1,a2,a3,a4⟩:=h.apart hp;have c1:Chg (fun k=>k=g) w (w.setCell ⟨g,n,none⟩ (.int .u8 y)):=(Chg.refl (fun k=>k=g) w).setCell (p:=⟨g,n,none⟩) (.inl rfl) _;refine⟨h.row.chg c1 (fun e=>a2 e.symm) (fun _ e=>a3 e.symm),fun w' hc hr hy=>?_⟩;have C:Chg (Zxa rg g ms) w w':=(c1.mono fun k e=>⟨hp,.inr e⟩).trans (hc.mono fun k e=>⟨hp,.inl e.2⟩);obtain⟨a,cap,h1,h2,h3,h4,h5⟩:=h.ex;obtain⟨rfl,hf⟩:=h5 hp;obtain⟨_,_,e0,hc0⟩:=h2 0 hp;cases e0;have hl:g<w.heap.size:=Zj hc0;have nb:¬Zxa rg g ms b:=by rintro ⟨_,e|e⟩<;>omega
 refine⟨⟨C.cell nb h.head,⟨some ⟨g,0,none⟩,cap,by rw[List.length_set];exact C.cell nb h1,(h2.set hn y).chg hc fun x o e _ ⟨_,he⟩=>?_,by rw[List.length_set];exact h3,h4,fun _=>⟨rfl,fun o=>?_⟩⟩,hr,?_,fun _=>⟨a1,a2,a3,a4⟩,h.two⟩,C⟩
 ·cases e;exact a3 he
 ·rw[hc.frozen (p:=⟨g,o,none⟩) (Zy5 hl c1.size) (fun ⟨_,he⟩=>a3 he)];simpa using hf o
 ·intro x hx;rcases List.mem_or_eq_of_mem_set hx with hx|rfl
  ·exact h.small x hx
  ·exact hy
def Ty(less:Bool)(ms:List Int)(i:Int):List Int × Int:=
 if 0≤i∧i<ms.length then
  (if less then (if 0<nth ms i.toNat then (ms.set i.toNat (nth ms i.toNat-1),0) else (ms,140))
   else (if nth ms i.toNat<255 then (ms.set i.toNat (nth ms i.toNat+1),0) else (ms,140)))
 else (ms,2)
def Jj(b rb rg g:Nat)(ms ms':List Int)(q:Int)(w:World)(e:Ending)(w':World):Prop:=e=.returned (.int .i64 q)∧Xw w' b rb rg g ms'∧Chg (Zxa rg g ms) w w'
theorem Ma{b rb rg g:Nat}{i:Int}{v:Value}(ms:List Int){w:World}(h:Xw w b rb rg g ms)(hi:¬(0≤i∧i<ms.length)):Calls prog 331 #[b,.int .i64 i,v] w fun e w'=>e=.returned (.int .i64 2)∧w=w':=by
 have HN:=Za h.isNone;obtain⟨a,cap,h1,_⟩:=h.ex;clear h;by_cases h0:i<0
 ·clear hi;go_enter func331,ntmps331;go_wp2_with fail;refine(Xv false HN.out).zz ?_;go_wp2;go_ret;exact⟨rfl,rfl⟩
 ·have h2:0≤i:=by omega
  have h3:(ms.length:Int)≤i:=by omega
  clear hi h0;go_enter func331,ntmps331;go_wp2_with fail;refine(Xv false HN.out).zz ?_;go_wp2;go_ret;exact⟨rfl,rfl⟩
theorem Gf{b rb rg g:Nat}{i:Int}(ms ms':List Int)(q:Int){w:World}(h:Xw w b rb rg g ms)(hr:Ty false ms i=(ms',q)) :
  Calls prog 331 #[b,.int .i64 i,.func (.func 332) #[b] #[]] w (Jj b rb rg g ms ms' q w):=by
 by_cases hi:0≤i∧i<ms.length
 ·obtain⟨n,rfl⟩:=Int.eq_ofNat_of_zero_le hi.1;have hn:n<ms.length:=by omega
  unfold Ty at hr;rw[if_pos hi,Zy4] at hr;have H:=Za h;have HN:=Za h.isNone;have h0:=h.head;have sm:=h.small _ (Ov hn);obtain⟨a,cap,h1,h2,h3,h4,h5⟩:=h.ex;obtain⟨rfl,hf⟩:=h5 (by omega);have fz:=hf n;obtain⟨_,_,e0,hc⟩:=h2 n hn;cases e0;rw[Nat.zero_add] at hc;obtain⟨ga,gb,gc,gd⟩:=h.apart (by omega);clear h h2 h5 hf hi;by_cases ht:nth ms n<255
  ·rw[if_pos ht] at hr;cases hr
   generalize nth ms n=y at *
   obtain⟨d,hd⟩:=Zb (decide (0<y+1));have HD:=Za hd;have hd2:decide (1<y)=decide (0<y-1):=by congr 1;simp
   clear hd2;have ST:=Za (H.out.store (y:=y+1) hn);have M1:=Za (show IntKind.u8.wrap (y+1)=y+1 by rw[IntKind.wrap_u8];omega);have M2:=Za (show decide (y<255)=true by simpa using ht);have SS:=Za (Vt (bs:=pbs ms) (i:=n) (is:=d) (by rw[Lo];exact hn));have rc:(w.setCell ⟨g,n,none⟩ (.int .u8 (y+1))).cell? b=some (rb:Value):=by
    rw[cell_far _ _ _ _ (by exact ga)];exact h0
   go_enter func331,ntmps331;go_wp2_with fail;refine(Xv false HN.out).zz ?_;go_wp2_with fail;refine(Zap M1.out M2.out).zz ?_;go_wp2_with fail;refine(Pb (pbs ms) _ _ ST.out.1 SS.out).mono ?_;rintro e w2 ⟨rfl,hr2,hc2⟩;rw[←HD.out,←Zli] at hr2;have R2:=Za (ST.out.2 _ hc2 hr2 (by omega));clear hr2 hc2;go_wp2;go_ret;exact⟨rfl,R2.out.1,R2.out.2⟩
  ·rw[if_neg ht] at hr;cases hr
   generalize nth ms n=y at *
   obtain⟨m,hm⟩:=Zb (IntKind.u8.wrap (y+1));have M1:=Za hm;have M2:=Za (show decide (y<255)=false by simpa using ht);clear hm;go_enter func331,ntmps331;go_wp2_with fail;refine(Xv false HN.out).zz ?_;go_wp2_with fail;refine(Zap M1.out M2.out).zz ?_;go_wp2;go_ret;exact⟨rfl,H.out,Chg.refl _ _⟩
 ·have hq:Ty false ms i=(ms,2):=by unfold Ty;rw[if_neg hi]
  rw[hq] at hr;cases hr;exact(Ma ms h hi).mono fun _ _ ⟨h1,h2⟩=>⟨h1,h2▸h,h2▸Chg.refl _ _⟩
theorem Gg{b rb rg g:Nat}{i:Int}(ms ms':List Int)(q:Int){w:World}(h:Xw w b rb rg g ms)(hr:Ty true ms i=(ms',q)) :
  Calls prog 331 #[b,.int .i64 i,.func (.func 333) #[b] #[]] w (Jj b rb rg g ms ms' q w):=by
 by_cases hi:0≤i∧i<ms.length
 ·obtain⟨n,rfl⟩:=Int.eq_ofNat_of_zero_le hi.1;have hn:n<ms.length:=by omega
  unfold Ty at hr;rw[if_pos hi,Zy4] at hr;have H:=Za h;have HN:=Za h.isNone;have h0:=h.head;have sm:=h.small _ (Ov hn);obtain⟨a,cap,h1,h2,h3,h4,h5⟩:=h.ex;obtain⟨rfl,hf⟩:=h5 (by omega);have fz:=hf n;obtain⟨_,_,e0,hc⟩:=h2 n hn;cases e0;rw[Nat.zero_add] at hc;obtain⟨ga,gb,gc,gd⟩:=h.apart (by omega);clear h h2 h5 hf hi;by_cases ht:0<nth ms n
  ·rw[if_pos ht] at hr;cases hr
   generalize nth ms n=y at *
   obtain⟨d,hd⟩:=Zb (decide (0<y-1));have HD:=Za hd;have hd2:decide (1<y)=decide (0<y-1):=by congr 1;simp
   rw[hd] at hd2;have ST:=Za (H.out.store (y:=y-1) hn);have M1:=Za (show IntKind.u8.wrap (y-1)=y-1 by rw[IntKind.wrap_u8];omega);have M2:=Za (show decide (0<y)=true by simpa using ht);have SS:=Za (Vt (bs:=pbs ms) (i:=n) (is:=d) (by rw[Lo];exact hn));have rc:(w.setCell ⟨g,n,none⟩ (.int .u8 (y-1))).cell? b=some (rb:Value):=by
    rw[cell_far _ _ _ _ (by exact ga)];exact h0
   go_enter func331,ntmps331;go_wp2_with fail;refine(Xv false HN.out).zz ?_;go_wp2_with fail;refine(Zaq M1.out M2.out).zz ?_;go_wp2_with fail;refine(Pb (pbs ms) _ _ ST.out.1 SS.out).mono ?_;rintro e w2 ⟨rfl,hr2,hc2⟩;rw[←HD.out,←Zli] at hr2;have R2:=Za (ST.out.2 _ hc2 hr2 (by omega));clear hr2 hc2;go_wp2;go_ret;exact⟨rfl,R2.out.1,R2.out.2⟩
  ·rw[if_neg ht] at hr;cases hr
   generalize nth ms n=y at *
   obtain⟨m,hm⟩:=Zb (IntKind.u8.wrap (y-1));have M1:=Za hm;have M2:=Za (show decide (0<y)=false by simpa using ht);clear hm;go_enter func331,ntmps331;go_wp2_with fail;refine(Xv false HN.out).zz ?_;go_wp2_with fail;refine(Zaq M1.out M2.out).zz ?_;go_wp2;go_ret;exact⟨rfl,H.out,Chg.refl _ _⟩
 ·have hq:Ty true ms i=(ms,2):=by unfold Ty;rw[if_neg hi]
  rw[hq] at hr;cases hr;exact(Ma ms h hi).mono fun _ _ ⟨h1,h2⟩=>⟨h1,h2▸h,h2▸Chg.refl _ _⟩
section
structure Ent where
 st:Nat
 s:Int
 g:Int
def Zxb:Ent:=⟨0,0,0⟩
def Zx(l:List Ent)(i:Nat):Ent:=l.getD i Zxb
def Gh(l:List Ent)(i g:Int):Prop:=0≤i∧i<(l.length:Int)∧(Zx l i.toNat).st=1∧(Zx l i.toNat).g=g
instance(l:List Ent)(i g:Int):Decidable (Gh l i g):=by unfold Gh;infer_instance
def Nb(l:List Ent)(i g:Int):Int × Int:=if Gh l i g then ((Zx l i.toNat).s,0) else (0,130)
def Cj(l:List Ent):Option Nat:=(List.range l.length).find? fun i=>decide ((Zx l i).st=0)
def Lq(l:List Ent)(s:Int):List Ent × Int × Int × Int:=
 if s<0 then (l,0,0,2) else match Cj l with
  | some i=>(l.set i ⟨1,s,(Zx l i).g⟩,(i:Int),(Zx l i).g,0)
  | none=>(l,0,0,131)
def Gi(l:List Ent)(i g:Int):List Ent × Int × Int:=
 if Gh l i g then (l.set i.toNat ⟨2,(Zx l i.toNat).s,(Zx l i.toNat).g⟩,(Zx l i.toNat).s,0) else (l,0,130)
def Om(gens:Int)(e:Ent):Ent:=if e.st=2 then (if gens≤e.g then ⟨3,0,e.g⟩ else ⟨0,0,e.g+1⟩) else e
def Y4(gens:Int)(l:List Ent):List Ent:=l.map (Om gens)
def Ux(l:List Ent)(i:Int):Int × Bool:=if 0≤i∧i<(l.length:Int)∧(Zx l i.toNat).st=1 then ((Zx l i.toNat).s,true) else (0,false)
def Oo(l:List Ent)(k:Nat):Nat:=(l.filter fun e=>decide (e.st=k)).length
structure Pe where
 slot:Int
 fld:Int
 is:Bool
def Tk:Pe:=⟨0,0,false⟩
def Zq(l:List Pe)(k:Nat):Pe:=l.getD k Tk
def Ip(l:List Nat)(i:Nat):Nat:=l.getD i 0
structure MK where
 col:List Nat
 fl:Nat
 g:GS
 hs:List Pe
 root:Nat
 act:Bool
 steps:Nat
section
variable(c:Zh)(t n:Nat)(ws:List Int)(l:List Ent)(ms:List Int)
def Xi(m:MK)(s:Int):MK:=
 if 0≤s∧s<(nS c t:Int)∧Ip m.col s.toNat=0 then { m with col:=m.col.set s.toNat 1,g:=(Zck c t n m.g s).1 } else m
def Yf(m:MK)(s:Int):MK:=if 0≤s∧s<(nS c t:Int) then { m with col:=m.col.set s.toNat 2 } else m
def Xx(m:MK)(h:Pe):MK:=
 if (U2 c t ws h.slot h.fld).2=0∧0≤(U2 c t ws h.slot h.fld).1 then Xi c t n m (U2 c t ws h.slot h.fld).1 else m
def St(m:MK)(k:Nat):MK:=
 if (Zz c t ws (Zq m.hs k).slot).2≠0∨(Zz c t ws (Zq m.hs k).slot).1.r≤(Zq m.hs k).fld+1 then
  { Yf c t (Xx c t n ws m (Zq m.hs k)) (Zq m.hs k).slot with hs:=m.hs.set k Tk }
 else { Xx c t n ws m (Zq m.hs k) with hs:=m.hs.set k ⟨(Zq m.hs k).slot,(Zq m.hs k).fld+1,true⟩ }
def Xy:Nat:=l.length+nS c t
def Qb(i:Nat):Int × Bool:=if i<l.length then Ux l i else ((i:Int)-l.length,decide (0<Lp ms ((i:Int)-l.length)))
def Lr(m:MK):MK × Bool:=
 if m.root=Xy c t l then (m,false)
 else ({ (if (Qb l ms m.root).2 then Xi c t n m (Qb l ms m.root).1 else m) with root:=m.root+1 },true)
def Ls(m:MK)(k:Nat):MK × Bool:=
 if (Rb m.g).2.2 then ({ m with g:=(Rb m.g).1,hs:=m.hs.set k ⟨(Rb m.g).2.1,0,true⟩ },true) else (m,false)
def Ky(m:MK)(k:Nat):MK × Bool:=
 ({ m with g:=(Qa c t m.g).1,hs:=if (Qa c t m.g).2.2.1 then m.hs.set k ⟨(Qa c t m.g).2.1,0,true⟩ else m.hs },(Qa c t m.g).2.2.2)
def mDo(m:MK)(k:Nat)(micro:Int):MK × Bool:=
 if micro=1 then Lr c t n l ms m
 else if micro=3 then (if (Zq m.hs k).is then (St c t n ws m k,true) else (m,false))
 else if (Zq m.hs k).is then (m,false)
 else if micro=2 then Ls m k else Ky c t m k
def Yy(m:MK)(hand micro:Int):MK × Bool:=
 if m.act∧0≤hand∧hand<(m.hs.length:Int)∧1≤micro∧micro≤4 then
  (if (mDo c t n ws l ms m hand.toNat micro).2 then ({ (mDo c t n ws l ms m hand.toNat micro).1 with steps:=m.steps+1 },true) else (m,false))
 else (m,false)
def Gj(m:MK):Option Nat:=(List.range m.hs.length).find? fun k=>(Zq m.hs k).is
def Tl(m:MK):MK × Bool:=
 if m.act then
  match Gj m with
  | some k=>Yy c t n ws l ms m k 3
  | none=>
   if (Yy c t n ws l ms m ((m.hs.length:Int)-1) 2).2 then Yy c t n ws l ms m ((m.hs.length:Int)-1) 2
   else if (Yy c t n ws l ms m ((m.hs.length:Int)-1) 1).2 then Yy c t n ws l ms m ((m.hs.length:Int)-1) 1
   else Yy c t n ws l ms m ((m.hs.length:Int)-1) 4
 else (m,false)
def Tz(m:MK):Bool:=m.act&&(Gj m).isNone&&decide (m.root=Xy c t l)&&N5 m.g
def Rd(m:MK):MK:=⟨List.replicate (nS c t) 0,m.fl+1,Ql c t,List.replicate m.hs.length Tk,0,true,0⟩
end
structure SW where
 d:List Bool
 at_:Nat
 act:Bool
def Qn(s:SW):Bool:=s.act&&decide (s.at_=s.d.length)
structure CY where
 ws:List Int
 bs:List Bool
 l:List Ent
 ms:List Int
 m:MK
 s:SW
 ph:Nat
 steps:Nat
section
variable(c:Zh)(t n:Nat)(gens wk:Int)
def sStep(y:CY):CY × Bool:=
 if y.s.act∧y.s.at_≠y.s.d.length then
  (if Zu y.bs y.s.at_∧Ip y.m.col y.s.at_=0 then
   ({ y with ws:=(Uu c t y.ws (y.s.at_:Int)).1,s:=⟨y.s.d.set y.s.at_ true,y.s.at_+1,true⟩ },true)
   else ({ y with s:=⟨y.s.d,y.s.at_+1,true⟩ },true))
 else (y,false)
def Tf(y:CY):CY:=if y.ph=0 then { y with m:=Rd c t y.m,ph:=1,steps:=0 } else y
def Mb(y:CY):CY:=
 if y.ph=1∧Tz c t y.l y.m=true then
  (if Qn { y.s with act:=true } then { y with s:={ y.s with act:=true },ph:=3 } else { y with s:={ y.s with act:=true },ph:=2 })
 else if y.ph=2∧Qn y.s then { y with ph:=3 } else y
def Nc(r:CY × Bool):CY × Bool:=if r.2 then (Mb c t { r.1 with steps:=r.1.steps+1 },true) else r
def Qm(y:CY)(hand micro:Int):CY × Bool:=
 if y.ph=1 then ({ y with m:=(Yy c t n y.ws y.l y.ms y.m hand micro).1 },(Yy c t n y.ws y.l y.ms y.m hand micro).2)
 else if y.ph=2∧micro=5∧0≤hand∧hand≤wk then sStep c t y else (y,false)
def T5(y:CY):CY × Bool:=
 if y.ph=1 then ({ y with m:=(Tl c t n y.ws y.l y.ms y.m).1 },(Tl c t n y.ws y.l y.ms y.m).2)
 else if y.ph=2 then sStep c t y else (y,false)
def Re(y:CY)(hand micro:Int):CY × Bool:=Nc c t (Qm c t n wk y hand micro)
def Vn(y:CY):CY × Bool:=Nc c t (T5 c t n y)
def Kz:Nat→CY→CY × Nat
 | 0,y=>(y,0)
 | k+1,y=>if (Vn c t n y).2 then ((Kz k (Vn c t n y).1).1,(Kz k (Vn c t n y).1).2+1) else (y,0)
def Xl(y:CY):CY:=
 if y.ph=3 then
  { y with bs:=(Wz y.bs y.s.d).1,s:=⟨List.replicate y.s.d.length false,0,false⟩,l:=Y4 gens y.l,m:={ y.m with act:=false },ph:=0 }
 else y
def Y5(y:CY)(s:Int):CY:=if y.ph=1∧y.m.act then { y with m:=Xi c t n y.m s } else y
def Mc(y:CY)(s:Int):CY:=if y.m.act then { y with m:=Yf c t y.m s } else y
end
structure PC where
 tr:Int
 sst:Int
 since:Int
 total:Int
 debt:Int
 cyc:Int
 act:Bool
def Zdg(p:PC)(n:Int):PC × Int:=
 if p.since+n<p.tr then ({ p with since:=p.since+n,total:=p.total+n,debt:=if p.act then p.debt+n*p.sst else p.debt },0)
 else ({ p with since:=0,total:=p.total+n,debt:=if p.act then p.debt+n*p.sst else p.debt },if p.act then 2 else 1)
def Zar(p:PC):PC:=if p.act then p else { p with act:=true,since:=0,debt:=0 }
def Zwa(p:PC):PC:=if p.act then { p with act:=false,since:=0,debt:=0,cyc:=p.cyc+1 } else p
def Zlj(p:PC)(n:Int):PC:={ p with debt:=if p.debt≤n then 0 else p.debt-n }
structure HP where
 y:CY
 p:PC
 work:Nat
structure Sn where
 e:Int
 h:Int
 w:Int
 addr:Int
 used:Int
 since:Int
 cyc:Int
 act:Bool
def Z9(e:Int):Sn:=⟨e,0,0,0,0,0,0,false⟩
structure OpI where
 code:Int
 h:Int
 a:Int
 b:Int
 v:Int
def Zub(c:Zh)(t:Nat)(bs:List Bool)(k:Nat):Option Nat:=(List.range (nS c t)).find? fun s=>decide (sS c t k≤(s:Int)∧(s:Int)<sS c t (k+1))&&!Zu bs s
def Qo(c:Zh)(t:Nat)(bs:List Bool)(k:Nat):List Bool × Int × Int:=match Zub c t bs k with
 | some s=>(bs.set s true,(s:Int),0)
 | none=>(bs,0,6)
section
variable(c:Zh)(t n:Nat)(gens wk:Int)(F:Nat)
def quo:Int:=(Vg c.ts t).q
def Vi(x:HP):HP:={ x with y:=Tf c t x.y,p:=Zar x.p }
def Ck(x:HP):HP:=⟨Xl gens (Kz c t n F x.y).1,Zwa x.p,x.work+(Kz c t n F x.y).2⟩
def Vj(is:CY→Bool)(x:HP):HP:=if is x.y=false∧x.y.ph≠0 then Ck c t n gens F x else x
def T6(is:CY→Bool)(x:HP):HP:=
 if is (Vj c t n gens F is x).y=false then Ck c t n gens F (Vi c t (Vj c t n gens F is x)) else Vj c t n gens F is x
def Xz(y:CY):Bool:=decide (0<Oo y.l 0)
def Qc(size:Int)(y:CY):Bool:=decide (Xh c t y.bs+size≤quo c t)
def Vc(y:CY)(u:Int):Int × Bool:=
 if (Ln u).2=0∧(Ln u).1.t=(t:Int) then ((Nb y.l (Ln u).1.i (Ln u).1.g).1,decide ((Nb y.l (Ln u).1.i (Ln u).1.g).2=0)) else (0,false)
def Qq(x:HP)(s:Int):HP × Int:=({ x with y:={ x.y with l:=(Lq x.y.l s).1 } },(Zvq ⟨t,(Lq x.y.l s).2.1,(Lq x.y.l s).2.2.1⟩).1)
def Vd:Nat→HP→HP
 | 0,x=>x
 | k+1,x=>if 0<x.p.debt∧(Vn c t n x.y).2=true then Vd k ⟨(Vn c t n x.y).1,Zlj x.p 1,x.work+1⟩ else x
def Pf(x:HP)(k:Int):HP:=
 let z:=Vd c t n F { x with p:=(Zdg x.p k).1 }
 if (Zdg x.p k).2=1 then Vi c t z else if (Zdg x.p k).2=2 then Ck c t n gens F z else z
def Ve(s:Int):Int:=if bIn c t s then bAd c t s else 0
def T7(x:HP)(k:Nat)(h:Hd):HP × Int:=
 ({ x with y:=Mc c t { x.y with bs:=(Qo c t x.y.bs k).1,ws:=(Ug c t x.y.ws (Qo c t x.y.bs k).2.1 h).1 } (Qo c t x.y.bs k).2.1 },(Qo c t x.y.bs k).2.1)
def Ys(x:HP)(a b:Int):HP × Sn:=
 if (Xg ⟨0,a,b⟩).2≠0 then (x,Z9 50)
 else if (cof c.cl (Xg ⟨0,a,b⟩).1).2≠0 then (x,Z9 50)
 else
  let k:=(cof c.cl (Xg ⟨0,a,b⟩).1).1
  let size:=nth c.cl k.toNat
  let x1:=T6 c t n gens F (fun y=>Qc c t size y&&Xz y) x
  if Qc c t size x1.y=false then (x1,Z9 100)
  else if Xz x1.y=false then (x1,Z9 131)
  else
   let x2:=T7 c t x1 k.toNat ⟨k,a,b⟩
   let x3:=Qq t x2.1 x2.2
   (Pf c t n gens F x3.1 size,⟨0,x3.2,0,Ve c t x2.2,0,0,0,false⟩)
def Xa(y:CY)(s i:Int):Bool × Int:=U5 (Zz c t y.ws s).1 i
def Su(x:HP)(a s:Int):HP × Sn:=
 if (Xa c t x.y s a).2≠0 then (x,Z9 (Xa c t x.y s a).2)
 else if (Xa c t x.y s a).1=false then (x,⟨0,0,(Zhh c t x.y.ws s a).1,0,0,0,0,false⟩)
 else
  let to:=(U2 c t x.y.ws s a).1
  if to<0 then (x,Z9 0)
  else
   let x1:=T6 c t n gens F Xz x
   if Xz x1.y=false then (x1,Z9 131)
   else
    let x2:=Qq t { x1 with y:=Y5 c t n x1.y to } to
    (x2.1,⟨0,x2.2,0,0,0,0,0,false⟩)
def Ym(y:CY)(s:Int):CY:=if 0≤s then Y5 c t n y s else y
def Wu(x:HP)(a v s:Int):HP × Sn:=
 if (Xa c t x.y s a).2≠0 then (x,Z9 (Xa c t x.y s a).2)
 else if (Xa c t x.y s a).1=false then ({ x with y:={ x.y with ws:=(Jf c t x.y.ws s a v).1 } },Z9 (Jf c t x.y.ws s a v).2)
 else if v≠0∧(Vc t x.y v).2=false then (x,Z9 130)
 else
  let to:=if v=0 then -1 else (Vc t x.y v).1
  let y1:=Ym c t n (Ym c t n x.y (U2 c t x.y.ws s a).1) to
  ({ x with y:={ y1 with ws:=(Ry c t y1.ws s a to).1 } },Z9 (Ry c t y1.ws s a to).2)
def K5(x:HP)(s:Int):HP × Sn:=({ x with y:={ x.y with ms:=(Ty false x.y.ms s).1 } },Z9 (Ty false x.y.ms s).2)
def Wm(x:HP)(s:Int):HP × Sn:=
 if Lp x.y.ms s=0 then (x,Z9 140)
 else ({ x with y:={ Y5 c t n x.y s with ms:=(Ty true x.y.ms s).1 } },Z9 (Ty true x.y.ms s).2)
def Md(x:HP)(u s:Int):HP × Sn:=
 ({ x with y:={ Y5 c t n x.y s with l:=(Gi x.y.l (Ln u).1.i (Ln u).1.g).1 } },Z9 (Gi x.y.l (Ln u).1.i (Ln u).1.g).2.2)
def Yi(f:Int)(x:HP)(o:OpI):HP × Sn:=
 if o.code<1∨7<o.code then (x,Z9 250)
 else if o.code=1 then Ys c t n gens F x o.a o.b
 else if (Vc t x.y o.h).2=false then (x,Z9 130)
 else
  let s:=(Vc t x.y o.h).1
  let r:HP × Sn:=if o.code=2 then Su c t n gens F x o.a s else if o.code=3 then Wu c t n x o.a o.v s else if o.code=4 then K5 x s
   else if o.code=5 then Wm c t n x s else if o.code=6 then Md c t n x o.h s else (x,⟨0,0,f,0,0,0,0,false⟩)
  (r.1,{ r.2 with addr:=Ve c t s })
def m31(x:Int):Int:=if 2147483647<x then 2147483647 else x
def hDo(f:Int)(x:HP)(o:OpI):HP × Sn:=
 let r:=Yi c t n gens F f { x with work:=0 } o
 (r.1,{ (if r.2.e≠0 then Z9 r.2.e else r.2) with used:=Xh c t r.1.y.bs,since:=m31 r.1.p.since,cyc:=m31 r.1.p.cyc,act:=r.1.p.act })
end
end
section
def Se(f:Nat→Nat):Nat→Nat
 | 0=>0
 | n+1=>Se f n+f n
theorem Cl{f g:Nat→Nat}:∀n,(∀i,i<n→f i≤g i)→Se f n≤Se g n
 | 0,_=>Zy1 _
 | n+1,h=>by
  have:=Cl n fun i hi=>h i (by omega)
  have:=h n (by omega);show Se f n+f n≤Se g n+g n
  omega
theorem Rf{f g:Nat→Nat}:∀n,(∀i,i<n→f i=g i)→Se f n=Se g n
 | 0,_=>rfl
 | n+1,h=>by
  have:=Rf n fun i hi=>h i (by omega)
  have:=h n (by omega);show Se f n+f n=Se g n+g n
  omega
theorem Px{f g:Nat→Nat}{i:Nat}:∀n,i<n→(∀j,j≠i→g j=f j)→Se g n+f i=Se f n+g i
 | 0,h,_=>absurd h (Zzb _)
 | n+1,h,hj=>by
  show Se g n+g n+f i=Se f n+f n+g i
  by_cases e:i=n
  ·subst e;have:=Rf (f:=f) (g:=g) i fun k hk=>(hj k (by omega)).symm
   omega
  ·have:=Px n (by omega) hj;have:=hj n (Ne.symm e);omega
theorem Uj(k:Nat):∀n,Se (fun _=>k) n=k*n
 | 0=>rfl
 | n+1=>by show Se (fun _=>k) n+k=_;rw[Uj k n,Nat.mul_succ]
theorem Zfp(f g:Nat→Nat):∀n,Se (fun i=>f i+g i) n=Se f n+Se g n
 | 0=>rfl
 | n+1=>by show Se _ n+(f n+g n)=_;rw[Zfp f g n];show _=Se f n+f n+(Se g n+g n);omega
theorem Fl(f:Nat→Nat)(a:Nat):∀n,Se f (a+n)=Se f a+Se (fun i=>f (a+i)) n
 | 0=>rfl
 | n+1=>by show Se f (a+n)+f (a+n)=_;rw[Fl f a n];show _=Se f a+(Se (fun i=>f (a+i)) n+f (a+n));omega
variable{c:Zh}{t n:Nat}{ws:List Int}{l:List Ent}{ms:List Int}
def szN(c:Zh)(t s:Nat):Nat:=(bSz c t (s:Int)).toNat
theorem Me(ho:KOk c)(ht:t<c.ts.length){s:Nat}(h:s<nS c t):(szN c t s:Int)=bSz c t s∧2≤szN c t s∧szN c t s≤64:=by
 have sb:=Xt ho ht (s:=(s:Int)) ⟨by omega,by omega⟩;have:=sb.s2;have:=sb.s64;unfold szN;omega
theorem Mf{col:List Nat}{i j v:Nat}(h:i<col.length):Ip (col.set i v) j=if j=i then v else Ip col j:=by
 unfold Ip;by_cases e:j=i
 ·subst e;simp[h]
 ·rw[if_neg e];simp[List.getD,List.getElem?_set,Ne.symm e]
theorem Jk(n i:Nat):Ip (List.replicate n 0) i=0:=by
 unfold Ip;by_cases h:i<n
 ·simp[List.getD,h]
 ·simp[List.getD,h]
theorem Rg{hs:List Pe}{i j:Nat}{v:Pe}(h:i<hs.length):Zq (hs.set i v) j=if j=i then v else Zq hs j:=by
 unfold Zq;by_cases e:j=i
 ·subst e;simp[h]
 ·rw[if_neg e];simp[List.getD,List.getElem?_set,Ne.symm e]
theorem Rh(n i:Nat):Zq (List.replicate n Tk) i=Tk:=by
 unfold Zq;by_cases h:i<n
 ·simp[List.getD,h]
 ·simp[List.getD,h]
theorem Zas{hs:List Pe}{i:Nat}(h:hs.length≤i):Zq hs i=Tk:=by unfold Zq;simp[h]
def Zat(c:Zh)(t:Nat)(col:List Nat):Nat:=Se (fun s=>if Ip col s=0 then 33+szN c t s else 0) (nS c t)
def Ztb(c:Zh)(t:Nat):List Int→Nat
 | []=>0
 | x :: r=>1+szN c t x.toNat+Ztb c t r
def Zp0(c:Zh)(t:Nat)(ow:List Bool):Nat:=Se (fun s=>if Zu ow s then szN c t s else 0) (nS c t)
def Zp1(c:Zh)(t:Nat)(di:List Bool):Nat:=Se (fun p=>if Zu di p then 32 else 0) (nG c t)
def hw(c:Zh)(t:Nat)(h:Pe):Nat:=if h.is then szN c t h.slot.toNat-h.fld.toNat else 0
def Ztc(c:Zh)(t:Nat):List Pe→Nat
 | []=>0
 | h :: r=>hw c t h+Ztc c t r
def Zdh(c:Zh)(t:Nat)(g:GS):Nat:=Ztb c t g.q+Zp0 c t g.ow+Zp1 c t g.di+(g.en-g.at_)
def Sf(c:Zh)(t:Nat)(l:List Ent)(m:MK):Nat:=(Xy c t l-m.root)+Zat c t m.col+Zdh c t m.g+Ztc c t m.hs
theorem Zlk(q:List Int)(x:Int):Ztb c t (q++[x])=Ztb c t q+(1+szN c t x.toNat):=by
 induction q with
 | nil=>simp[Ztb]
 | cons y r ih=>simp only[List.cons_append,Ztb,ih];omega
theorem Jl{hs:List Pe}{k:Nat}{h:Pe}(hk:k<hs.length):Ztc c t (hs.set k h)+hw c t (Zq hs k)=Ztc c t hs+hw c t h:=by
 induction hs generalizing k with
 | nil=>simp at hk
 | cons y r ih=>
  cases k with
  | zero=>simp[Ztc,Zq,List.getD];omega
  | succ k=>
   have:=ih (k:=k) (by simpa using hk);simp only[List.set_cons_succ,Ztc];have e:Zq (y :: r) (k+1)=Zq r k:=rfl;rw[e];omega
theorem Zp2(n:Nat):Ztc c t (List.replicate n Tk)=0:=by
 induction n with
 | zero=>rfl
 | succ n ih=>rw[List.replicate_succ];show hw c t Tk+Ztc c t (List.replicate n Tk)=0;rw[ih];rfl
def DOk(c:Zh)(t:Nat)(g:GS):Prop:=∀s,s<nS c t→Zu g.ow s=true→Zu g.di (pgN c t s)=true∨(g.at_≤s∧s<g.en)
def Ztd(c:Zh)(t:Nat)(h:Pe):Prop:=h.is=true→∃s f:Nat,h.slot=s∧h.fld=f∧s<nS c t∧f+1≤szN c t s
structure MOk(c:Zh)(t n:Nat)(l:List Ent)(m:MK):Prop where
 cl:m.col.length=nS c t
 g:GOk c t n m.g
 d:DOk c t m.g
 hd:∀k,Ztd c t (Zq m.hs k)
 rt:m.root≤Xy c t l
structure Zdi(L:Nat→Prop)(g:GS):Prop where
 q:∀x∈g.q,¬L x.toNat
 ow:∀s,Zu g.ow s=true→¬L s
structure Wv(c:Zh)(t:Nat)(L:Nat→Prop)(m:MK):Prop where
 w:∀s,L s→s<nS c t∧Ip m.col s=0
 g:Zdi L m.g
 h:∀k,(Zq m.hs k).is=true→¬L (Zq m.hs k).slot.toNat
theorem Zfq{g:GS}(ho:KOk c)(ht:t<c.ts.length)(hg:GOk c t n g)(h:DOk c t g)(s:Int):DOk c t (Zck c t n g s).1:=by
 unfold Zck;split
 ·exact h
 ·rename_i hs;split
  ·exact h
  ·have hsl:s.toNat<nS c t:=by omega
   have sf:=Cb ho ht hsl;intro x hx hb
   try simp only at hb ⊢
   rw[Z8 (by rw[hg.ol];exact hsl)] at hb;rw[Z8 (by rw[hg.dl];exact sf.lt)];by_cases e:x=s.toNat
   ·subst e;exact .inl (by simp)
   ·rw[if_neg e] at hb;rcases h x hx hb with q|q
    ·left;split
     ·rfl
     ·exact q
    ·exact .inr q
theorem Zp3{g:GS}(ho:KOk c)(ht:t<c.ts.length)(hg:GOk c t n g){s:Nat}(hs:s<nS c t):Zdh c t (Zck c t n g s).1≤Zdh c t g+(33+szN c t s):=by
 unfold Zck;rw[if_neg (by omega)];split
 ·unfold Zdh;(try simp only);rw[Zlk];simp;omega
 ·have sf:=Cb ho ht hs;unfold Zdh Zp0 Zp1;simp only[Zy4];have h1:=Px (f:=fun x=>if Zu g.ow x then szN c t x else 0) (g:=fun x=>if Zu (g.ow.set s true) x then szN c t x else 0) (nS c t) hs (fun j hj=>by
   (try simp only);rw[Z8 (by rw[hg.ol];exact hs),if_neg hj])
  have h2:=Px (f:=fun x=>if Zu g.di x then 32 else 0) (g:=fun x=>if Zu (g.di.set (pgN c t s) true) x then 32 else 0) (nG c t) sf.lt (fun j hj=>by
   (try simp only);rw[Z8 (by rw[hg.dl];exact sf.lt),if_neg hj])
  try simp only at h1 h2
  have e1:(if Zu (g.ow.set s true) s=true then szN c t s else 0)≤szN c t s:=by split<;>omega
  have e2:(if Zu (g.di.set (pgN c t s) true) (pgN c t s)=true then 32 else 0)≤32:=by split<;>omega
  omega
theorem Zll{g:GS}{L:Nat→Prop}(h:Zdi L g){s:Int}(hs:¬L s.toNat):Zdi L (Zck c t n g s).1:=by
 unfold Zck;split
 ·exact h
 ·split
  ·refine⟨fun x hx=>?_,h.ow⟩;rcases List.mem_append.1 hx with hx|hx
   ·exact h.q x hx
   ·obtain rfl:=List.mem_singleton.1 hx;exact hs
  ·refine⟨h.q,fun x hx=>?_⟩
   try simp only at hx
   by_cases hl:s.toNat<g.ow.length
   ·rw[Z8 hl] at hx;split at hx
    ·rename_i e;rw[e];exact hs
    ·exact h.ow x hx
   ·rw[List.set_eq_of_length_le (by omega)] at hx;exact h.ow x hx
theorem Fm{col:List Nat}{s v:Nat}(hl:col.length=nS c t)(hs:s<nS c t)(hv:v≠0):Zat c t (col.set s v)+(if Ip col s=0 then 33+szN c t s else 0)=Zat c t col:=by
 unfold Zat;have h1:=Px (f:=fun x=>if Ip col x=0 then 33+szN c t x else 0) (g:=fun x=>if Ip (col.set s v) x=0 then 33+szN c t x else 0) (nS c t) hs (fun j hj=>by
  (try simp only);rw[Mf (by omega),if_neg hj])
 try simp only at h1
 have e:Ip (col.set s v) s=v:=by rw[Mf (by omega),if_pos rfl]
 rw[e,if_neg hv] at h1;omega
theorem Mg{m:MK}(ho:KOk c)(ht:t<c.ts.length)(h:MOk c t n l m)(s:Int):MOk c t n l (Xi c t n m s)∧Sf c t l (Xi c t n m s)≤Sf c t l m:=by
 unfold Xi;split
 ·rename_i hs;obtain⟨x,rfl⟩:∃x:Nat,s=x:=⟨s.toNat,by omega⟩;have hx:x<nS c t:=by omega
  simp only[Zy4] at hs ⊢;refine⟨⟨by simp[h.cl],Zdc h.g x,Zfq ho ht h.g h.d x,h.hd,h.rt⟩,?_⟩;have h1:=Fm (v:=1) h.cl hx (by decide);rw[if_pos hs.2.2] at h1;have h2:=Zp3 ho ht h.g hx;unfold Sf;(try simp only);omega
 ·exact⟨h,Zy1 _⟩
theorem Nd{m:MK}{L:Nat→Prop}(hl:m.col.length=nS c t)(h:Wv c t L m){s:Int}(hs:¬L s.toNat):Wv c t L (Xi c t n m s):=by
 unfold Xi;split
 ·rename_i hc;refine⟨fun x hx=>⟨(h.w x hx).1,?_⟩,Zll h.g hs,h.h⟩
  try simp only
  rw[Mf (by omega),if_neg (fun e=>hs (by rw[←e];exact hx))];exact(h.w x hx).2
 ·exact h
theorem Wx(m:MK)(s:Int):(Xi c t n m s).hs=m.hs∧(Xi c t n m s).root=m.root∧(Xi c t n m s).act=m.act∧(Xi c t n m s).steps=m.steps∧(Xi c t n m s).fl=m.fl:=by
 unfold Xi;split<;>exact⟨rfl,rfl,rfl,rfl,rfl⟩
theorem Mh{m:MK}(h:MOk c t n l m)(s:Int):MOk c t n l (Yf c t m s)∧Sf c t l (Yf c t m s)≤Sf c t l m:=by
 unfold Yf;split
 ·rename_i hs;refine⟨⟨by simp[h.cl],h.g,h.d,h.hd,h.rt⟩,?_⟩;have h1:=Fm (s:=s.toNat) (v:=2) h.cl (by omega) (by decide);unfold Sf;(try simp only);omega
 ·exact⟨h,Zy1 _⟩
theorem Iq{m:MK}{L:Nat→Prop}(hl:m.col.length=nS c t)(h:Wv c t L m){s:Int}(hs:¬L s.toNat):Wv c t L (Yf c t m s):=by
 unfold Yf;split
 ·rename_i hc;refine⟨fun x hx=>⟨(h.w x hx).1,?_⟩,h.g,h.h⟩
  try simp only
  rw[Mf (by omega),if_neg (fun e=>hs (by rw[←e];exact hx))];exact(h.w x hx).2
 ·exact h
theorem T8(m:MK)(s:Int):(Yf c t m s).hs=m.hs∧(Yf c t m s).root=m.root∧(Yf c t m s).act=m.act∧(Yf c t m s).g=m.g∧(Yf c t m s).fl=m.fl:=by
 unfold Yf;split<;>exact⟨rfl,rfl,rfl,rfl,rfl⟩
theorem MOk.hand{m:MK}{hs:List Pe}(h:MOk c t n l m)(e:m.hs=hs){k:Nat}(hk:k<hs.length){v:Pe}(hv:Ztd c t v):MOk c t n l { m with hs:=hs.set k v }:=by
 subst e;exact⟨h.cl,h.g,h.d,fun j=>by (try simp only);rw[Rg hk];split;exact hv;exact h.hd j,h.rt⟩
theorem Wv.hand{m:MK}{hs:List Pe}{L:Nat→Prop}(h:Wv c t L m)(e:m.hs=hs){k:Nat}(hk:k<hs.length){v:Pe}(hv:v.is=true→¬L v.slot.toNat):Wv c t L { m with hs:=hs.set k v }:=by
 subst e;exact⟨h.w,h.g,fun j=>by (try simp only);rw[Rg hk];split;exact hv;exact h.h j⟩
theorem Zlm:Ztd c t Tk:=fun e=>by cases e
end
end Go.Proofs.YtfcldaembdedjaaGreatDoor
