/-
  Parts of the proof of TopCycles: Ref15, Lost, Edg, Edges, LostW, TopL, TopS, TopE, Put, Put2, AwkP.
-/
import Derived.Test.YtfcldaembdedjaaGreatDoorQ16
set_option linter.unusedVariables false
set_option linter.unusedSimpArgs false
set_option maxRecDepth 100000
set_option maxHeartbeats 16000000
namespace Go.Proofs.YtfcldaembdedjaaGreatDoor
open Go.RowKit Tryz
section
variable{w w':World}
theorem Zof{a:Option Addr}{cap:Nat}(xs:List Int){n:Int}{b:Bool}(hb:xs.any (fun x=>x==n)=b)(h:At .i64 w a xs)(hl:xs.length≤1000000):Calls prog 119 #[.slice a xs.length cap,.int .i64 n] w fun e w'=>e=.returned (.bool b)∧w=w':=by
 obtain⟨N,hN⟩:=Zb (xs.length);have H:=Za h;have HB:=Za hb;have HN:=Za hN;rw[hN] at hl ⊢;clear h hb hN;go_enter func119,ntmps119;go_wp2_with fail
 go_loopw [5] (fun iv wr=>∃k:Nat,k≤N∧iv=.int .i64 (k:Int)∧Hid ((xs.drop k).any (fun x=>x==n)=b)∧w=wr) (fun iv _=>N-(intOf iv).toNat)
 case atStart=>exact⟨0,Nat.zero_le _,rfl,HB,rfl⟩
 case round=>
  obtain⟨k,hk,rfl,HR,rfl⟩:=hrel;by_cases hlt:k<N
  ·obtain⟨x,o,rfl,hc⟩:=H.out k (by rw[HN.out];exact hlt);have hr:=HR.out;rw[Ps xs k (by rw[HN.out];exact hlt),List.any_cons] at hr
   generalize nth xs k=u at *
   cases q:u==n
   ·rw[q,Bool.false_or] at hr;have HR2:=Za hr;clear hr HR;go_wp2;go_roundw
    case rel=>exact⟨k+1,by omega,by go_num,HR2,trivial⟩
    case measure=>simp[intOf];omega
   ·rw[q,Bool.true_or] at hr;subst hr;clear HR HB;go_wp2;go_ret;exact⟨rfl,rfl⟩
  ·obtain rfl:k=N:=by omega
   have hr:=HR.out;rw[Zo3 (by have:=HN.out;omega)] at hr;clear HR;go_wp2;go_ret;exact⟨by rw[←hr];rfl,rfl⟩
def Zxe(w:World)(a:Option Addr)(gs:List (List Int)):Prop:=
 ∀i,i<gs.length→∃b o r cap,a=some ⟨b,o,none⟩∧w.cell? ⟨b,o+i,none⟩=some (.slice r (Gu gs i).length cap)∧At .i64 w r (Gu gs i)∧(Gu gs i).length≤1000000
theorem Ew{d N:Nat}(h:d<N):(List.range N).drop d=d :: (List.range N).drop (d+1):=by
 rw[List.drop_eq_getElem_cons (by simpa using h)];simp
theorem Hz{α:Type}{xs:List α}{k:Nat}(h:xs.length≤k):xs.drop k=[]:=List.drop_of_length_le h
structure Zst(w wr:World)(g N:Nat)(o:List Int):Prop where
 row:At .i64 wr (some ⟨g,0,none⟩) o
 len:o.length=N
 fz:∀j,wr.frozen? ⟨g,j,none⟩=false
 lo:w.heap.size≤g
 x:Ext w wr
theorem Zst.set{wr:World}{g N j:Nat}{o:List Int}(h:Zst w wr g N o)(hj:j<N)(v:Int):Zst w (wr.setCell ⟨g,j,none⟩ (.int .i64 v)) g N (o.set j v):=
 ⟨h.row.set (by rw[h.len];exact hj) v,by rw[List.length_set];exact h.len,fun k=>by rw[World.frozen?_setCell];exact h.fz k,h.lo,h.x.setCell h.lo _⟩
theorem Zst.cell{wr:World}{g N j:Nat}{o:List Int}(h:Zst w wr g N o)(hj:j<N):wr.cell? ⟨g,j,none⟩=some (.int .i64 (nth o j)):=by
 obtain⟨b,p,e,c⟩:=h.row j (by rw[h.len];exact hj);cases e
 rwa [Nat.zero_add] at c
def Gv(fr:List Int)(k:Nat):List Int:=(List.range k).map fun (n:Nat)=>if fr.any (fun x=>x==(n:Int)) then 0 else -1
theorem Zjq(fr:List Int)(k:Nat):Gv fr (k+1)=Gv fr k++[if fr.any (fun x=>x==(k:Int)) then 0 else -1]:=by unfold Gv;rw[List.range_succ,List.map_append];rfl
theorem Zog(fr:List Int)(k:Nat):(Gv fr k).length=k:=by unfold Gv;simp
theorem Zca{ga fa:Option Addr}{gc fc:Nat}(gs:List (List Int))(fr:List Int)(hg:Zxe w ga gs)(hf:At .i64 w fa fr)(hfl:fr.length≤1000000)(h1:1≤gs.length)(h2:gs.length≤65536) :
  Calls prog 87 #[.slice ga gs.length gc,.slice fa fr.length fc] w fun e w'=>∃a cap,e=.returned (.slice a gs.length cap)∧At .i64 w' a (V7 gs fr)∧(V7 gs fr).length=gs.length∧Ext w w':=by
 obtain⟨i0,hi0,hz0,hz1,hz2⟩:=info_parts Id;obtain⟨N,hN⟩:=Zb (gs.length);have HG:=Za hg;have HF:=Za hf;have HN:=Za hN;have HAS:=Za (fun (W:World) (x:Ext w W) (k:Nat) (b:Bool) (e:fr.any (fun x=>x==(k:Int))=b)=>Zof (cap:=fc) fr e (hf.ext x) hfl);rw[hN] at h1 h2 ⊢;obtain⟨R,hR⟩:=Zb (V7 gs fr);have HR0:Hid (Zu9 gs ((List.range N).drop 0) (Gv fr N)=R):=Za (by rw[←hR,←hN];rfl);rw[hR];clear hg hf hN hR;go_enter func87,ntmps87;go_wp2_with fail
 go_loopw [5,6] (fun sv nv wr=>∃k:Nat,k≤N∧nv=.int .i64 (k:Int)∧Hid (wr.ownsRow w.heap.size 3 1 sv k (ncs .i64 (Gv fr k)))∧Hid (Ext w wr)) (fun _ nv _=>N-(intOf nv).toNat)
 case atStart=>exact⟨0,Nat.zero_le _,rfl,World.ownsRow_nil _ _ _ _,Za (Zy2 w)⟩
 case round=>
  obtain⟨k,hk,rfl,HO,HX⟩:=hrel;obtain⟨wo,rfl⟩:∃wo:World,wo=wr:=⟨_,rfl⟩;by_cases hlt:k<N
  ·have hsz:=HX.out.size;have hm63:k+1≤maxLen:=by unfold maxLen;omega
   have HM:=Za hm63;clear hm63;have HS:=Za (Zjq fr k);cases hv:fr.any (fun x=>x==(k:Int))
   ·rw[hv] at HS;simp only[Bool.false_eq_true,if_false] at HS;go_wp2_with fail;refine(HAS.out _ HX.out k _ hv).zz ?_;clear hv
    go_wp2_with (at_builtin;refine wpList_append_lies _ rfl (.tmp 23) (.tmp 24) 22 rfl w.heap.size 3 i0 (.int .i64 0) 1 8 underlying22 hi0 hz0 hz1 hz2 rfl (by decide) _ k (ncs .i64 (Gv fr k)) rfl (HO.out.alloc _) ⟨wo.heap.size,0,none⟩ 1 1 [.int .i64 (-1)] rfl rfl (Oy _ _ _) (Zcu rfl) (by omega) HM.out (by omega) (by simp;omega) (wo.heap.size+1) (by simp) ?_;intro gg cap w2 hown2 hgrow hat hlt2;have HW:=Za hown2;have hx2:=Za ((HX.out.alloc (.cells #[.int .i64 (-1)] 3)).grown hgrow fun k e=>(HO.out.lt k e).1);clear hown2 hgrow hat hlt2)
    go_roundw
    case rel=>exact⟨k+1,by omega,by go_num,by unfold Hid;rw[HS.out,←Rv];exact HW.out,hx2⟩
    case measure=>simp[intOf];omega
   ·rw[hv] at HS;simp only[if_true] at HS;go_wp2_with fail;refine(HAS.out _ HX.out k _ hv).zz ?_;clear hv
    go_wp2_with (at_builtin;refine wpList_append_lies _ rfl (.tmp 20) (.tmp 21) 22 rfl w.heap.size 3 i0 (.int .i64 0) 1 8 underlying22 hi0 hz0 hz1 hz2 rfl (by decide) _ k (ncs .i64 (Gv fr k)) rfl (HO.out.alloc _) ⟨wo.heap.size,0,none⟩ 1 1 [(0:Int)] rfl rfl (Oy _ _ _) (Zcu rfl) (by omega) HM.out (by omega) (by simp;omega) (wo.heap.size+1) (by simp) ?_;intro gg cap w2 hown2 hgrow hat hlt2;have HW:=Za hown2;have hx2:=Za ((HX.out.alloc (.cells #[(0:Int)] 3)).grown hgrow fun k e=>(HO.out.lt k e).1);clear hown2 hgrow hat hlt2)
    go_roundw
    case rel=>exact⟨k+1,by omega,by go_num,by unfold Hid;rw[HS.out,←Rv];exact HW.out,hx2⟩
    case measure=>simp[intOf];omega
  ·obtain rfl:k=N:=by omega
   obtain⟨g,cap,rfl,g1,g2,g3,g4,g5,g6,g7⟩:=Nu HO.out (by omega);have D0:Hid (Zst w wo g k (Gv fr k)):=Za ⟨g6,Zog _ _,g7,g1,HX.out⟩;have CP:=Za (And.intro g4 g5);have W1:(1:Nat)≤k:=by omega
   clear g1 g2 g3 g4 g5 g6 g7 HO HX hlt hk HAS HF;go_wp2_with fail
   go_loopw [7] (fun dv wr=>∃(d:Nat) (o:List Int),d≤k∧dv=.int .i64 (d:Int)∧Hid (Zst w wr g k o)∧Hid (Zu9 gs ((List.range k).drop d) o=R)) (fun dv _=>k-(intOf dv).toNat)
   case atStart=>exact⟨0,_,Nat.zero_le _,rfl,D0,HR0⟩
   case round=>
    clear D0 HR0;obtain⟨d,o,hd,rfl,D1,HR1⟩:=hrel;by_cases hlt:d<k
    ·have hr:=HR1.out;rw[Ew hlt] at hr;unfold Zu9 at hr;have HR2:=Za hr;have S0:Hid (Ze1 gs (d:Int) ((List.range k).drop 0) o=Ze1 gs (d:Int) (List.range gs.length) o):=Za (by rw[List.drop_zero,HN.out]);obtain⟨R2,hR2⟩:=Zb (Ze1 gs (d:Int) (List.range gs.length) o);rw[hR2] at HR2 S0;clear hr hR2 HR1;go_wp2_with fail
     go_loopw [8] (fun nv wr=>∃(m:Nat) (o:List Int),m≤k∧nv=.int .i64 (m:Int)∧Hid (Zst w wr g k o)∧Hid (Ze1 gs (d:Int) ((List.range k).drop m) o=R2)) (fun nv _=>k-(intOf nv).toNat)
     case atStart=>exact⟨0,_,Nat.zero_le _,rfl,D1,S0⟩
     case round=>
      clear D1 S0;obtain⟨m,o1,hm,rfl,D2,S1⟩:=hrel;by_cases hlt2:m<k
      ·have hs:=S1.out;rw[Ew hlt2] at hs;unfold Ze1 at hs;rw[HN.out] at hs;have S2:=Za hs;obtain⟨R3,hR3⟩:=Zb (Zj2 k (d:Int) m (Gu gs m) o1);have T0:Hid (Zj2 k (d:Int) m ((Gu gs m).drop 0) o1=R3):=Za hR3;rw[hR3] at S2;clear hs hR3 S1;obtain⟨gb,go,ra,rc,rfl,gcl,gra,glm⟩:=HG.out m (by rw[HN.out];exact hlt2);obtain⟨L,hL⟩:=Zb ((Gu gs m).length);rw[hL] at gcl glm;have GC:=Za gcl;have GA:=Za gra;have HL:=Za hL;have gcl0:=D2.out.x.cell gcl;clear gcl gra hL;go_wp2_with fail
       go_loopw [9] (fun iv wr=>∃(i:Nat) (o:List Int),i≤L∧iv=.int .i64 (i:Int)∧Hid (Zst w wr g k o)∧Hid (Zj2 k (d:Int) m ((Gu gs m).drop i) o=R3)) (fun iv _=>L-(intOf iv).toNat)
       case atStart=>exact⟨0,_,Nat.zero_le _,rfl,D2,T0⟩
       case round=>
        clear D2 T0 gcl0;obtain⟨i,o2,hi,rfl,D3,T1⟩:=hrel;have gcl:=D3.out.x.cell GC.out;have om:=D3.out.cell hlt2;by_cases hlt3:i<L
        ·obtain⟨rb,ro,rfl,ec⟩:=GA.out i (by rw[HL.out];exact hlt3);have ec:=D3.out.x.cell ec;have ht:=T1.out;rw[Ps _ i (by rw[HL.out];exact hlt3),Zj2] at ht;clear T1;by_cases q:nth o2 m=(d:Int)
         ·rw[if_pos q] at ht;rw[q] at om
          generalize nth (Gu gs m) i=tq at *
          by_cases c0:0≤tq
          ·obtain⟨tn,rfl⟩:=Int.eq_ofNat_of_zero_le c0;rw[Zy4] at ht;by_cases c1:tn<k
           ·have oc:=D3.out.cell (j:=tn) c1;by_cases z:nth o2 tn<0
            ·rw[if_pos ⟨c0,by omega,z⟩] at ht;have D4:=Za (D3.out.set (j:=tn) c1 ((d:Int)+1));have fz:=D3.out.fz tn;have T2:=Za ht
             generalize nth o2 tn=u at *
             have w1:IntKind.i64.wrap ((d:Int)+1)=(d:Int)+1:=by rw[IntWalk.i64_in _ (by omega)]
             clear ht D3 q;go_wp2;go_roundw
             case rel=>exact⟨i+1,_,by omega,by go_num,D4,T2⟩
             case measure=>simp[intOf];omega
            ·rw[if_neg (fun a=>z a.2.2)] at ht;have T2:=Za ht
             generalize nth o2 tn=u at *
             have tz:decide (u<0)=false:=Zyx z;clear ht q;go_wp2;go_roundw
             case rel=>exact⟨i+1,_,by omega,by go_num,D3,T2⟩
             case measure=>simp[intOf];omega
           ·rw[if_neg (fun a=>by omega)] at ht;have T2:=Za ht;have tz:decide ((tn:Int)<(k:Int))=false:=Zyx (by omega);have tz2:decide (tn<k)=false:=Zyx (by omega);clear ht q;go_wp2;go_roundw
            case rel=>exact⟨i+1,_,by omega,by go_num,D3,T2⟩
            case measure=>simp[intOf];omega
          ·rw[if_neg (fun a=>c0 a.1)] at ht;have T2:=Za ht;have tz:decide (0≤tq)=false:=Zyx c0;clear ht q;go_wp2;go_roundw
           case rel=>exact⟨i+1,_,by omega,by go_num,D3,T2⟩
           case measure=>simp[intOf];omega
         ·rw[if_neg q] at ht;subst ht;have tq:(nth o2 m==(d:Int))=false:=by simpa using q
          generalize nth o2 m=u at *
          clear q;go_wp2;go_roundw
          case rel=>exact⟨m+1,_,by omega,by go_num,D3,S2⟩
          case measure=>simp[intOf];omega
        ·have ht:=T1.out;rw[Hz (by have:=HL.out;omega),Zj2] at ht;subst ht;clear T1;have te:decide (i<L)=false:=Zyx hlt3;have te2:decide ((i:Int)<(L:Int))=false:=Zyx (by omega);go_wp2;go_roundw
         case rel=>exact⟨m+1,_,by omega,by go_num,D3,S2⟩
         case measure=>simp[intOf];omega
      ·obtain rfl:m=k:=by omega
       have hs:=S1.out;rw[Hz (by simp),Ze1] at hs;subst hs;clear S1;go_wp2;go_roundw
       case rel=>exact⟨d+1,_,by omega,by go_num,D2,HR2⟩
       case measure=>simp[intOf];omega
    ·obtain rfl:d=k:=by omega
     have hr:=HR1.out;rw[Hz (by simp),Zu9] at hr;subst hr;clear HR1;go_wp2;go_ret;exact⟨_,cap,rfl,D1.out.row,D1.out.len,D1.out.x⟩
def H7(os:List Int)(k:Nat):List Bool:=(os.take k).map fun d=>decide (0≤d)
theorem Ze5{os:List Int}{k:Nat}(h:k<os.length):H7 os (k+1)=H7 os k++[decide (0≤nth os k)]:=by
 unfold H7;rw[List.take_add_one,List.map_append];simp[nth,List.getD,h]
theorem Ze6{ga fa:Option Addr}{gc fc:Nat}(gs:List (List Int))(fr:List Int)(hg:Zxe w ga gs)(hf:At .i64 w fa fr)(hfl:fr.length≤1000000)(h1:1≤gs.length)(h2:gs.length≤65536) :
  Calls prog 51 #[.slice ga gs.length gc,.slice fa fr.length fc] w fun e w'=>∃a cap,e=.returned (.slice a gs.length cap)∧BAt w' a (Sc gs fr)∧(Sc gs fr).length=gs.length∧Ext w w':=by
 obtain⟨i0,hi0,hz0,hz1,hz2⟩:=info_parts Zlg;have DE:=Za (Zca (gc:=gc) (fc:=fc) gs fr hg hf hfl h1 h2);have RL:=Ze3 gs fr;have RK:H7 (V7 gs fr) (V7 gs fr).length=Sc gs fr:=by unfold H7 Sc;rw[List.take_length]
 obtain⟨os,hos⟩:=Zb (V7 gs fr);obtain⟨rs,hrs⟩:=Zb (Sc gs fr);obtain⟨N,hN⟩:=Zb (gs.length);rw[hos] at DE RK;rw[hrs] at RL RK ⊢;rw[hN] at DE RL h1 h2 ⊢;have RLh:=Za RL;have RKh:=Za RK;clear hg hf hos hrs hN RL RK;go_enter func51,ntmps51;go_wp2_with fail;refine DE.out.mono ?_;rintro e w1 ⟨da,dc,rfl,hd,hl,x1⟩;have HD:=Za hd;have HL:=Za hl;have X1:=Za x1;have RK2:=RKh.out;rw[hl] at RK2;have RKK:=Za RK2;clear hd hl x1 DE RK2;go_wp2_with fail
 go_loopw [6,7] (fun sv nv wr=>∃k:Nat,k≤N∧nv=.int .i64 (k:Int)∧Hid (wr.ownsRow w1.heap.size 4 1 sv k (bcs (H7 os k)))∧Hid (Ext w1 wr)) (fun _ nv _=>N-(intOf nv).toNat)
 case atStart=>exact⟨0,Nat.zero_le _,rfl,World.ownsRow_nil _ _ _ _,Za (Zy2 _)⟩
 case round=>
  obtain⟨k,hk,rfl,HO,HX⟩:=hrel;obtain⟨wo,rfl⟩:∃wo:World,wo=wr:=⟨_,rfl⟩;by_cases hlt:k<N
  ·obtain⟨b,o,rfl,ec⟩:=HD.out k (by rw[HL.out];exact hlt);have ec:=HX.out.cell ec;have hsz:=HX.out.size;have hm63:k+1≤maxLen:=by unfold maxLen;omega
   have HM:=Za hm63;clear hm63;have HS:=Za (Ze5 (os:=os) (k:=k) (by rw[HL.out];exact hlt))
   generalize nth os k=u at *
   go_wp2_with (at_builtin;refine wpList_append_lies _ rfl (.tmp 17) (.tmp 23) 134 rfl w1.heap.size 4 i0 (.bool false) 1 1 underlying134 hi0 hz0 hz1 hz2 rfl (by decide) _ k (bcs (H7 os k)) rfl (HO.out.alloc _) ⟨wo.heap.size,0,none⟩ 1 1 [.bool (decide (0≤u))] rfl rfl (Oy _ _ _) (Zcu rfl) (by omega) HM.out (by omega) (by simp;omega) (wo.heap.size+1) (by simp) ?_;intro gg cap w2 hown2 hgrow hat hlt2;have HW:=Za hown2;have hx2:=Za ((HX.out.alloc (.cells #[.bool (decide (0≤u))] 4)).grown hgrow fun k e=>(HO.out.lt k e).1);clear hown2 hgrow hat hlt2)
   go_roundw
   case rel=>exact⟨k+1,by omega,by go_num,by unfold Hid;rw[HS.out,←Zpv];exact HW.out,hx2⟩
   case measure=>simp[intOf];omega
  ·obtain rfl:k=N:=by omega
   have ho:=HO.out;rw[RKK.out] at ho;obtain⟨g,cap,rfl,g1,g2,g3,g4,g5,g6,g7⟩:=Zpw ho (by omega);have G6:=Za g6;clear ho HO g6 g7;go_wp2;go_ret;exact⟨_,cap,rfl,G6.out,RLh.out,X1.out.trans HX.out⟩
end
section
variable{c:Zh}{t n:Nat}{gens wk:Int}{y:CY}
def gOf(c:Zh)(t:Nat)(y:CY)(i:Nat):List Int:=if Zu y.bs i then (Zab c t y.ws (i:Int)).1.filter (fun x=>decide (0≤x)) else []
def Ua(c:Zh)(t:Nat)(y:CY):Nat→List (List Int)
 | 0=>[]
 | i+1=>Ua c t y i++[gOf c t y i]
def V3(ms:List Int):Nat→List Int
 | 0=>[]
 | i+1=>V3 ms i++(if 0<Lp ms (i:Int) then [(i:Int)] else [])
def U1(l:List Ent):Nat→List Int
 | 0=>[]
 | i+1=>U1 l i++(if (Ux l (i:Int)).2 then [(Ux l (i:Int)).1] else [])
def L9(c:Zh)(t:Nat)(y:CY):List Int:=V3 y.ms (nS c t)++U1 y.l y.l.length
def Rq(c:Zh)(t:Nat)(y:CY):List Bool:=Sc (Ua c t y (nS c t)) (L9 c t y)
def Um(bs rs:List Bool):Nat→List Int
 | 0=>[]
 | i+1=>Um bs rs i++(if Zu bs i&&!Zu rs i then [(i:Int)] else [])
theorem Wj(c:Zh)(t:Nat)(y:CY):∀m,(Ua c t y m).length=m
 | 0=>rfl
 | m+1=>by simp[Ua,Wj c t y m]
theorem H8(c:Zh)(t:Nat)(y:CY){i:Nat}:∀m,i<m→Gu (Ua c t y m) i=gOf c t y i
 | 0,h=>absurd h (Zzb _)
 | m+1,h=>by
  have hl:=Wj c t y m;unfold Gu Ua;by_cases e:i=m
  ·subst e;simp[List.getD,hl]
  ·have:=H8 c t y (i:=i) m (by omega);unfold Gu at this;rw[←this];simp[List.getD,List.getElem?_append_left (show i<(Ua c t y m).length by omega)]
theorem Zcb{ms:List Int}{i:Nat}(h:0<Lp ms (i:Int)):∀m,i<m→(i:Int)∈V3 ms m
 | 0,q=>absurd q (Zzb _)
 | m+1,q=>by
  unfold V3;by_cases e:i=m
  ·subst e;rw[if_pos h];simp
  ·exact List.mem_append_left _ (Zcb h m (by omega))
theorem Ex{l:List Ent}{i:Nat}(h:(Ux l (i:Int)).2=true):∀m,i<m→(Ux l (i:Int)).1∈U1 l m
 | 0,q=>absurd q (Zzb _)
 | m+1,q=>by
  unfold U1;by_cases e:i=m
  ·subst e;rw[if_pos h];simp
  ·exact List.mem_append_left _ (Ex h m (by omega))
theorem H9{bs rs:List Bool}{s:Int}:∀{m:Nat},s∈Um bs rs m→∃i:Nat,s=i∧i<m∧Zu bs i=true∧Zu rs i=false
 | 0,h=>by cases h
 | m+1,h=>by
  unfold Um at h;rcases List.mem_append.1 h with h|h
  ·obtain⟨i,e,hi,q⟩:=H9 h;exact⟨i,e,by omega,q⟩
  ·split at h
   ·rename_i q;rw[List.mem_singleton] at h;simp only[Bool.and_eq_true,Bool.not_eq_true'] at q;exact⟨m,h,by omega,q.1,q.2⟩
   ·cases h
def Zoh(c:Zh)(t:Nat)(y:CY)(s:Nat):Prop:=s<nS c t∧Zu y.bs s=true∧Zu (Rq c t y) s=false
theorem Ka{i:Nat}(h:i<nS c t):Zu (Rq c t y) i=decide (0≤nth (V7 (Ua c t y (nS c t)) (L9 c t y)) i):=Ze4 (by rw[Wj];exact h)
theorem Zsu(h:YOk c t n gens wk y):Clo c t y.ws y.l y.ms (Zoh c t y):=by
 obtain⟨_,d2,d3⟩:=Hy (Ua c t y (nS c t)) (L9 c t y);rw[Wj] at d2 d3;have root:∀i:Nat,(i:Int)∈L9 c t y→¬Zoh c t y i:=fun i hi q=>by
  have:=d2 i q.1 hi;have e:=q.2.2;rw[Ka q.1,Zyy this] at e;cases e
 refine⟨fun s hs hn i h1 h2 q=>?_,fun i hi=>?_,fun i hi=>?_⟩
 ·have hh:=Iw h1;obtain⟨hd,hd2⟩:∃hd,Zz c t y.ws (s:Int)=(hd,0):=⟨_,Prod.ext rfl hh⟩;obtain⟨xs,x1,x2,x3⟩:=Zhk hd2 h.ro;have hr:0≤i∧i<hd.r:=by
   apply Decidable.byContradiction
   intro z;have:=Zt0 hd2 (i:=i) (by omega);rw[this] at h1;cases h1
  obtain⟨j,rfl⟩:∃j:Nat,i=j:=⟨i.toNat,by omega⟩;have hj:j<hd.r.toNat:=by omega
  have e:=x3 j hj;rw[e] at h1 h2 q;simp only at h2 q;have tk:Zu y.bs s=true:=by
   cases b:Zu y.bs s
   ·exact absurd hh (h.fh s hs b)
   ·rfl
  have rc:0≤nth (V7 (Ua c t y (nS c t)) (L9 c t y)) s:=by
   apply Decidable.byContradiction
   intro z;exact hn ⟨hs,tk,by rw[Ka hs,Zyx z]⟩
  have ed:nth xs j∈Gu (Ua c t y (nS c t)) s:=by
   rw[H8 c t y _ hs];unfold gOf;rw[if_pos tk,x1,List.mem_filter];refine⟨?_,by simpa using h2⟩;unfold nth;rw[List.getD,List.getElem?_eq_getElem (by omega)];exact List.getElem_mem _
  have lt:nth xs j<(nS c t:Int):=by have:=q.1;omega
  have:=d3 s hs rc _ ed h2 lt;have e2:=q.2.2;rw[Ka q.1,Zyy this] at e2;cases e2
 ·obtain⟨j,rfl,j1,j2,j3⟩:=Cu _ _ hi;have lv:=h.live j j2;have m:=Ex hi y.l.length j1;obtain⟨k,hk⟩:∃k:Nat,(Ux y.l (j:Int)).1=k:=⟨(Ux y.l (j:Int)).1.toNat,by omega⟩;rw[hk] at m ⊢;rw[Zy4];exact root k (List.mem_append_right _ m)
 ·have hr:0≤i∧i<(nS c t:Int):=by
   have:=h.ml;unfold Lp at hi;split at hi
   ·omega
   ·exact absurd hi (by decide)
  obtain⟨k,rfl⟩:∃k:Nat,i=k:=⟨i.toNat,by omega⟩;rw[Zy4];exact root k (List.mem_append_left _ (Zcb hi _ (by omega)))
end
section
variable{w w1 w2 wr:World}{B g m cap n:Nat}{rows:List (Value × List Int)}{gv fv ov v:Value}{fs os:List Int}{x:Int}
theorem Ss{e s:Nat}{xs:List Value}{row:Option Nat}(h:w1.ownsRow B e s v n xs)(hg:w1.grownBy w2 row)(hn:∀k,v.ownBlock=some k→row≠some k):w2.ownsRow B e s v n xs:=
 Zeu h (Chg.grownC hg) fun g e q=>hn g e q.symm
structure EdR(w:World)(B:Nat)(rows:List (Value × List Int))(gv fv:Value)(fs:List Int)(wr:World):Prop where
 x:Ext w wr
 g:wr.ownsRow B 22 1 gv rows.length (rows.map Prod.fst)
 f:wr.ownsRow B 3 1 fv fs.length (ncs .i64 fs)
 r:∀p∈rows,wr.ownsRow B 3 1 p.1 p.2.length (ncs .i64 p.2)
 n1:∀k,gv.ownBlock=some k→fv.ownBlock≠some k
 n2:∀p∈rows,∀k,p.1.ownBlock=some k→gv.ownBlock≠some k∧fv.ownBlock≠some k
 hb:w.heap.size=B
theorem EdR.ext(h:EdR w B rows gv fv fs wr)(hx:Ext wr w2):EdR w B rows gv fv fs w2:=
 ⟨h.x.trans hx,Xe h.g hx,Xe h.f hx,fun p q=>Xe (h.r p q) hx,h.n1,h.n2,h.hb⟩
theorem EdR.pushF(h:EdR w B rows gv fv fs wr)(hg:wr.grownBy w2 fv.ownBlock)(ho:w2.ownsRow B 3 1 (.slice (some ⟨g,0,none⟩) m cap) (fs.length+1) (ncs .i64 fs++[.int .i64 x]))(hat:fv.ownBlock=some g∨g=wr.heap.size) :
  EdR w B rows gv (.slice (some ⟨g,0,none⟩) m cap) (fs++[x]) w2:=by
 have blk:∀k,(Value.slice (some ⟨g,0,none⟩) m cap).ownBlock=some k→k=g:=fun k e=>by
  have:some g=some k:=e;cases this;rfl
 refine⟨h.x.grown hg (fun k e=>by rw[h.hb];exact(h.f.lt k e).1),Ss h.g hg h.n1,?_,fun p q=>Ss (h.r p q) hg fun k e=>(h.n2 p q k e).2,fun k e q=>?_,fun p q k e=>⟨(h.n2 p q k e).1,fun q2=>?_⟩,h.hb⟩
 ·have e:ncs .i64 (fs++[x])=ncs .i64 fs++[.int .i64 x]:=by unfold ncs;simp
  rw[e,Zy9];exact ho
 ·have:=blk k q;subst this;rcases hat with r|r
  ·exact h.n1 k e r
  ·have:=(h.g.lt k e).2;omega
 ·have:=blk k q2;subst this;rcases hat with r|r
  ·exact(h.n2 p q k e).2 r
  ·have:=((h.r p q).lt k e).2;omega
theorem EdR.pushG(h:EdR w B rows gv fv fs wr)(ho1:wr.ownsRow B 3 1 ov os.length (ncs .i64 os))(hon:∀k,ov.ownBlock=some k→gv.ownBlock≠some k∧fv.ownBlock≠some k)(hg:wr.grownBy w2 gv.ownBlock)
  (ho:w2.ownsRow B 22 1 (.slice (some ⟨g,0,none⟩) m cap) (rows.length+1) (rows.map Prod.fst++[ov])) (hat:gv.ownBlock=some g∨g=wr.heap.size) :
  EdR w B (rows++[(ov,os)]) (.slice (some ⟨g,0,none⟩) m cap) fv fs w2:=by
 have blk:∀k,(Value.slice (some ⟨g,0,none⟩) m cap).ownBlock=some k→k=g:=fun k e=>by
  have:some g=some k:=e;cases this;rfl
 have old:∀{u:Value} {e n:Nat} {xs:List Value},wr.ownsRow B e 1 u n xs→(∀k,u.ownBlock=some k→gv.ownBlock≠some k)→∀k,u.ownBlock=some k→(Value.slice (some ⟨g,0,none⟩) m cap).ownBlock≠some k:=fun hu hn k e q=>by
  have:=blk k q;subst this;rcases hat with r|r
  ·exact hn k e r
  ·have:=(hu.lt k e).2;omega
 refine⟨h.x.grown hg (fun k e=>by rw[h.hb];exact(h.g.lt k e).1),?_,Ss h.f hg (fun k e q=>h.n1 k q e),fun p q=>?_,fun k e q=>old h.f (fun k e q=>h.n1 k q e) k q e,fun p q k e=>?_,h.hb⟩
 ·rw[Zy9,List.map_append];exact ho
 ·rcases List.mem_append.1 q with q|q
  ·exact Ss (h.r p q) hg fun k e=>(h.n2 p q k e).1
  ·simp only[List.mem_singleton] at q;subst q;exact Ss ho1 hg fun k e=>(hon k e).1
 ·rcases List.mem_append.1 q with q|q
  ·exact⟨old (h.r p q) (fun k e=>(h.n2 p q k e).1) k e,(h.n2 p q k e).2⟩
  ·simp only[List.mem_singleton] at q;subst q;exact⟨old ho1 (fun k e=>(hon k e).1) k e,(hon k e).2⟩
structure OwR(w:World)(B:Nat)(rows:List (Value × List Int))(gv fv:Value)(fs:List Int)(ov:Value)(os:List Int)(wr:World):Prop where
 e:EdR w B rows gv fv fs wr
 o:wr.ownsRow B 3 1 ov os.length (ncs .i64 os)
 n:∀k,ov.ownBlock=some k→gv.ownBlock≠some k∧fv.ownBlock≠some k∧∀p∈rows,p.1.ownBlock≠some k
theorem OwR.ext(h:OwR w B rows gv fv fs ov os wr)(hx:Ext wr w2):OwR w B rows gv fv fs ov os w2:=⟨h.e.ext hx,Xe h.o hx,h.n⟩
theorem OwR.start(h:EdR w B rows gv fv fs wr):OwR w B rows gv fv fs (.slice none 0 0) [] wr:=⟨h,World.ownsRow_nil _ _ _ _,fun k e=>by cases e⟩
theorem OwR.push(h:OwR w B rows gv fv fs ov os wr)(hg:wr.grownBy w2 ov.ownBlock)(ho:w2.ownsRow B 3 1 (.slice (some ⟨g,0,none⟩) m cap) (os.length+1) (ncs .i64 os++[.int .i64 x]))(hat:ov.ownBlock=some g∨g=wr.heap.size) :
  OwR w B rows gv fv fs (.slice (some ⟨g,0,none⟩) m cap) (os++[x]) w2:=by
 have blk:∀k,(Value.slice (some ⟨g,0,none⟩) m cap).ownBlock=some k→k=g:=fun k e=>by
  have:some g=some k:=e;cases this;rfl
 have E:=h.e;have old:∀{u:Value} {e n:Nat} {xs:List Value},wr.ownsRow B e 1 u n xs→(∀k,ov.ownBlock=some k→u.ownBlock≠some k)→∀k,(Value.slice (some ⟨g,0,none⟩) m cap).ownBlock=some k→u.ownBlock≠some k:=fun hu hn k q e=>by
  have:=blk k q;subst this;rcases hat with r|r
  ·exact hn k r e
  ·have:=(hu.lt k e).2;omega
 refine⟨⟨E.x.grown hg (fun k e=>by rw[E.hb];exact(h.o.lt k e).1),Ss E.g hg (fun k e q=>(h.n k q).1 e),Ss E.f hg (fun k e q=>(h.n k q).2.1 e),fun p q=>Ss (E.r p q) hg (fun k e q'=>(h.n k q').2.2 p q e),E.n1,E.n2,E.hb⟩,?_,fun k e=>⟨old E.g (fun k e=>(h.n k e).1) k e,old E.f (fun k e=>(h.n k e).2.1) k e,fun p q=>old (E.r p q) (fun k e=>(h.n k e).2.2 p q) k e⟩⟩;have e:ncs .i64 (os++[x])=ncs .i64 os++[.int .i64 x]:=by unfold ncs;simp
 rw[e,Zy9];exact ho
theorem Ga{xs:List Int}(h:w.ownsRow B 3 1 v n (ncs .i64 xs)):∃a cap,v=.slice a xs.length cap∧At .i64 w a xs:=by
 have hn:n=xs.length:=by have:=h.1;rw[Ru] at this;omega
 by_cases h0:0<n
 ·obtain⟨g,cap,rfl,_,_,e,_,_,q,_⟩:=Nu h h0;exact⟨_,cap,by rw[e],q⟩
 ·obtain⟨_,⟨rfl,e⟩|⟨g,cap,cur,rfl,_,_,_,_⟩⟩:=h
  ·exact⟨none,0,by rw[show xs.length=0 by omega],fun i hi=>by omega⟩
  ·exact⟨_,cap,by rw[hn],fun i hi=>by omega⟩
theorem EdR.gr{gs:List (List Int)}(h:EdR w B rows gv fv fs wr)(hs:rows.map Prod.snd=gs)(h0:0<gs.length)(hl:∀i,i<gs.length→(Gu gs i).length≤1000000):∃a cap,gv=.slice a gs.length cap∧Zxe wr a gs:=by
 have el:rows.length=gs.length:=by rw[←hs,List.length_map]
 have hg:=h.g;obtain⟨e1,⟨rfl,e⟩|⟨g,cap,cur,rfl,hb,hh,hc,hm,hss⟩⟩:=h.g
 ·omega
 ·refine⟨_,cap,by rw[el],fun i hi=>?_⟩;have hi':i<rows.length:=by omega
  have hc2:=hg.cellAt i (by omega);have hr:=h.r (rows[i]) (List.getElem_mem hi');obtain⟨a,cp,e2,q⟩:=Ga hr;have e3:Gu gs i=(rows[i]).2:=by subst hs;unfold Gu;simp[List.getD,hi']
  rw[e3];refine⟨g,0,a,cp,rfl,?_,q,by rw[←e3];exact hl i hi⟩;rw[Nat.zero_add,hc2];simp[hi',e2]
end
section
variable{w w' W:World}{B:CB}{c:Zh}{t n:Nat}{gens wk:Int}{y:CY}{s:Int}
theorem Zvc:(prog.info? 22).map (fun i=>(i.zero,i.size,i.bytes))=some (some (.slice none 0 0),1,24):=by kernel_rfl
theorem Zgr{F:Nat→Int × Int}:∀n,(U3 F n).1.length≤n
 | 0=>Nat.zero_le _
 | n+1=>by
  have:=Zgr (F:=F) n;show(if (U3 F n).2=0 then (if (F n).2=0 then ((U3 F n).1++[(F n).1],(0:Int)) else ([],(F n).2)) else ([],(U3 F n).2)).1.length≤n+1
  split
  ·split
   ·simp;omega
   ·exact Nat.zero_le _
  ·exact Nat.zero_le _
theorem Zcc{ws:List Int}:(Zab c t ws s).1.length≤63:=by
 unfold Zab;split
 ·rename_i h;have ok:=(Yd h).2.2.1.1;have:=Zgr (F:=fun j=>U2 c t ws s j) (Zz c t ws s).1.r.toNat;have o1:=ok.2.1;have o2:=ok.2.2.2.1;omega
 ·exact Nat.zero_le _
theorem Mw(ms:List Int):∀i,(V3 ms i).length≤i
 | 0=>Zy1 _
 | i+1=>by have:=Mw ms i;unfold V3;rw[Zy9];split<;>simp<;>omega
theorem Gb(l:List Ent):∀i,(U1 l i).length≤i
 | 0=>Zy1 _
 | i+1=>by have:=Gb l i;unfold U1;rw[Zy9];split<;>simp<;>omega
def Bz(xs:List Int)(k:Nat):List Int:=(xs.take k).filter fun x=>decide (0≤x)
theorem Zjr{xs:List Int}{k:Nat}(h:k<xs.length):Bz xs (k+1)=Bz xs k++(if 0≤nth xs k then [nth xs k] else []):=by
 unfold Bz;rw[List.take_succ_eq_append_getElem h,List.filter_append];have e:nth xs k=xs[k]:=by unfold nth;simp[List.getD,h]
 rw[e];by_cases q:0≤xs[k]<;>simp[q]
theorem Zoi(xs:List Int)(k:Nat):(Bz xs k).length≤k:=Zy6 (List.length_filter_le _ _) (by rw[List.length_take];omega)
theorem Zoj{i:Nat}:(gOf c t y i).length≤63:=by
 unfold gOf;split
 ·exact Zy6 (List.length_filter_le _ _) Zcc
 ·exact Nat.zero_le _
theorem Ey{rows:List (Value × List Int)}{i:Nat}{v:Value}(h:rows.map Prod.snd=Ua c t y i):(rows++[(v,gOf c t y i)]).map Prod.snd=Ua c t y (i+1):=by
 rw[List.map_append,h];rfl
theorem Ez{rows:List (Value × List Int)}{i:Nat}(h:rows.map Prod.snd=Ua c t y i):rows.length=i:=by
 have:=congrArg List.length h
 rwa [List.length_map,Wj] at this
theorem Zok(h:Vw w B c t n gens wk y) :
  Calls prog 50 #[B.yb] w fun e w'=>∃ga gc fa fc,e=.returned (.tuple #[.slice ga (nS c t) gc,.slice fa (L9 c t y).length fc])∧Zxe w' ga (Ua c t y (nS c t))∧At .i64 w' fa (L9 c t y)∧Ext w w':=by
 obtain⟨i0,hi0,hz0,hz1,hz2⟩:=info_parts Id;obtain⟨j0,hj0,hy0,hy1,hy2⟩:=info_parts Zvc;obtain⟨D,hD⟩:=Zb (w.heap.size);obtain⟨N,hN⟩:=Zb (nS c t);have SN:=Za (show sS c t c.cl.length=(N:Int) by rw[←hN,h.i.k.ko.nS_eq h.i.k.ti]);have np:=h.i.pos;have NC:Hid (nS c t=N):=Za hN;rw[hN] at np ⊢;have NP:=Za np;have HC:=Za h;have LL:=Za h.i.k.tab.len;obtain⟨np1,np2⟩:=np;clear h hN;go_enter func50,ntmps50;go_wp2_with fail
 go_loopw [4,5,6] (fun gv fv iv wr=>∃(i:Nat) (rows:List (Value × List Int)),i≤N∧iv=.int .i64 i∧Hid (rows.map Prod.snd=Ua c t y i)∧Hid (EdR w D rows gv fv (V3 y.ms i) wr)) (fun _ _ iv _=>N-(intOf iv).toNat)
 case atStart=>exact⟨0,[],Nat.zero_le _,rfl,rfl,⟨Zy2 _,World.ownsRow_nil _ _ _ _,World.ownsRow_nil _ _ _ _,by simp,fun k e=>(by cases e),by simp,hD⟩⟩
 case round=>
  obtain⟨i,rows,hi,rfl,HS,HE⟩:=hrel;have CY1:=Za (HC.out.ext HE.out.x);go_wp2_with fail;refine(Og CY1.out).zz ?_;go_wp2_with fail;refine(Yx (N:Int) SN.out CY1.out.i.k.body.plan).zz ?_;by_cases hlt:i<N
  ·go_wp2_with fail;refine(Rm CY1.out).zz ?_;go_wp2_with fail;cases hr:Zu y.bs i
   ·refine(Rk false CY1.out.i.ar (by rw[Tj];exact hr)).zz ?_;have GO:=Za (show gOf c t y i=[] by unfold gOf;rw[hr];rfl);have OO:=Za (OwR.start HE.out);rw[←GO.out] at OO;clear hr;have rl:=Ez HS.out;have ol:=Zoj (c:=c) (t:=t) (y:=y) (i:=i);have ML:=Za (show rows.length+1≤maxLen by unfold maxLen;omega);have BY:=Za (show(rows.length+1)*24≤140737488355328 by omega);have BS:=Za (show D≤wr.heap.size+1 by have:=OO.out.e.x.size;have:=OO.out.e.hb;omega);clear ol rl
    go_wp2_with (at_builtin;refine wpList_append_lies _ rfl (.tmp 50) (.tmp 52) 33 rfl D 22 j0 (.slice none 0 0) 1 24 underlying33 hj0 hy0 hy1 hy2 rfl (by decide) _ rows.length (rows.map Prod.fst) rfl ((OO.out.ext ((Zy2 _).alloc _)).e.g) ⟨wr.heap.size,0,none⟩ 1 1 [.slice none 0 0] rfl rfl (Oy _ _ _) (Zcu rfl) (by decide) ML.out BY.out (by simp;exact BS.out) (wr.heap.size+1) (by simp) ?_;intro gg cap w5 hown hgrow hat hlt5;have PP:=Za ((OO.out.ext ((Zy2 _).alloc (.cells #[.slice none 0 0] 22))).e.pushG (OO.out.ext ((Zy2 _).alloc (.cells #[.slice none 0 0] 22))).o (fun k e=>⟨(OO.out.n k e).1,(OO.out.n k e).2.1⟩) hgrow hown (hat.imp id fun e=>by simp[e]));clear hown hgrow hat hlt5)
    clear ML BY BS;have CY2:=Za (HC.out.ext PP.out.x);have RS:=Za (Ey (v:=(.slice none 0 0)) HS.out);obtain⟨cn,hcn⟩:∃q,Lp y.ms (i:Int)=q:=⟨_,rfl⟩;have HCN:=Za hcn;refine(Jq CY2.out).zz ?_;go_wp2_with fail;refine(Pw y.ms cn CY2.out.i.k.pin HCN.out).zz ?_;by_cases h0:0<cn
    ·have tp:decide (0<cn)=true:=Zyy h0;have PS:=Za (show V3 y.ms (i+1)=V3 y.ms i++[(i:Int)] by show V3 y.ms i++(if 0<Lp y.ms (i:Int) then [(i:Int)] else [])=_;rw[hcn,if_pos h0]);have QQ:=PP;clear h0 hcn PP;obtain⟨M,hM⟩:=Zb ((V3 y.ms i).length);have ml:=Mw y.ms i;rw[hM] at ml;have HM:=Za hM;have ML:=Za (show M+1≤maxLen by unfold maxLen;omega);have BY:=Za (show(M+1)*8≤140737488355328 by omega);have BS:=Za (show D≤w5.heap.size+1 by have:=QQ.out.x.size;have:=QQ.out.hb;omega);clear ml hM
     go_wp2_with (at_builtin;refine wpList_append_lies _ rfl (.tmp 59) (.tmp 61) 22 rfl D 3 i0 (.int .i64 0) 1 8 underlying22 hi0 hz0 hz1 hz2 rfl (by decide) _ M (ncs .i64 (V3 y.ms i)) rfl ((by have:=(QQ.out.ext ((Zy2 _).alloc (.cells #[.int .i64 i] 3))).f;rw[HM.out] at this;exact this)) ⟨w5.heap.size,0,none⟩ 1 1 [.int .i64 i] rfl rfl (Oy _ _ _) (Zcu rfl) (by decide) ML.out BY.out (by simp;exact BS.out) (w5.heap.size+1) (by simp) ?_;intro gg cap w5 hown hgrow hat hlt5;have PP:=Za ((QQ.out.ext ((Zy2 _).alloc (.cells #[.int .i64 i] 3))).pushF hgrow (by rw[HM.out];exact hown) (hat.imp id fun e=>by simp[e]));clear hown hgrow hat hlt5)
     go_roundw
     case rel=>exact⟨i+1,_,by omega,by go_num,RS.out,by unfold Hid;rw[PS.out];exact PP.out⟩
     case measure=>simp[intOf];omega
    ·have tp:decide (0<cn)=false:=Zyx h0;have PS:=Za (show V3 y.ms (i+1)=V3 y.ms i by show V3 y.ms i++(if 0<Lp y.ms (i:Int) then [(i:Int)] else [])=_;rw[hcn,if_neg h0,List.append_nil]);clear h0 hcn;go_wp2;go_roundw
     case rel=>exact⟨i+1,_,by omega,by go_num,RS.out,by unfold Hid;rw[PS.out];exact PP.out⟩
     case measure=>simp[intOf];omega
   ·refine(Rk true CY1.out.i.ar (by rw[Tj];exact hr)).zz ?_;obtain⟨⟨xs,kk⟩,hx⟩:∃q,Zab c t y.ws (i:Int)=q:=⟨_,rfl⟩;have GO:=Za (show gOf c t y i=Bz xs xs.length by unfold gOf Bz;rw[hr,hx,List.take_length];rfl);have XL:=Za (show xs.length≤63 by have:=Zcc (c:=c) (t:=t) (ws:=y.ws) (s:=(i:Int));rw[hx] at this;exact this);have HX:=Za hx;clear hr hx;go_wp2_with fail;refine(Oh CY1.out).zz ?_;go_wp2_with fail;refine(Zms CY1.out.i.k.body HX.out).mono ?_;rintro e w2 ⟨la,lc,rfl,hat,x2⟩;have HA:=Za hat;have O2:=Za (OwR.start (HE.out.ext x2));clear hat x2;have xl:=XL.out;go_wp2_with fail
    go_loopw [7,10] (fun ov kv w3=>∃(k:Nat),k≤xs.length∧kv=.int .i64 k∧Hid (Ext w2 w3)∧Hid (∀b,ov.ownBlock=some b→w2.heap.size≤b)∧Hid (OwR w D rows u4 u5 (V3 y.ms i) ov (Bz xs k) w3)) (fun _ kv _=>xs.length-(intOf kv).toNat)
    case atStart=>exact⟨0,Nat.zero_le _,rfl,Zy2 _,(fun b e=>by cases e),O2.out⟩
    case round=>
     clear O2;obtain⟨k,hk,rfl,X3,WX,O3⟩:=hrel;by_cases hk2:k<xs.length
     ·obtain⟨lb,lo,rfl,hc⟩:=HA.out.pos (by omega);have r0:=X3.out.cell (hc k hk2);have HK:=Za (Zjr hk2);have rl:=Zoi xs k;clear hc
      generalize nth xs k=u at *
      by_cases hu:0≤u
      ·have tp:decide (0≤u)=true:=Zyy hu;rw[if_pos hu] at HK;clear hu;obtain⟨M,hM⟩:=Zb ((Bz xs k).length);rw[hM] at rl;have HM:=Za hM;have ML:=Za (show M+1≤maxLen by unfold maxLen;omega);have BY:=Za (show(M+1)*8≤140737488355328 by omega);have BS:=Za (show D≤wr.heap.size+1 by have:=O3.out.e.x.size;have:=O3.out.e.hb;omega);clear rl;clear hM
       go_wp2_with (at_builtin;refine wpList_append_lies _ rfl (.tmp 43) (.tmp 48) 22 rfl D 3 i0 (.int .i64 0) 1 8 underlying22 hi0 hz0 hz1 hz2 rfl (by decide) _ M (ncs .i64 (Bz xs k)) rfl ((by have:=(O3.out.ext ((Zy2 _).alloc (.cells #[.int .i64 u] 3))).o;rw[HM.out] at this;exact this)) ⟨wr.heap.size,0,none⟩ 1 1 [.int .i64 u] rfl rfl (Oy _ _ _) (Zcu rfl) (by decide) ML.out BY.out (by simp;exact BS.out) (wr.heap.size+1) (by simp) ?_;intro gg cap w5 hown hgrow hat hlt5;have PP:=Za ((O3.out.ext ((Zy2 _).alloc (.cells #[.int .i64 u] 3))).push hgrow (by rw[HM.out];exact hown) (hat.imp id fun e=>by simp[e]));have XX:=Za ((X3.out.alloc (.cells #[.int .i64 u] 3)).grown hgrow fun k e=>WX.out k e);have GG:=Za (show w2.heap.size≤gg from (by have s3:=X3.out.size;exact hat.elim (fun r=>WX.out _ r) (fun r=>by omega)));clear hown hgrow hat hlt5)
       go_roundw
       case rel=>exact⟨k+1,by omega,by go_num,XX,Za (fun b e=>by have e2:some gg=some b:=e;cases e2;exact GG.out),by unfold Hid;rw[HK.out];exact PP.out⟩
       case measure=>simp[intOf];omega
      ·have tp:decide (0≤u)=false:=Zyx hu;rw[if_neg hu,List.append_nil] at HK;clear hu;go_wp2;go_roundw
       case rel=>exact⟨k+1,by omega,by go_num,X3,WX,by unfold Hid;rw[HK.out];exact O3.out⟩
       case measure=>simp[intOf];omega
     ·have hkn:k=xs.length:=by omega
      subst hkn;have OO:=Za O3.out;rw[←GO.out] at OO;obtain⟨oa,ocap,rfl,_⟩:=Ga OO.out.o;have rl:=Ez HS.out;have ol:=Zoj (c:=c) (t:=t) (y:=y) (i:=i);have ML:=Za (show rows.length+1≤maxLen by unfold maxLen;omega);have BY:=Za (show(rows.length+1)*24≤140737488355328 by omega);have BS:=Za (show D≤wr.heap.size+1 by have:=OO.out.e.x.size;have:=OO.out.e.hb;omega);clear ol rl
      go_wp2_with (at_builtin;refine wpList_append_lies _ rfl (.tmp 50) (.tmp 52) 33 rfl D 22 j0 (.slice none 0 0) 1 24 underlying33 hj0 hy0 hy1 hy2 rfl (by decide) _ rows.length (rows.map Prod.fst) rfl ((OO.out.ext ((Zy2 _).alloc _)).e.g) ⟨wr.heap.size,0,none⟩ 1 1 [.slice oa (gOf c t y i).length ocap] rfl rfl (Oy _ _ _) (Zcu rfl) (by decide) ML.out BY.out (by simp;exact BS.out) (wr.heap.size+1) (by simp) ?_;intro gg cap w5 hown hgrow hat hlt5;have PP:=Za ((OO.out.ext ((Zy2 _).alloc (.cells #[.slice oa (gOf c t y i).length ocap] 22))).e.pushG (OO.out.ext ((Zy2 _).alloc (.cells #[.slice oa (gOf c t y i).length ocap] 22))).o (fun k e=>⟨(OO.out.n k e).1,(OO.out.n k e).2.1⟩) hgrow hown (hat.imp id fun e=>by simp[e]));clear hown hgrow hat hlt5)
      clear ML BY BS;have CY2:=Za (HC.out.ext PP.out.x);have RS:=Za (Ey (v:=.slice oa (gOf c t y i).length ocap) HS.out);obtain⟨cn,hcn⟩:∃q,Lp y.ms (i:Int)=q:=⟨_,rfl⟩;have HCN:=Za hcn;refine(Jq CY2.out).zz ?_;go_wp2_with fail;refine(Pw y.ms cn CY2.out.i.k.pin HCN.out).zz ?_;by_cases h0:0<cn
      ·have tp:decide (0<cn)=true:=Zyy h0;have PS:=Za (show V3 y.ms (i+1)=V3 y.ms i++[(i:Int)] by show V3 y.ms i++(if 0<Lp y.ms (i:Int) then [(i:Int)] else [])=_;rw[hcn,if_pos h0]);have QQ:=PP;clear h0 hcn PP;obtain⟨M,hM⟩:=Zb ((V3 y.ms i).length);have ml:=Mw y.ms i;rw[hM] at ml;have HM:=Za hM;have ML:=Za (show M+1≤maxLen by unfold maxLen;omega);have BY:=Za (show(M+1)*8≤140737488355328 by omega);have BS:=Za (show D≤w5.heap.size+1 by have:=QQ.out.x.size;have:=QQ.out.hb;omega);clear ml hM
       go_wp2_with (at_builtin;refine wpList_append_lies _ rfl (.tmp 59) (.tmp 61) 22 rfl D 3 i0 (.int .i64 0) 1 8 underlying22 hi0 hz0 hz1 hz2 rfl (by decide) _ M (ncs .i64 (V3 y.ms i)) rfl ((by have:=(QQ.out.ext ((Zy2 _).alloc (.cells #[.int .i64 i] 3))).f;rw[HM.out] at this;exact this)) ⟨w5.heap.size,0,none⟩ 1 1 [.int .i64 i] rfl rfl (Oy _ _ _) (Zcu rfl) (by decide) ML.out BY.out (by simp;exact BS.out) (w5.heap.size+1) (by simp) ?_;intro gg cap w5 hown hgrow hat hlt5;have PP:=Za ((QQ.out.ext ((Zy2 _).alloc (.cells #[.int .i64 i] 3))).pushF hgrow (by rw[HM.out];exact hown) (hat.imp id fun e=>by simp[e]));clear hown hgrow hat hlt5)
       go_roundw
       case rel=>exact⟨i+1,_,by omega,by go_num,RS.out,by unfold Hid;rw[PS.out];exact PP.out⟩
       case measure=>simp[intOf];omega
      ·have tp:decide (0<cn)=false:=Zyx h0;have PS:=Za (show V3 y.ms (i+1)=V3 y.ms i by show V3 y.ms i++(if 0<Lp y.ms (i:Int) then [(i:Int)] else [])=_;rw[hcn,if_neg h0,List.append_nil]);clear h0 hcn;go_wp2;go_roundw
       case rel=>exact⟨i+1,_,by omega,by go_num,RS.out,by unfold Hid;rw[PS.out];exact PP.out⟩
       case measure=>simp[intOf];omega
  ·have hin:i=N:=by omega
   subst hin;go_wp2_with fail
   go_loopw [5,11] (fun fv iv w3=>∃(k:Nat),k≤y.l.length∧iv=.int .i64 k∧Hid (EdR w D rows u4 fv (V3 y.ms i++U1 y.l k) w3)) (fun _ iv _=>y.l.length-(intOf iv).toNat)
   case atStart=>exact⟨0,Nat.zero_le _,rfl,by unfold Hid;rw[show U1 y.l 0=[] from rfl,List.append_nil];exact HE.out⟩
   case round=>
    clear HE CY1;obtain⟨k,hk,rfl,HE⟩:=hrel;have CY1:=Za (HC.out.ext HE.out.x);obtain⟨q1,q2⟩:=LL.out;go_wp2_with fail;refine(Sb CY1.out).zz ?_;go_wp2_with fail;refine(I5 CY1.out.i.k.tab rfl).zz ?_;by_cases hk2:k<y.l.length
    ·obtain⟨⟨sl,r⟩,hr⟩:∃q,Ux y.l (k:Int)=q:=⟨_,rfl⟩;have HR:=Za hr;have p1:=Mw y.ms i;have p2:=Gb y.l k;clear hr;go_wp2_with fail;refine(Sb CY1.out).zz ?_;go_wp2_with fail;refine(Zfz CY1.out.i.k.tab HR.out).zz ?_;cases r
     ·have LS:=Za (show U1 y.l (k+1)=U1 y.l k by show U1 y.l k++(if (Ux y.l (k:Int)).2 then [(Ux y.l (k:Int)).1] else [])=_;rw[HR.out];simp);go_wp2;go_roundw
      case rel=>exact⟨k+1,by omega,by go_num,by unfold Hid;rw[LS.out];exact HE.out⟩
      case measure=>simp[intOf];omega
     ·have LS:=Za (show U1 y.l (k+1)=U1 y.l k++[sl] by show U1 y.l k++(if (Ux y.l (k:Int)).2 then [(Ux y.l (k:Int)).1] else [])=_;rw[HR.out];rfl);obtain⟨M,hM⟩:=Zb ((V3 y.ms i++U1 y.l k).length);have mb:M≤70000:=by rw[←hM,Zy9];omega
      have HM:=Za hM;have ML:=Za (show M+1≤maxLen by unfold maxLen;omega);have BY:=Za (show(M+1)*8≤140737488355328 by omega);have BS:=Za (show D≤wr.heap.size+1 by have:=HE.out.x.size;have:=HE.out.hb;omega);clear hM p1 p2 mb
      go_wp2_with (at_builtin;refine wpList_append_lies _ rfl (.tmp 78) (.tmp 80) 22 rfl D 3 i0 (.int .i64 0) 1 8 underlying22 hi0 hz0 hz1 hz2 rfl (by decide) _ M (ncs .i64 (V3 y.ms i++U1 y.l k)) rfl ((by have:=(HE.out.ext ((Zy2 _).alloc (.cells #[.int .i64 sl] 3))).f;rw[HM.out] at this;exact this)) ⟨wr.heap.size,0,none⟩ 1 1 [.int .i64 sl] rfl rfl (Oy _ _ _) (Zcu rfl) (by decide) ML.out BY.out (by simp;exact BS.out) (wr.heap.size+1) (by simp) ?_;intro gg cap w5 hown hgrow hat hlt5;have PP:=Za ((HE.out.ext ((Zy2 _).alloc (.cells #[.int .i64 sl] 3))).pushF hgrow (by rw[HM.out];exact hown) (hat.imp id fun e=>by simp[e]));clear hown hgrow hat hlt5)
      go_roundw
      case rel=>exact⟨k+1,by omega,by go_num,by unfold Hid;rw[LS.out,←List.append_assoc];exact PP.out⟩
      case measure=>simp[intOf];omega
    ·have hkn:k=y.l.length:=by omega
     subst hkn;obtain⟨ga,gc,eg,hg⟩:=HE.out.gr HS.out (by rw[Wj];omega) (fun j hj=>by rw[Wj] at hj;rw[H8 c t y _ hj];have:=Zoj (c:=c) (t:=t) (y:=y) (i:=j);omega);rw[Wj] at eg;subst eg;have HE2:=HE.out;have FF:Hid (V3 y.ms i++U1 y.l y.l.length=L9 c t y):=Za (by unfold L9;rw[NC.out]);rw[FF.out] at HE2;obtain⟨fa,fc,rfl,hf⟩:=Ga HE2.f;have XF:=Za HE2.x;have HG:=Za hg;have HF:=Za hf;clear hg hf HE HE2 CY1;go_wp2;go_ret2;exact⟨ga,gc,fa,fc,rfl,HG.out,HF.out,XF.out⟩
end
section
variable{w w' W:World}{B:CB}{c:Zh}{t n:Nat}{gens wk:Int}{y:CY}
theorem B5(bs rs:List Bool):∀i,(Um bs rs i).length≤i
 | 0=>Zy1 _
 | i+1=>by have:=B5 bs rs i;unfold Um;rw[Zy9];split<;>simp<;>omega
theorem Zsv(h:y.l.length≤1024)(h2:nS c t≤65536):(L9 c t y).length≤1000000:=by
 unfold L9;have:=Mw y.ms (nS c t);have:=Gb y.l y.l.length;rw[Zy9];omega
theorem Zol(xs:List Int)(x:Int):ncs .i64 (xs++[x])=ncs .i64 xs++[.int .i64 x]:=by unfold ncs;simp
theorem Zsw(h:Vw w B c t n gens wk y) :
  Calls prog 24 #[B.yb] w fun e w'=>∃v,e=.returned v∧w'.ownsRow w.heap.size 3 1 v (Um y.bs (Rq c t y) (nS c t)).length (ncs .i64 (Um y.bs (Rq c t y) (nS c t)))∧Ext w w':=by
 obtain⟨i0,hi0,hz0,hz1,hz2⟩:=info_parts Id;obtain⟨D,hD⟩:=Zb (w.heap.size);have np:=h.i.pos;have FL:=Za (Zsv (c:=c) (t:=t) h.i.k.tab.len.2 np.2);have ED:=Za (Zok h);have GL:=Za (Wj c t y (nS c t));obtain⟨rs,hrs⟩:=Zb (Rq c t y);have RS:=Za hrs;obtain⟨N,hN⟩:=Zb (nS c t);have HN:=Za hN;have HC:=Za h;rw[hN] at np GL ED ⊢;rw[hrs];obtain⟨np1,np2⟩:=np;have HD:=Za hD;rw[hD];clear h hrs hN hD;go_enter func24,ntmps24;go_wp2_with fail;refine ED.out.mono ?_;rintro e w1 ⟨ga,gc,fa,fc,rfl,hg,hf,x1⟩;have X1:=Za x1;have RE:=Za (Ze6 (ga:=ga) (fa:=fa) (gc:=gc) (fc:=fc) (Ua c t y N) (L9 c t y) hg hf FL.out (by rw[GL.out];exact np1) (by rw[GL.out];exact np2));rw[GL.out] at RE;have RR:Hid (Sc (Ua c t y N) (L9 c t y)=rs):=Za (by rw[←RS.out];unfold Rq;rw[HN.out]);rw[RR.out] at RE;clear hg hf x1 ED;go_wp2_with fail;refine RE.out.mono ?_;rintro e w2 ⟨ra,rc,rfl,hb,rl,x2⟩;have HB:=Za hb;have RL:=Za rl;have X2:=Za (X1.out.trans x2);clear hb rl x2 RE;go_wp2_with fail
 go_loopw [6,7] (fun ov iv w3=>∃(i:Nat),i≤N∧iv=.int .i64 i∧Hid (Ext w2 w3)∧Hid (∀b,ov.ownBlock=some b→w2.heap.size≤b)∧Hid (w3.ownsRow D 3 1 ov (Um y.bs rs i).length (ncs .i64 (Um y.bs rs i)))) (fun _ iv _=>N-(intOf iv).toNat)
 case atStart=>exact⟨0,Nat.zero_le _,rfl,Zy2 _,(fun b e=>by cases e),World.ownsRow_nil _ _ _ _⟩
 case round=>
  obtain⟨i,hi,rfl,X3,WX,HO⟩:=hrel;have CY1:=Za (HC.out.ext (X2.out.trans X3.out));by_cases hlt:i<N
  ·have ll:=B5 y.bs rs i;obtain⟨M,hM⟩:=Zb ((Um y.bs rs i).length);rw[hM] at ll;have HM:=Za hM;have ML:=Za (show M+1≤maxLen by unfold maxLen;omega);have BY:=Za (show(M+1)*8≤140737488355328 by omega);have BS:=Za (show D≤wr.heap.size+1 by have:=(X2.out.trans X3.out).size;have:=HD.out;omega);have LS:=Za (show Um y.bs rs (i+1)=Um y.bs rs i++(if Zu y.bs i&&!Zu rs i then [(i:Int)] else []) from rfl);obtain⟨rb,ro,rfl,hc⟩:=HB.out.pos (by have:=RL.out;omega);have r0:=X3.out.cell (hc i (by have:=RL.out;omega));clear hM ll hc;go_wp2_with fail;refine(Rm CY1.out).zz ?_;go_wp2_with fail;cases hr:Zu y.bs i
   ·refine(Rk false CY1.out.i.ar (by rw[Tj];exact hr)).zz ?_;have L2:=Za (show Um y.bs rs (i+1)=Um y.bs rs i by rw[LS.out,hr];simp);clear hr;go_wp2;go_roundw
    case rel=>exact⟨i+1,by omega,by go_num,X3,WX,by unfold Hid;rw[L2.out];exact HO.out⟩
    case measure=>simp[intOf];omega
   ·refine(Rk true CY1.out.i.ar (by rw[Tj];exact hr)).zz ?_;cases hq:Zu rs i
    ·rw[hq] at r0;have L2:=Za (show Um y.bs rs (i+1)=Um y.bs rs i++[(i:Int)] by rw[LS.out,hr,hq];rfl);clear hr hq;have OWN:=Za (Xe HO.out ((Zy2 wr).alloc (.cells #[.int .i64 i] 3)));rw[HM.out] at OWN
     go_wp2_with (at_builtin;refine wpList_append_lies _ rfl (.tmp 33) (.tmp 35) 22 rfl D 3 i0 (.int .i64 0) 1 8 underlying22 hi0 hz0 hz1 hz2 rfl (by decide) _ M (ncs .i64 (Um y.bs rs i)) rfl (OWN.out) ⟨wr.heap.size,0,none⟩ 1 1 [.int .i64 i] rfl rfl (Oy _ _ _) (Zcu rfl) (by decide) ML.out BY.out (by simp;exact BS.out) (wr.heap.size+1) (by simp) ?_;intro gg cap w5 hown hgrow hat hlt5;have PP:=Za hown;have XX:=Za ((X3.out.alloc (.cells #[.int .i64 i] 3)).grown hgrow fun k e=>WX.out k e);have GG:=Za (show w2.heap.size≤gg from (by have s3:=X3.out.size;exact hat.elim (fun r=>WX.out _ r) (fun r=>by omega)));clear hown hgrow hat hlt5)
     go_roundw
     case rel=>exact⟨i+1,by omega,by go_num,XX,Za (fun b e=>by have e2:some gg=some b:=e;cases e2;exact GG.out),by unfold Hid;rw[L2.out,Zol,Zy9,HM.out];exact PP.out⟩
     case measure=>simp[intOf];omega
    ·rw[hq] at r0;have L2:=Za (show Um y.bs rs (i+1)=Um y.bs rs i by rw[LS.out,hr,hq];simp);clear hr hq;go_wp2;go_roundw
     case rel=>exact⟨i+1,by omega,by go_num,X3,WX,by unfold Hid;rw[L2.out];exact HO.out⟩
     case measure=>simp[intOf];omega
  ·have hin:i=N:=by omega
   subst hin;go_wp2;go_ret;exact⟨_,rfl,HO.out,X2.out.trans X3.out⟩
end
section
variable{c:Zh}{n i t:Nat}{X X':Nat→HP}{ws ws':List Int}{L L':List (Int × Sn)}{gl:Nat→List Int}{r:HP × Sn}{code:Int}
theorem Zgs{bs rs:List Bool}{s:Nat}(h1:Zu bs s=true)(h2:Zu rs s=false):∀{m:Nat},s<m→(s:Int)∈Um bs rs m
 | m+1,h=>by
  unfold Um;by_cases e:s=m
  ·subst e;rw[h1,h2];exact List.mem_append.2 (.inr (by simp))
  ·exact List.mem_append.2 (.inl (Zgs h1 h2 (by omega)))
def Zw0(l:List Int)(s:Nat):Prop:=(s:Int)∈l
structure Ja(c:Zh)(n i:Nat)(X:Nat→HP)(ws:List Int)(L:List (Int × Sn))(gl:Nat→List Int):Prop where
 all:Wo c n i (4*i) X ws
 len:L.length≤i
 last:∀t:Nat,t<c.ts.length→Bn L (t:Int)=m31 (X t).p.cyc
 gar:∀t,t<c.ts.length→Gar c t (X t).y (Zw0 (gl t))
 mem:∀t,t<c.ts.length→∀x∈gl t,∃s:Nat,x=s∧s<nS c t
 sz:∀t,t<c.ts.length→(gl t).length≤65536
def Rs(gl:Nat→List Int)(t:Nat)(l:List Int)(j:Nat):List Int:=if j=t then l else gl j
theorem Zto{x:Int}(h:x≤2147483647):m31 x=x:=by unfold m31;rw[if_neg (by omega)]
theorem Wo.later{a d a' d':Nat}(h:Wo c n a d X ws)(p:a≤a')(q:d≤d'):Wo c n a' d' X ws:=⟨fun i hi=>(h.ok i hi).later p q,h.ws⟩
theorem Ja.start(h:Wo c n 0 0 X ws)(h0:∀t,t<c.ts.length→(X t).p.cyc=0):Ja c n 0 X ws [] (fun _=>[]):=
 ⟨h,Zy1 _,fun t ht=>by rw[h0 t ht];rfl,fun t _=>Gar.empty (fun s q=>(by cases q)),fun t _ x q=>(by cases q),fun _ _=>Nat.zero_le _⟩
theorem Ja.nop(h:Ja c n i X ws L gl)(ha:Wo c n i (4*i) X' ws')(hs:∀t,t<c.ts.length→Hr c t n i (4*i) (X t) (X' t))(hl:L'.length≤L.length+1)(hc:∀t:Nat,Bn L' (t:Int)=Bn L (t:Int)):Ja c n (i+1) X' ws' L' gl:=
 ⟨ha.later (by omega) (by omega),by have:=h.len;omega,fun t ht=>by rw[hc,h.last t ht,(hs t ht).cyc],fun t ht=>(hs t ht).gar _ (h.gar t ht),h.mem,h.sz⟩
def Zjs(x:HP)(r:HP × Sn)(l:List Int):List Int:=if r.2.cyc>m31 x.p.cyc then [] else l
structure Zvd(c:Zh)(n i t:Nat)(X:Nat→HP)(code:Int)(L:List (Int × Sn))(gl:Nat→List Int)(r:HP × Sn):Prop where
 work:(r.1.work:Int)≤2*(21*((Z0 c t:Int)+(r.1.y.l.length:Int)))
 steps:(r.1.y.steps:Int)≤21*((Z0 c t:Int)+(r.1.y.l.length:Int))
 free:r.2.cyc>m31 (X t).p.cyc→∀x∈gl t,∃s:Nat,x=s∧s<nS c t∧(Zu r.1.y.bs s=false∨(code=1∧r.2.e=0∧r.2.addr=Ve c t s))
 mid:Ja c n (i+1) (Ol X t r.1) r.1.y.ws (L++[((t:Int),r.2)]) (Rs gl t (Zjs (X t) r (gl t)))
 begun:code=1→r.2.e=0→r.2.act=true→r.2.since=0→Ja c n (i+1) (Ol X t r.1) r.1.y.ws (L++[((t:Int),r.2)]) (Rs gl t (Um r.1.y.bs (Rq c t r.1.y) (nS c t)))
theorem Ja.op(h:Ja c n i X ws L gl)(ht:t<c.ts.length)(hi:i≤80)(o:Ztn c n i (4*i) t X code r):Zvd c n i t X code L gl r:=by
 have w:=o.own;have cy1:=w.cyc;have b1:=w.ok.cy.2;have ln:=w.len;have k1:m31 r.1.p.cyc=r.1.p.cyc:=Zto (by omega);have k0:m31 (X t).p.cyc=(X t).p.cyc:=Zto (by have:=((h.all.ok t ht).cy).2;omega);have hall:Wo c n (i+1) (4*(i+1)) (Ol X t r.1) r.1.y.ws:=by
  have:=o.all;rw[show 4*(i+1)=4*i+4 by omega];exact this
 have hlen:(L++[((t:Int),r.2)]).length≤i+1:=by have:=h.len;simp;omega
 have hlast:∀j:Nat,j<c.ts.length→Bn (L++[((t:Int),r.2)]) (j:Int)=m31 (Ol X t r.1 j).p.cyc:=fun j hj=>by
  rw[Ep];by_cases e:j=t
  ·subst e;unfold Ol;rw[if_pos rfl,if_pos rfl];exact cy1.1
  ·rw[if_neg (show ¬((t:Int)=(j:Int)) from fun q=>e (by omega)),h.last j hj,(o.oth j hj e).cyc]
 have other:∀j,j<c.ts.length→j≠t→Gar c j (Ol X t r.1 j).y (Zw0 (gl j)):=fun j hj e=>(o.oth j hj e).gar _ (h.gar j hj)
 have me:Ol X t r.1 t=r.1:=by unfold Ol;rw[if_pos rfl]
 have np:=(h.all.ok t ht).y;refine⟨?_,?_,fun q x hx=>?_,⟨hall,hlen,hlast,fun j hj=>?_,fun j hj x hx=>?_,fun j hj=>?_⟩,fun c1 c2 c3 c4=>?_⟩
 ·have:=w.work;unfold Z7 at this;rw[ln];omega
 ·have:=w.steps;unfold Z7 at this;rw[ln];omega
 ·rw[cy1.1,k1,k0] at q;obtain⟨s,rfl,hs⟩:=h.mem t ht x hx;rcases w.gar _ (h.gar t ht) with g|g
  ·omega
  ·exact⟨s,rfl,hs,g.2 s hx⟩
 ·unfold Rs;by_cases e:j=t
  ·subst e;rw[if_pos rfl,me];unfold Zjs;rw[cy1.1,k1,k0];rcases w.gar _ (h.gar j ht) with g|g
   ·rw[if_neg (by omega)];exact g.2
   ·rw[if_pos (by omega)];exact Gar.empty fun s q=>by cases q
  ·rw[if_neg e];exact other j hj e
 ·unfold Rs at hx;by_cases e:j=t
  ·subst e;rw[if_pos rfl] at hx;unfold Zjs at hx;split at hx
   ·cases hx
   ·exact h.mem j ht x hx
  ·rw[if_neg e] at hx;exact h.mem j hj x hx
 ·unfold Rs;by_cases e:j=t
  ·subst e;rw[if_pos rfl];unfold Zjs;split
   ·exact Nat.zero_le _
   ·exact h.sz j ht
  ·rw[if_neg e];exact h.sz j hj
 ·obtain⟨_,bg⟩:=w.begun c1 c2 c3 c4;refine⟨hall,hlen,hlast,fun j hj=>?_,fun j hj x hx=>?_,fun j hj=>?_⟩
  ·unfold Rs;by_cases e:j=t
   ·subst e;rw[if_pos rfl,me];have lm:∀s:Nat,Zw0 (Um r.1.y.bs (Rq c j r.1.y) (nS c j)) s→Zoh c j r.1.y s:=fun s q=>by
     obtain⟨i',e1,e2,e3,e4⟩:=H9 q;have:s=i':=by omega
     subst this;exact⟨e2,e3,e4⟩
    have ml:∀s:Nat,Zoh c j r.1.y s→Zw0 (Um r.1.y.bs (Rq c j r.1.y) (nS c j)) s:=fun s q=>Zgs q.2.1 q.2.2 q.1
    have eq:Zw0 (Um r.1.y.bs (Rq c j r.1.y) (nS c j))=Zoh c j r.1.y:=by
     funext s;exact propext ⟨lm s,ml s⟩
    rw[eq];exact bg _ (fun s q=>⟨q.1,q.2.1⟩) (Zsu w.ok.y)
   ·rw[if_neg e];exact other j hj e
  ·unfold Rs at hx;by_cases e:j=t
   ·subst e;rw[if_pos rfl] at hx;obtain⟨i',e1,e2,_⟩:=H9 hx;exact⟨i',e1,e2⟩
   ·rw[if_neg e] at hx;exact h.mem j hj x hx
  ·unfold Rs;by_cases e:j=t
   ·subst e;rw[if_pos rfl];have:=B5 r.1.y.bs (Rq c j r.1.y) (nS c j);have:=np.ko.nS_le np.ti;omega
   ·rw[if_neg e];exact h.sz j hj
end
section
variable{w w' W:World}{ca ta la:Option Addr}{cc tc lc:Nat}{c:Zh}{ss:List ByteArray}
def Mx(ts:List Ten):Bool:=ts.all fun t=>decide (t.cp≤60)
def E6(c:Zh):Bool:=decide (c.cl.length≤50∧c.ts.length≤50)&&(decide ((Qj c).1≤2000)&&(decide (Yc c=0)&&Mx c.ts))
def Zo1(ss:List ByteArray)(i:Nat):ByteArray:=ss.getD i ByteArray.empty
def Zjt(w:World)(a:Option Addr)(ss:List ByteArray):Prop:=∀i,i<ss.length→∃b o,a=some ⟨b,o,none⟩∧w.cell? ⟨b,o+i,none⟩=some (.string (Zo1 ss i))
theorem Zjt.ext(h:Zjt w la ss)(hx:Ext w w'):Zjt w' la ss:=fun i hi=>by
 obtain⟨b,o,e,q⟩:=h i hi;exact⟨b,o,e,hx.cell q⟩
theorem Zjt.pos(h:Zjt w la ss)(h0:0<ss.length):∃b o,la=some ⟨b,o,none⟩∧∀i,i<ss.length→w.cell? ⟨b,o+i,none⟩=some (.string (Zo1 ss i)):=by
 obtain⟨b,o,rfl,_⟩:=h 0 h0;refine⟨b,o,rfl,fun i hi=>?_⟩;obtain⟨b',o',e,hc⟩:=h i hi;cases e;exact hc
structure LAt(w:World)(a:Option Addr)(cap:Nat)(ss:List ByteArray):Prop where
 l:Zjt w a ss
 m:ss.length≤cap∧cap≤maxLen
 s:∀i,i<ss.length→(Zo1 ss i).size≤maxLen
theorem LAt.ext(h:LAt w la lc ss)(hx:Ext w w'):LAt w' la lc ss:=⟨h.l.ext hx,h.m,h.s⟩
def My(ss:List ByteArray):Bool:=ss.all fun s=>decide (s.size≤255)
def Zo2(c:Zh)(ss:List ByteArray)(most:Int):Bool:=My ss&&(decide ((ss.length:Int)≤most)&&E6 c)
theorem Zom(ss:List ByteArray)(k:Nat)(h:k<ss.length):ss.drop k=Zo1 ss k :: ss.drop (k+1):=by
 rw[List.drop_eq_getElem_cons h];unfold Zo1;simp[List.getD,h]
theorem Ze7(t:Ten)(l:List Ten):Mx (t :: l)=(decide (t.cp≤60)&&Mx l):=rfl
theorem Ze8(s:ByteArray)(l:List ByteArray):My (s :: l)=(decide (s.size≤255)&&My l):=rfl
theorem Ze9{b:Bool}(hb:E6 c=b)(h:Y7 w ca ta cc tc c) :
  Calls prog 33 #[.agg #[.slice ca c.cl.length cc,c.page,.slice ta c.ts.length tc,c.wk,c.gr,c.gens]] w fun e w'=>e=.returned (.bool b)∧Ext w w':=by
 obtain⟨⟨p,q⟩,hpq⟩:∃pq,Qj c=pq:=⟨_,rfl⟩;have PQ:=Za hpq;obtain⟨hx,h1⟩:=Zd w (Zf ca cc ta tc c);have tm:=h.tm;have cm:=h.cm;unfold maxLen at tm cm;have H:=Za h;have SP:=Za (show(decide (c.cl.length≤50∧c.ts.length≤50)&&(decide (p≤2000)&&(decide (Yc c=0)&&Mx c.ts)))=b by rw[←hb];unfold E6;rw[hpq]);clear h hb hpq;go_enter func33,ntmps33;go_wp2_with fail;refine(Zc5 c p q PQ.out (H.out.ext (hx.trans h1))).ze fun w1 h2=>?_;replace h1:=h1.trans h2;clear h2;obtain⟨b0,b1,b2,b3,b4,b5⟩:=Vo h1;go_wp2_with fail;clear b0 b1 b2 b3 b4 b5;by_cases hs:c.cl.length≤50∧c.ts.length≤50
 ·have HS:=Za (show decide (c.cl.length≤50∧c.ts.length≤50)=true by simpa using hs);refine(J4 c true HS.out (H.out.ext (hx.trans h1))).ze fun w2 h2=>?_;replace h1:=h1.trans h2;clear h2;obtain⟨b0,b1,b2,b3,b4,b5⟩:=Vo h1;clear hs;by_cases hp:2000<p
  ·have tp:decide (2000<p)=true:=Zyy hp;have E:=Za (show b=false by have:=SP.out;rw[Zyx (show ¬p≤2000 by omega)] at this;simpa using this.symm);clear hp;go_wp2;go_ret;exact⟨by rw[E.out];rfl,hx.trans h1⟩
  ·have tp:decide (2000<p)=false:=Zyx hp;have SP1:=Za (show(decide (Yc c=0)&&Mx c.ts)=b by have:=SP.out;rw[HS.out,Zyy (show p≤2000 by omega)] at this;simpa using this);clear hp;go_wp2_with fail;clear b0 b1 b2 b3 b4 b5 tp;by_cases h0:Yc c=0
   ·have H0:=Za h0;have ho:=Y8 h0;have t1:=ho.head.2.2.1;have t8:=ho.head.2.2.2.1;have SP2:=Za (show Mx c.ts=b by have:=SP1.out;rw[Zyy h0] at this;simpa using this);clear h0 ho;refine(Tu c 0 H0.out (H.out.ext (hx.trans h1))).ze fun w3 h2=>?_;replace h1:=h1.trans h2;clear h2;obtain⟨b0,b1,b2,b3,b4,b5⟩:=Vo h1;go_wp2_with fail;clear b0 b1 b2 b3 b4 b5;obtain⟨tb,to_,rfl,ht⟩:=H.out.ts.pos (by omega);have HT:=Za ht;clear ht
    go_loopw [5] (fun i wr=>∃k:Nat,k≤c.ts.length∧i=.int .i64 k∧Hid (Mx (c.ts.drop k)=b)∧Ext (w.alloc (.cells #[.slice ca c.cl.length cc,c.page,.slice (some ⟨tb,to_,none⟩) c.ts.length tc,c.wk,c.gr,c.gens] 25)) wr) (fun i _=>c.ts.length-(intOf i).toNat)
    case atStart=>exact⟨0,Nat.zero_le _,rfl,SP2,h1⟩
    case round=>
     clear h1;obtain⟨k,hk,rfl,HE,h1⟩:=hrel;obtain⟨b0,b1,b2,b3,b4,b5⟩:=Vo h1;by_cases hlt:k<c.ts.length
     ·obtain⟨q0,q1,q2,q3⟩:=HT.out k hlt;have HD:=Za (show(decide ((Vg c.ts k).cp≤60)&&Mx (c.ts.drop (k+1)))=b by rw[←HE.out,Jy c.ts k hlt,Ze7]);have r2:=(hx.trans h1).cell q2;clear q0 q1 q2 q3
      generalize Vg c.ts k=t at *
      by_cases e1:60<t.cp
      ·have tp:decide (60<t.cp)=true:=Zyy e1;have E:=Za (show b=false by have:=HD.out;rw[Zyx (show ¬t.cp≤60 by omega)] at this;simpa using this.symm);clear e1;go_wp2;go_ret;exact⟨by rw[E.out];rfl,hx.trans h1⟩
      ·have tp:decide (60<t.cp)=false:=Zyx e1;have E:=Za (show Mx (c.ts.drop (k+1))=b by have:=HD.out;rw[Zyy (show t.cp≤60 by omega)] at this;simpa using this);clear e1;go_wp2;go_roundw
       case rel=>exact⟨k+1,by omega,by go_num,E,h1⟩
       case measure=>simp[intOf];omega
     ·have hkn:k=c.ts.length:=by omega
      have E:=Za (show b=true by rw[←HE.out,hkn,List.drop_length];rfl);clear hkn;go_wp2;go_ret;exact⟨by rw[E.out];rfl,hx.trans h1⟩
   ·have H2:=Za ((Np c).resolve_left h0);have E:=Za (show b=false by have:=SP1.out;rw[Zyx h0] at this;simpa using this.symm);clear h0;refine(Tu c 2 H2.out (H.out.ext (hx.trans h1))).ze fun w3 h2=>?_;replace h1:=h1.trans h2;clear h2;obtain⟨b0,b1,b2,b3,b4,b5⟩:=Vo h1;go_wp2;go_ret;exact⟨by rw[E.out];rfl,hx.trans h1⟩
 ·have HS:=Za (show decide (c.cl.length≤50∧c.ts.length≤50)=false by simpa using hs);have E:=Za (show b=false by have:=SP.out;rw[HS.out] at this;simpa using this.symm);clear hs;refine(J4 c false HS.out (H.out.ext (hx.trans h1))).ze fun w2 h2=>?_;replace h1:=h1.trans h2;clear h2;obtain⟨b0,b1,b2,b3,b4,b5⟩:=Vo h1;go_wp2;go_ret;exact⟨by rw[E.out];rfl,hx.trans h1⟩
theorem Zfa{b:Bool}(hb:Zo2 c ss 80=b)(h:Y7 w ca ta cc tc c)(hl:LAt w la lc ss) :
  Calls prog 6 #[.agg #[.slice ca c.cl.length cc,c.page,.slice ta c.ts.length tc,c.wk,c.gr,c.gens],.slice la ss.length lc,(80:Int)] w fun e w'=>e=.returned (.bool b)∧Ext w w':=by
 obtain⟨hx,h1⟩:=Zd w (Zf ca cc ta tc c);have lm:=hl.m;unfold maxLen at lm;obtain⟨lm1,lm2⟩:=lm;have H:=Za h;have L:=Za hl;have SP:=Za hb;clear h hb hl;go_enter func6,ntmps6;go_wp2_with fail
 go_loopw [7] (fun i wr=>∃k:Nat,k≤ss.length∧i=.int .i64 k∧Hid (My ss=My (ss.drop k))∧Ext (w.alloc (.cells #[.slice ca c.cl.length cc,c.page,.slice ta c.ts.length tc,c.wk,c.gr,c.gens] 25)) wr) (fun i _=>ss.length-(intOf i).toNat)
 case atStart=>exact⟨0,Nat.zero_le _,rfl,rfl,h1⟩
 case round=>
  clear h1;obtain⟨k,hk,rfl,HE,h1⟩:=hrel;obtain⟨b0,b1,b2,b3,b4,b5⟩:=Vo h1;by_cases hlt:k<ss.length
  ·obtain⟨lb,lo,rfl,hc⟩:=L.out.l.pos (by omega);have r0:=(hx.trans h1).cell (hc k hlt);have HD:=Za (show My ss=(decide ((Zo1 ss k).size≤255)&&My (ss.drop (k+1))) by rw[HE.out,Zom ss k hlt,Ze8]);have sm:=L.out.s k hlt;unfold maxLen at sm;clear hc
   generalize Zo1 ss k=s at *
   by_cases e1:255<(s.size:Int)
   ·have tp:decide (255<(s.size:Int))=true:=Zyy e1;have E:=Za (show b=false by rw[←SP.out];unfold Zo2;rw[HD.out,Zyx (show ¬s.size≤255 by omega)];rfl);clear e1;go_wp2;go_ret;exact⟨by rw[E.out];rfl,hx.trans h1⟩
   ·have tp:decide (255<(s.size:Int))=false:=Zyx e1;have E:=Za (show My ss=My (ss.drop (k+1)) by rw[HD.out,Zyy (show s.size≤255 by omega)];rfl);clear e1;go_wp2;go_roundw
    case rel=>exact⟨k+1,by omega,by go_num,E,h1⟩
    case measure=>simp[intOf];omega
  ·have hkn:k=ss.length:=by omega
   have E:=Za (show(decide ((ss.length:Int)≤80)&&E6 c)=b by rw[←SP.out];unfold Zo2;rw[HE.out,hkn,List.drop_length];rfl);clear hkn;by_cases e1:(ss.length:Int)≤80
   ·have tp:decide ((ss.length:Int)≤80)=true:=Zyy e1;have S:=Za (show E6 c=b by have:=E.out;rw[tp] at this;simpa using this);clear e1;go_wp2_with fail;refine(Ze9 S.out (H.out.ext (hx.trans h1))).ze fun w2 h2=>?_;go_wp2;go_ret;exact⟨rfl,(hx.trans h1).trans h2⟩
   ·have tp:decide ((ss.length:Int)≤80)=false:=Zyx e1;have E2:=Za (show b=false by have:=E.out;rw[tp] at this;simpa using this.symm);clear e1;go_wp2;go_ret;exact⟨by rw[E2.out];rfl,hx.trans h1⟩
end
section
variable{w w' W:World}{ca ta la:Option Addr}{cc tc lc:Nat}{c:Zh}
instance Zxf(c:Zh)(bs:List Int):Decidable (Zj1 c bs):=by unfold Zj1;infer_instance
theorem Zve(c:Zh)(bs:List Int):decide (Zj1 c bs)=((Tg bs).2&&(decide ((Tg bs).1.kind=1)&&decide ((Tg bs).1.tenant<(c.ts.length:Int)))):=by
 unfold Zj1;by_cases h1:(Tg bs).2=true<;>by_cases h2:(Tg bs).1.kind=1<;>by_cases h3:(Tg bs).1.tenant<(c.ts.length:Int)<;>simp[h1,h2,h3]
theorem lbe(w:World){z:Nat}(hz:w.heap.size=z)(ca ta:Option Addr)(cc tc:Nat)(c:Zh) :
  ∃W,(w.alloc (.cells #[.slice ca c.cl.length cc,c.page,.slice ta c.ts.length tc,c.wk,c.gr,c.gens] 25)).alloc (.cells #[.int .u8 0,(0:Int),.int .u8 0,.int .u64 0,(0:Int),(0:Int),.int .u64 0,(0:Int),.int .u8 0] 38)=W∧Zn W z [.slice ca c.cl.length cc,c.page,.slice ta c.ts.length tc,c.wk,c.gr,c.gens]∧Zn W (z+1) [.int .u8 0,(0:Int),.int .u8 0,.int .u64 0,(0:Int),(0:Int),.int .u64 0,(0:Int),.int .u8 0]∧Ext w W:=
 ⟨_,rfl,(Zn.new w _ _ hz).ext ((Zy2 _).alloc _),Zn.new _ _ _ (by simp[hz]),((Zy2 w).alloc _).alloc _⟩
theorem Zon(s:ByteArray){x:EnI}{b:Bool}(hx:(Tg (sbs s)).1=x)(hb:decide (Zj1 c (sbs s))=b)(tm:c.ts.length≤maxLen) :
  Calls prog 8 #[.agg #[.slice ca c.cl.length cc,c.page,.slice ta c.ts.length tc,c.wk,c.gr,c.gens],.string s] w fun e w'=>e=.returned (.tuple #[enV x,b])∧Ext w w':=by
 obtain⟨z,hz⟩:=Zb (w.heap.size);obtain⟨W0,hW0,b0,bz,x0⟩:=lbe w hz ca ta cc tc c;have FIN:Hid (∀W v0 v1 v2 v3 v4 v5 v6 v7 v8,Ext W0 W→Bq (put9 W (z+1) v0 v1 v2 v3 v4 v5 v6 v7 v8) (z+1) v0 v1 v2 v3 v4 v5 v6 v7 v8∧Ext w (put9 W (z+1) v0 v1 v2 v3 v4 v5 v6 v7 v8)):=Za fun W v0 v1 v2 v3 v4 v5 v6 v7 v8 q=>
  ⟨((bz.ext q).put9 v0 v1 v2 v3 v4 v5 v6 v7 v8).read9,(Xs W (z+1) v0 v1 v2 v3 v4 v5 v6 v7 v8).over (x0.trans q) fun k e=>by have e1:k=z+1:=e;omega⟩
 have B0:=Za b0;have BZ:=Za bz;rw[Zve] at hb;obtain⟨rb,hrb⟩:=Zb ((Tg (sbs s)).2);obtain⟨g0,hg0⟩:∃g0:Int,(if rb then (0:Int) else 250)=g0:=⟨_,rfl⟩;have RG:=Za (Zn5 (w:=W0) s (x:=x) (k:=g0) hx (by rw[hrb];exact hg0));rw[hrb,hx] at hb;obtain⟨ek,et,⟨oc,oh,oa,ob,ov⟩,ew,em⟩:=x;simp only at hb;unfold enV at RG ⊢
 (try simp only at RG ⊢)
 have HB:=Za hb;have HK:=Za hg0;unfold maxLen at tm;clear hx hrb b0 bz x0 hb hg0;go_enter func8,ntmps8;go_wp2_with fail;refine RG.out.ze fun w1 x1=>?_;obtain⟨W2,hW2,b2,x2⟩:=newBox w1 38 [.int .u8 ek,et,.int .u8 oc,.int .u64 oh,oa,ob,.int .u64 ov,ew,.int .u8 em];have B2:=Za b2;have X2:=Za (x1.trans x2);have sz1:z+1<w1.heap.size:=by have:=(BZ.out.ext x1).lt;omega
 have ne1:z+1≠w1.heap.size:=by omega
 have ne2:w1.heap.size≠z+1:=by omega
 have ne3:z≠z+1:=by omega
 obtain⟨kk0,kk1,kk2,kk3,kk4,kk5,kk6,kk7,kk8⟩:=b2.k9;have v2:=(B0.out.ext (x1.trans x2)).c 2 _ rfl;have bq:=BZ.out.ext (x1.trans x2);obtain⟨q0,q1,q2,q3,q4,q5,q6,q7,q8⟩:=bq.k9;obtain⟨r0,r1,r2,r3,r4,r5,r6,r7,r8⟩:=bq.g9;have S9:Hid ((put9 W2 (z+1) (.int .u8 ek) (.int .i64 et) (.int .u8 oc) (.int .u64 oh) (.int .i64 oa) (.int .i64 ob) (.int .u64 ov) (.int .i64 ew) (.int .u8 em)).drew.cell? w1.heap.size=some (.int .u8 ek)∧(put9 W2 (z+1) (.int .u8 ek) (.int .i64 et) (.int .u8 oc) (.int .u64 oh) (.int .i64 oa) (.int .i64 ob) (.int .u64 ov) (.int .i64 ew) (.int .u8 em)).drew.cell? ⟨w1.heap.size,1,none⟩=some (.int .i64 et)∧(put9 W2 (z+1) (.int .u8 ek) (.int .i64 et) (.int .u8 oc) (.int .u64 oh) (.int .i64 oa) (.int .i64 ob) (.int .u64 ov) (.int .i64 ew) (.int .u8 em)).drew.cell? ⟨w1.heap.size,2,none⟩=some (.int .u8 oc)∧(put9 W2 (z+1) (.int .u8 ek) (.int .i64 et) (.int .u8 oc) (.int .u64 oh) (.int .i64 oa) (.int .i64 ob) (.int .u64 ov) (.int .i64 ew) (.int .u8 em)).drew.cell? ⟨w1.heap.size,3,none⟩=some (.int .u64 oh)∧(put9 W2 (z+1) (.int .u8 ek) (.int .i64 et) (.int .u8 oc) (.int .u64 oh) (.int .i64 oa) (.int .i64 ob) (.int .u64 ov) (.int .i64 ew) (.int .u8 em)).drew.cell? ⟨w1.heap.size,4,none⟩=some (.int .i64 oa)∧(put9 W2 (z+1) (.int .u8 ek) (.int .i64 et) (.int .u8 oc) (.int .u64 oh) (.int .i64 oa) (.int .i64 ob) (.int .u64 ov) (.int .i64 ew) (.int .u8 em)).drew.cell? ⟨w1.heap.size,5,none⟩=some (.int .i64 ob)∧(put9 W2 (z+1) (.int .u8 ek) (.int .i64 et) (.int .u8 oc) (.int .u64 oh) (.int .i64 oa) (.int .i64 ob) (.int .u64 ov) (.int .i64 ew) (.int .u8 em)).drew.cell? ⟨w1.heap.size,6,none⟩=some (.int .u64 ov)∧(put9 W2 (z+1) (.int .u8 ek) (.int .i64 et) (.int .u8 oc) (.int .u64 oh) (.int .i64 oa) (.int .i64 ob) (.int .u64 ov) (.int .i64 ew) (.int .u8 em)).drew.cell? ⟨w1.heap.size,7,none⟩=some (.int .i64 ew)∧(put9 W2 (z+1) (.int .u8 ek) (.int .i64 et) (.int .u8 oc) (.int .u64 oh) (.int .i64 oa) (.int .i64 ob) (.int .u64 ov) (.int .i64 ew) (.int .u8 em)).drew.cell? ⟨w1.heap.size,8,none⟩=some (.int .u8 em)∧(put9 W2 (z+1) (.int .u8 ek) (.int .i64 et) (.int .u8 oc) (.int .u64 oh) (.int .i64 oa) (.int .i64 ob) (.int .u64 ov) (.int .i64 ew) (.int .u8 em)).drew.cell? ⟨z,2,none⟩=some (.slice ta c.ts.length tc)):=Za (by
  have far:∀k i,z+1≠k→(put9 W2 (z+1) (.int .u8 ek) (.int .i64 et) (.int .u8 oc) (.int .u64 oh) (.int .i64 oa) (.int .i64 ob) (.int .u64 ov) (.int .i64 ew) (.int .u8 em)).drew.cell? ⟨k,i,none⟩=W2.cell? ⟨k,i,none⟩:=fun k i hk=>by
   rw[World.cell?_drew];unfold put9
   iterate 9 rw[cell_far _ _ _ _ hk]
  exact⟨(far _ _ ne1).trans kk0,(far _ _ ne1).trans kk1,(far _ _ ne1).trans kk2,(far _ _ ne1).trans kk3,(far _ _ ne1).trans kk4,(far _ _ ne1).trans kk5,(far _ _ ne1).trans kk6,(far _ _ ne1).trans kk7,(far _ _ ne1).trans kk8,(far _ _ ne3.symm).trans v2⟩)
 have S1:Hid (W2.drew.cell? w1.heap.size=some (.int .u8 ek)∧W2.drew.cell? ⟨w1.heap.size,1,none⟩=some (.int .i64 et)∧W2.drew.cell? ⟨w1.heap.size,2,none⟩=some (.int .u8 oc)∧W2.drew.cell? ⟨w1.heap.size,3,none⟩=some (.int .u64 oh)∧W2.drew.cell? ⟨w1.heap.size,4,none⟩=some (.int .i64 oa)∧W2.drew.cell? ⟨w1.heap.size,5,none⟩=some (.int .i64 ob)∧W2.drew.cell? ⟨w1.heap.size,6,none⟩=some (.int .u64 ov)∧W2.drew.cell? ⟨w1.heap.size,7,none⟩=some (.int .i64 ew)∧W2.drew.cell? ⟨w1.heap.size,8,none⟩=some (.int .u8 em)∧W2.drew.cell? ⟨z,2,none⟩=some (.slice ta c.ts.length tc)):=Za ⟨kk0,kk1,kk2,kk3,kk4,kk5,kk6,kk7,kk8,v2⟩;clear x1 x2 b2 RG bq hW0 hz
 go_upto_region 2 with fail
 try rw[hW2]
 clear hW2;cases rb with
 | false=>
  obtain rfl:(250:Int)=g0:=HK.out;obtain rfl:false=b:=HB.out;refine wp_region_noPanic ?_;refine wp_region_held_drew (S:=(fun W'=>W'.cell? w1.heap.size=some (.int .u8 ek)∧W'.cell? ⟨w1.heap.size,1,none⟩=some (.int .i64 et)∧W'.cell? ⟨w1.heap.size,2,none⟩=some (.int .u8 oc)∧W'.cell? ⟨w1.heap.size,3,none⟩=some (.int .u64 oh)∧W'.cell? ⟨w1.heap.size,4,none⟩=some (.int .i64 oa)∧W'.cell? ⟨w1.heap.size,5,none⟩=some (.int .i64 ob)∧W'.cell? ⟨w1.heap.size,6,none⟩=some (.int .u64 ov)∧W'.cell? ⟨w1.heap.size,7,none⟩=some (.int .i64 ew)∧W'.cell? ⟨w1.heap.size,8,none⟩=some (.int .u8 em)∧W'.cell? ⟨z,2,none⟩=some (.slice ta c.ts.length tc))) (by kernel_rfl) ?_ (fun hHeld=>?_)
  focus ((try dsimp only);(first|with_reducible exact S1.out|with_reducible exact S9.out|with_reducible assumption))
  refine Zyv 0 (v:=?_) ?_ ?_;rotate_left
  focus (intro w hSw;(try dsimp only at hSw);go_simp;try with_reducible rfl)
  try simp only[Zyt]
  refine Zyv 1 (v:=?_) ?_ ?_;rotate_left
  focus (intro w hSw;(try dsimp only at hSw);go_simp;try with_reducible rfl)
  try simp only[Zyt]
  refine Zyv 2 (v:=?_) ?_ ?_;rotate_left
  focus (intro w hSw;(try dsimp only at hSw);go_simp;try with_reducible rfl)
  try simp only[Zyt]
  refine Zyv 3 (v:=?_) ?_ ?_;rotate_left
  focus (intro w hSw;(try dsimp only at hSw);go_simp;try with_reducible rfl)
  try simp only[Zyt]
  refine Zyw 4 ?_
  try simp only[Zyt]
  refine Zyw 5 ?_
  try simp only[Zyt]
  refine Zyw 6 ?_
  try simp only[Zyt]
  refine Zyv 7 (v:=?_) ?_ ?_;rotate_left
  focus (intro w hSw;(try dsimp only at hSw);go_simp;try with_reducible rfl)
  try simp only[Zyt]
  refine Zyv 8 (v:=?_) ?_ ?_;rotate_left
  focus (intro w hSw;(try dsimp only at hSw);go_simp;try with_reducible rfl)
  try simp only[Zyt]
  refine Zyw 9 ?_
  try simp only[Zyt]
  refine Zyw 10 ?_
  try simp only[Zyt]
  refine Zyw 11 ?_
  try simp only[Zyt]
  refine Zyw 12 ?_
  try simp only[Zyt]
  refine Zyw 13 ?_
  try simp only[Zyt]
  refine Zyw 14 ?_
  try simp only[Zyt]
  refine Zyv 15 (v:=?_) ?_ ?_;rotate_left
  focus (intro w hSw;(try dsimp only at hSw);go_simp;try with_reducible rfl)
  try simp only[Zyt]
  refine wpAnyH_ready (rs:=[16]) (by kernel_rfl) (by simp) ?_;refine AllReadyH.cons (i:=16) rfl (fun K hK=>?_) AllReadyH.nil;go_simp;refine hK.out _ _ ?_ (fun hHeld=>?_)
  focus ((try dsimp only);(first|with_reducible exact S1.out|with_reducible exact S9.out|with_reducible assumption))
  clear hK K
  try simp only[Zyt]
  refine wpAnyH_ready (rs:=[17]) (by kernel_rfl) (by simp) ?_;refine AllReadyH.cons (i:=17) rfl (fun K hK=>?_) AllReadyH.nil;go_simp;refine hK.out _ _ ?_ (fun hHeld=>?_)
  focus ((try dsimp only);(first|with_reducible exact S1.out|with_reducible exact S9.out|with_reducible assumption))
  clear hK K
  try simp only[Zyt]
  refine wpAnyH_done (by kernel_rfl) ?_ _
  all_goals (refine NoPanic.normal ?_)
  go_wp2_with fail;obtain⟨r9,xx⟩:=FIN.out W2 (.int .u8 ek) (.int .i64 et) (.int .u8 oc) (.int .u64 oh) (.int .i64 oa) (.int .i64 ob) (.int .u64 ov) (.int .i64 ew) (.int .u8 em) X2.out;have r9:=r9.ext (Zy2 _).drew;refine bodyPost_ret (v:=.tuple #[.agg #[.int .u8 ek,et,.int .u8 oc,.int .u64 oh,oa,ob,.int .u64 ov,ew,.int .u8 em],false]) (by simp[results,results8,go_sem,r9.c0,r9.c1,r9.c2,r9.c3,r9.c4,r9.c5,r9.c6,r9.c7,r9.c8]) rfl ⟨rfl,xx.drew⟩
 | true=>
  obtain rfl:(0:Int)=g0:=HK.out;by_cases e1:ek=1
  ·subst e1;obtain⟨bb,tp⟩:=Zb (decide (et<(c.ts.length:Int)));obtain rfl:bb=b:=by have:=HB.out;rw[tp] at this;simpa using this
   refine wp_region_noPanic ?_;refine wp_region_held_drew (S:=(fun W'=>W'.cell? w1.heap.size=some (.int .u8 1)∧W'.cell? ⟨w1.heap.size,1,none⟩=some (.int .i64 et)∧W'.cell? ⟨w1.heap.size,2,none⟩=some (.int .u8 oc)∧W'.cell? ⟨w1.heap.size,3,none⟩=some (.int .u64 oh)∧W'.cell? ⟨w1.heap.size,4,none⟩=some (.int .i64 oa)∧W'.cell? ⟨w1.heap.size,5,none⟩=some (.int .i64 ob)∧W'.cell? ⟨w1.heap.size,6,none⟩=some (.int .u64 ov)∧W'.cell? ⟨w1.heap.size,7,none⟩=some (.int .i64 ew)∧W'.cell? ⟨w1.heap.size,8,none⟩=some (.int .u8 em)∧W'.cell? ⟨z,2,none⟩=some (.slice ta c.ts.length tc))) (by kernel_rfl) ?_ (fun hHeld=>?_)
   focus ((try dsimp only);(first|with_reducible exact S1.out|with_reducible exact S9.out|with_reducible assumption))
   refine Zyv 0 (v:=?_) ?_ ?_;rotate_left
   focus (intro w hSw;(try dsimp only at hSw);go_simp;try with_reducible rfl)
   try simp only[Zyt]
   refine Zyv 1 (v:=?_) ?_ ?_;rotate_left
   focus (intro w hSw;(try dsimp only at hSw);go_simp;try with_reducible rfl)
   try simp only[Zyt]
   refine Zyv 2 (v:=?_) ?_ ?_;rotate_left
   focus (intro w hSw;(try dsimp only at hSw);go_simp;try with_reducible rfl)
   try simp only[Zyt]
   refine Zyv 3 (v:=?_) ?_ ?_;rotate_left
   focus (intro w hSw;(try dsimp only at hSw);go_simp;try with_reducible rfl)
   try simp only[Zyt]
   refine Zyv 4 (v:=?_) ?_ ?_;rotate_left
   focus (intro w hSw;(try dsimp only at hSw);go_simp;try with_reducible rfl)
   try simp only[Zyt]
   refine Zyv 5 (v:=?_) ?_ ?_;rotate_left
   focus (intro w hSw;(try dsimp only at hSw);go_simp;try with_reducible rfl)
   try simp only[Zyt]
   refine Zyv 6 (v:=?_) ?_ ?_;rotate_left
   focus (intro w hSw;(try dsimp only at hSw);go_simp;try with_reducible rfl)
   try simp only[Zyt]
   refine Zyv 7 (v:=?_) ?_ ?_;rotate_left
   focus (intro w hSw;(try dsimp only at hSw);go_simp;try with_reducible rfl)
   try simp only[Zyt]
   refine Zyv 8 (v:=?_) ?_ ?_;rotate_left
   focus (intro w hSw;(try dsimp only at hSw);go_simp;try with_reducible rfl)
   try simp only[Zyt]
   refine Zyv 9 (v:=?_) ?_ ?_;rotate_left
   focus (intro w hSw;(try dsimp only at hSw);go_simp;try with_reducible rfl)
   try simp only[Zyt]
   refine Zyv 10 (v:=?_) ?_ ?_;rotate_left
   focus (intro w hSw;(try dsimp only at hSw);go_simp;try with_reducible rfl)
   try simp only[Zyt]
   refine Zyv 11 (v:=?_) ?_ ?_;rotate_left
   focus (intro w hSw;(try dsimp only at hSw);go_simp;try with_reducible rfl)
   try simp only[Zyt]
   refine Zyv 12 (v:=?_) ?_ ?_;rotate_left
   focus (intro w hSw;(try dsimp only at hSw);go_simp;try with_reducible rfl)
   try simp only[Zyt]
   refine Zyv 13 (v:=?_) ?_ ?_;rotate_left
   focus (intro w hSw;(try dsimp only at hSw);go_simp;try with_reducible rfl)
   try simp only[Zyt]
   refine Zyv 14 (v:=?_) ?_ ?_;rotate_left
   focus (intro w hSw;(try dsimp only at hSw);go_simp;try with_reducible rfl)
   try simp only[Zyt]
   refine Zyv 15 (v:=?_) ?_ ?_;rotate_left
   focus (intro w hSw;(try dsimp only at hSw);go_simp;try with_reducible rfl)
   try simp only[Zyt]
   refine wpAnyH_ready (rs:=[16]) (by kernel_rfl) (by simp) ?_;refine AllReadyH.cons (i:=16) rfl (fun K hK=>?_) AllReadyH.nil;go_simp;refine hK.out _ _ ?_ (fun hHeld=>?_)
   focus ((try dsimp only);(first|with_reducible exact S1.out|with_reducible exact S9.out|with_reducible assumption))
   clear hK K
   try simp only[Zyt]
   refine wpAnyH_ready (rs:=[17]) (by kernel_rfl) (by simp) ?_;refine AllReadyH.cons (i:=17) rfl (fun K hK=>?_) AllReadyH.nil;go_simp;refine hK.out _ _ ?_ (fun hHeld=>?_)
   focus ((try dsimp only);(first|with_reducible exact S1.out|with_reducible exact S9.out|with_reducible assumption))
   clear hK K
   try simp only[Zyt]
   refine wpAnyH_done (by kernel_rfl) ?_ _
   all_goals (refine NoPanic.normal ?_)
   go_wp2_with fail;obtain⟨r9,xx⟩:=FIN.out W2 (.int .u8 1) (.int .i64 et) (.int .u8 oc) (.int .u64 oh) (.int .i64 oa) (.int .i64 ob) (.int .u64 ov) (.int .i64 ew) (.int .u8 em) X2.out;have r9:=r9.ext (Zy2 _).drew;refine bodyPost_ret (v:=.tuple #[.agg #[.int .u8 1,et,.int .u8 oc,.int .u64 oh,oa,ob,.int .u64 ov,ew,.int .u8 em],bb]) (by simp[results,results8,go_sem,r9.c0,r9.c1,r9.c2,r9.c3,r9.c4,r9.c5,r9.c6,r9.c7,r9.c8]) rfl ⟨rfl,xx.drew⟩
  ·have tp:(ek==1)=false:=by simpa using e1
   obtain rfl:false=b:=by have:=HB.out;rw[Zyx e1] at this;simpa using this
   refine wp_region_noPanic ?_;refine wp_region_held_drew (S:=(fun W'=>W'.cell? w1.heap.size=some (.int .u8 ek)∧W'.cell? ⟨w1.heap.size,1,none⟩=some (.int .i64 et)∧W'.cell? ⟨w1.heap.size,2,none⟩=some (.int .u8 oc)∧W'.cell? ⟨w1.heap.size,3,none⟩=some (.int .u64 oh)∧W'.cell? ⟨w1.heap.size,4,none⟩=some (.int .i64 oa)∧W'.cell? ⟨w1.heap.size,5,none⟩=some (.int .i64 ob)∧W'.cell? ⟨w1.heap.size,6,none⟩=some (.int .u64 ov)∧W'.cell? ⟨w1.heap.size,7,none⟩=some (.int .i64 ew)∧W'.cell? ⟨w1.heap.size,8,none⟩=some (.int .u8 em)∧W'.cell? ⟨z,2,none⟩=some (.slice ta c.ts.length tc))) (by kernel_rfl) ?_ (fun hHeld=>?_)
   focus ((try dsimp only);(first|with_reducible exact S1.out|with_reducible exact S9.out|with_reducible assumption))
   refine Zyv 0 (v:=?_) ?_ ?_;rotate_left
   focus (intro w hSw;(try dsimp only at hSw);go_simp;try with_reducible rfl)
   try simp only[Zyt]
   refine Zyv 1 (v:=?_) ?_ ?_;rotate_left
   focus (intro w hSw;(try dsimp only at hSw);go_simp;try with_reducible rfl)
   try simp only[Zyt]
   refine Zyv 2 (v:=?_) ?_ ?_;rotate_left
   focus (intro w hSw;(try dsimp only at hSw);go_simp;try with_reducible rfl)
   try simp only[Zyt]
   refine Zyv 3 (v:=?_) ?_ ?_;rotate_left
   focus (intro w hSw;(try dsimp only at hSw);go_simp;try with_reducible rfl)
   try simp only[Zyt]
   refine Zyv 4 (v:=?_) ?_ ?_;rotate_left
   focus (intro w hSw;(try dsimp only at hSw);go_simp;try with_reducible rfl)
   try simp only[Zyt]
   refine Zyv 5 (v:=?_) ?_ ?_;rotate_left
   focus (intro w hSw;(try dsimp only at hSw);go_simp;try with_reducible rfl)
   try simp only[Zyt]
   refine Zyv 6 (v:=?_) ?_ ?_;rotate_left
   focus (intro w hSw;(try dsimp only at hSw);go_simp;try with_reducible rfl)
   try simp only[Zyt]
   refine Zyv 7 (v:=?_) ?_ ?_;rotate_left
   focus (intro w hSw;(try dsimp only at hSw);go_simp;try with_reducible rfl)
   try simp only[Zyt]
   refine Zyv 8 (v:=?_) ?_ ?_;rotate_left
   focus (intro w hSw;(try dsimp only at hSw);go_simp;try with_reducible rfl)
   try simp only[Zyt]
   refine Zyw 9 ?_
   try simp only[Zyt]
   refine Zyw 10 ?_
   try simp only[Zyt]
   refine Zyw 11 ?_
   try simp only[Zyt]
   refine Zyw 12 ?_
   try simp only[Zyt]
   refine Zyw 13 ?_
   try simp only[Zyt]
   refine Zyw 14 ?_
   try simp only[Zyt]
   refine Zyv 15 (v:=?_) ?_ ?_;rotate_left
   focus (intro w hSw;(try dsimp only at hSw);go_simp;try with_reducible rfl)
   try simp only[Zyt]
   refine wpAnyH_ready (rs:=[16]) (by kernel_rfl) (by simp) ?_;refine AllReadyH.cons (i:=16) rfl (fun K hK=>?_) AllReadyH.nil;go_simp;refine hK.out _ _ ?_ (fun hHeld=>?_)
   focus ((try dsimp only);(first|with_reducible exact S1.out|with_reducible exact S9.out|with_reducible assumption))
   clear hK K
   try simp only[Zyt]
   refine wpAnyH_ready (rs:=[17]) (by kernel_rfl) (by simp) ?_;refine AllReadyH.cons (i:=17) rfl (fun K hK=>?_) AllReadyH.nil;go_simp;refine hK.out _ _ ?_ (fun hHeld=>?_)
   focus ((try dsimp only);(first|with_reducible exact S1.out|with_reducible exact S9.out|with_reducible assumption))
   clear hK K
   try simp only[Zyt]
   refine wpAnyH_done (by kernel_rfl) ?_ _
   all_goals (refine NoPanic.normal ?_)
   go_wp2_with fail;obtain⟨r9,xx⟩:=FIN.out W2 (.int .u8 ek) (.int .i64 et) (.int .u8 oc) (.int .u64 oh) (.int .i64 oa) (.int .i64 ob) (.int .u64 ov) (.int .i64 ew) (.int .u8 em) X2.out;have r9:=r9.ext (Zy2 _).drew;refine bodyPost_ret (v:=.tuple #[.agg #[.int .u8 ek,et,.int .u8 oc,.int .u64 oh,oa,ob,.int .u64 ov,ew,.int .u8 em],false]) (by simp[results,results8,go_sem,r9.c0,r9.c1,r9.c2,r9.c3,r9.c4,r9.c5,r9.c6,r9.c7,r9.c8]) rfl ⟨rfl,xx.drew⟩
end
section
variable{w w' W:World}
def Vm:Nat→Int→ByteArray→ByteArray
 | 0,_,s=>s
 | m+1,n,s=>Vm m (n / 256) (⟨#[UInt8.ofNat (n % 256).toNat]⟩++s)
theorem Zsx(W:World)(u:Int)(h1:0≤u)(h2:u<256):(Go.convert 165 9 (.slice (some ⟨W.heap.size,0,none⟩) 1 1)).run prog (W.alloc (.cells #[.int .u8 u] 5))=.ok (.string ⟨#[UInt8.ofNat u.toNat]⟩) (W.alloc (.cells #[.int .u8 u] 5)):=by
 have:=run_convert_bytes_back (P:=prog) (W.alloc (.cells #[.int .u8 u] 5)) 165 9 5 ⟨W.heap.size,0,none⟩ 1 [UInt8.ofNat u.toNat] underlying165 underlying5 underlying9 (fun j hj=>by
  have:j=0:=by simp at hj;omega
  subst this;rw[Addr.add_lit];have e:((UInt8.ofNat u.toNat).toNat:Int)=u:=by
   rw[UInt8.toNat_ofNat'];omega
  simp only[List.getElem_cons_zero,e];exact Zr W _ _)
 simpa using this
theorem Zgt(b:UInt8){s:ByteArray}{i:Nat}(h:s.size=i):((⟨#[b]⟩:ByteArray)++s).size=i+1:=by
 rw[ByteArray.size_append,h];show 1+i=i+1
 omega
theorem Wf:∀(m:Nat) (n:Int) (s:ByteArray),(Vm m n s).size=m+s.size
 | 0,_,s=>by show s.size=0+s.size;omega
 | m+1,n,s=>by
  show(Vm m (n / 256) _).size=_
  rw[Wf m,Zgt _ rfl];omega
theorem Vf{n:Int}{m:Nat}{S:ByteArray}(hn:0≤n∧n<18446744073709551616)(hm:m≤8)(hS:Vm m n ByteArray.empty=S) :
  Calls prog 67 #[.int .u64 n,.int .i64 m] w fun e w'=>e=.returned (.string S)∧Ext w w':=by
 have HS:=Za hS;have HN:=Za hn;clear hS hn;go_enter func67,ntmps67;go_wp2_with fail
 go_loopw [0,5,6] (fun nv sv iv w3=>∃(i:Nat) (x:Int) (s:ByteArray),i≤m∧iv=.int .i64 i∧nv=.int .u64 x∧sv=.string s∧Hid (0≤x∧x<18446744073709551616)∧Hid (Vm (m-i) x s=S)∧Hid (s.size=i)∧Hid (Ext w w3)) (fun _ _ iv _=>m-(intOf iv).toNat)
 case atStart=>exact⟨0,n,ByteArray.empty,Nat.zero_le _,rfl,rfl,rfl,HN,HS,rfl,Zy2 _⟩
 case round=>
  obtain⟨i,x,s,hi,rfl,rfl,rfl,HX,HE,SZ,X⟩:=hrel;obtain⟨x0,x1⟩:=HX.out;by_cases hlt:i<m
  ·have HE2:=Za (show Vm (m-(i+1)) (x / 256) (⟨#[UInt8.ofNat (x % 256).toNat]⟩++s)=S by rw[←HE.out,show m-i=(m-(i+1))+1 by omega];rfl);have CO:=Zsx wr (x % 256) (by omega) (by omega);have XA:=Za (X.out.alloc (.cells #[.int .u8 (x % 256)] 5));have m1:x.tmod 256=x % 256:=Int.tmod_eq_emod_of_nonneg x0;have m2:x.tdiv 256=x / 256:=Int.tdiv_eq_ediv_of_nonneg x0;have m3:IntKind.u64.wrap (x % 256)=x % 256:=by rw[IntWalk.u64_in _ (by omega)]
   have m4:IntKind.u8.wrap (x % 256)=x % 256:=by rw[IntWalk.u8_in _ (by omega)]
   have m5:IntKind.u64.wrap (x / 256)=x / 256:=by rw[IntWalk.u64_in _ (by omega)]
   have SN:=Za (Zgt (UInt8.ofNat (x % 256).toNat) SZ.out);have m6:¬9223372036854775807<1+s.size:=by have:=SZ.out;omega
   go_wp2;go_roundw
   case rel=>exact⟨i+1,x / 256,_,by omega,by go_num,rfl,rfl,⟨by omega,by omega⟩,HE2,SN,XA⟩
   case measure=>simp[intOf];omega
  ·have him:i=m:=by omega
   subst him;have E:=Za (show s=S by have:=HE.out;rw[Nat.sub_self] at this;exact this);go_wp2;go_ret;exact⟨by rw[E.out];rfl,X.out⟩
theorem Zoo{oc h a b v:Int}(ha:0≤a∧a<2147483648)(hb:0≤b∧b<2147483648) :
  Calls prog 66 #[.agg #[.int .u8 1,(0:Int),.int .u8 oc,.int .u64 h,.int .i64 a,.int .i64 b,.int .u64 v,(0:Int),.int .u8 0]] w fun e w'=>e=.returned (.bool true)∧Ext w w':=by
 obtain⟨W0,hW0,b0,x0⟩:=newBox w 38 [.int .u8 1,(0:Int),.int .u8 oc,.int .u64 h,.int .i64 a,.int .i64 b,.int .u64 v,(0:Int),.int .u8 0];have X0:=Za x0;obtain⟨k0,k1,k2,k3,k4,k5,k6,k7,k8⟩:=b0.k9;have t1:decide ((-2147483648:Int)≤a)=true:=Zyy (by omega);have t2:decide (a<2147483648)=true:=Zyy (by omega);have t3:decide ((-2147483648:Int)≤b)=true:=Zyy (by omega);have t4:decide (b<2147483648)=true:=Zyy (by omega);clear b0 x0 ha hb;go_enter func66,ntmps66;go_wp2;go_ret;exact⟨rfl,X0.out⟩
def Zvf(oc h a b v:Int):ByteArray:=Vm 1 1 ByteArray.empty++Vm 1 0 ByteArray.empty++Vm 1 oc ByteArray.empty++Vm 8 h ByteArray.empty++Vm 4 a ByteArray.empty++Vm 4 b ByteArray.empty++Vm 8 v ByteArray.empty
theorem Zcd{oc h a b v:Int}(hc:0≤oc∧oc<256)(hh:0≤h∧h<18446744073709551616)(ha:0≤a∧a<2147483648)(hb:0≤b∧b<2147483648)(hv:0≤v∧v<18446744073709551616) :
  Calls prog 34 #[.agg #[.int .u8 1,(0:Int),.int .u8 oc,.int .u64 h,.int .i64 a,.int .i64 b,.int .u64 v,(0:Int),.int .u8 0]] w fun e w'=>e=.returned (.tuple #[.string (Zvf oc h a b v),(0:Int)])∧Ext w w':=by
 obtain⟨W0,hW0,b0,x0⟩:=newBox w 38 [.int .u8 1,(0:Int),.int .u8 oc,.int .u64 h,.int .i64 a,.int .i64 b,.int .u64 v,(0:Int),.int .u8 0];have X0:=Za x0;have B0:=Za b0;obtain⟨k0,k1,k2,k3,k4,k5,k6,k7,k8⟩:=b0.k9;have MY:=Za (Zoo (w:=W0) (oc:=oc) (h:=h) (v:=v) ha hb);obtain⟨S1,h1⟩:∃S,Vm 1 1 ByteArray.empty=S:=⟨_,rfl⟩;obtain⟨S2,h2⟩:∃S,Vm 1 0 ByteArray.empty=S:=⟨_,rfl⟩;obtain⟨S3,h3⟩:∃S,Vm 1 oc ByteArray.empty=S:=⟨_,rfl⟩;obtain⟨S4,h4⟩:∃S,Vm 8 h ByteArray.empty=S:=⟨_,rfl⟩;obtain⟨S5,h5⟩:∃S,Vm 4 a ByteArray.empty=S:=⟨_,rfl⟩;obtain⟨S6,h6⟩:∃S,Vm 4 b ByteArray.empty=S:=⟨_,rfl⟩;obtain⟨S7,h7⟩:∃S,Vm 8 v ByteArray.empty=S:=⟨_,rfl⟩;have E:Hid (Zvf oc h a b v=S1++S2++S3++S4++S5++S6++S7):=Za (by unfold Zvf;rw[h1,h2,h3,h4,h5,h6,h7]);have z1:S1.size=1:=by rw[←h1,Wf];rfl
 have z2:S2.size=1:=by rw[←h2,Wf];rfl
 have z3:S3.size=1:=by rw[←h3,Wf];rfl
 have z4:S4.size=8:=by rw[←h4,Wf];rfl
 have z5:S5.size=4:=by rw[←h5,Wf];rfl
 have z6:S6.size=4:=by rw[←h6,Wf];rfl
 have z7:S7.size=8:=by rw[←h7,Wf];rfl
 have C1:=Za (fun W=>Vf (w:=W) (n:=1) (m:=1) (by decide) (by decide) h1);have C2:=Za (fun W=>Vf (w:=W) (n:=0) (m:=1) (by decide) (by decide) h2);have C3:=Za (fun W=>Vf (w:=W) (n:=oc) (m:=1) (by omega) (by decide) h3);have C4:=Za (fun W=>Vf (w:=W) (n:=h) (m:=8) (by omega) (by decide) h4);have C5:=Za (fun W=>Vf (w:=W) (n:=a) (m:=4) (by omega) (by decide) h5);have C6:=Za (fun W=>Vf (w:=W) (n:=b) (m:=4) (by omega) (by decide) h6);have C7:=Za (fun W=>Vf (w:=W) (n:=v) (m:=8) (by omega) (by decide) h7);have u3:IntKind.u64.wrap oc=oc:=by rw[IntWalk.u64_in _ (by omega)]
 have u5:IntKind.u64.wrap a=a:=by rw[IntWalk.u64_in _ (by omega)]
 have u6:IntKind.u64.wrap b=b:=by rw[IntWalk.u64_in _ (by omega)]
 rw[E.out];clear b0 x0 h1 h2 h3 h4 h5 h6 h7 ha hb hc hh hv;go_enter func34,ntmps34;go_wp2_with fail;refine MY.out.ze fun w1 x1=>?_;have X1:=Za (X0.out.trans x1);have B1:=Za (B0.out.ext x1);clear k0 k1 k2 k3 k4 k5 k6 k7 k8 x1 MY hW0;have c0:=fun d os=>cell_regrown (B1.out.c 0 _ rfl) d os;have c1:=fun d os=>cell_regrown (B1.out.c 1 _ rfl) d os;have c2:=fun d os=>cell_regrown (B1.out.c 2 _ rfl) d os
 have c3:=fun d os=>cell_regrown (B1.out.c 3 _ rfl) d os;have c4:=fun d os=>cell_regrown (B1.out.c 4 _ rfl) d os;have c5:=fun d os=>cell_regrown (B1.out.c 5 _ rfl) d os;have c6:=fun d os=>cell_regrown (B1.out.c 6 _ rfl) d os
 obtain⟨k0,k1,k2,k3,k4,k5,k6,k7,k8⟩:=B1.out.k9;go_wp2_with fail;refine wp_region_quiet_below (by kernel_rfl) (by kernel_rfl) ?_
 repeat (any_goals (first|go_big_quiet_step ((go_at_call 67;first|with_reducible exact reg (C1.out _)|with_reducible exact reg (C2.out _)|with_reducible exact reg (C3.out _)|with_reducible exact reg (C4.out _)|with_reducible exact reg (C5.out _)|with_reducible exact reg (C6.out _)|with_reducible exact reg (C7.out _)))|quiet_step ((go_at_call 67;first|with_reducible exact reg (C1.out _)|with_reducible exact reg (C2.out _)|with_reducible exact reg (C3.out _)|with_reducible exact reg (C4.out _)|with_reducible exact reg (C5.out _)|with_reducible exact reg (C6.out _)|with_reducible exact reg (C7.out _)))))
 refine Zc fun WQ xq=>?_;have XQ:=Za (X1.out.trans xq);clear xq;go_wp2;go_ret2;exact⟨rfl,XQ.out⟩
end
def tpC:Zh:=⟨[2,4],8,[⟨4,100,3,0⟩,⟨4,1,1,0⟩],1,1,9⟩
def tpX(i:Nat):HP:=hOf tpC i (List.replicate (Zo tpC) 0)
def tp1:HP × Sn:=hDo tpC 0 1 9 fuel 0 (tpX 0) ⟨1,0,1,2,0⟩
def tp2:HP × Sn:=hDo tpC 0 1 9 fuel 0 tp1.1 ⟨1,0,1,2,0⟩
def tp3:HP × Sn:=hDo tpC 0 1 9 fuel 0 tp2.1 ⟨6,1,0,0,0⟩
def tp4:HP × Sn:=hDo tpC 0 1 9 fuel 0 tp3.1 ⟨1,0,1,2,0⟩
def Zvw(s:Sn)(e h w ad u si cy:Int)(b:Bool):Bool:=decide (s.e=e)&&(decide (s.h=h)&&(decide (s.w=w)&&(decide (s.addr=ad)&&(decide (s.used=u)&&(decide (s.since=si)&&(decide (s.cyc=cy)&&(s.act==b)))))))
theorem Zyj:Yc tpC=0:=by decide +kernel
theorem Zw1:Zvw tp1.2 0 1 0 8 4 4 0 false=true:=by decide +kernel
theorem Zw2:Zvw tp2.2 100 0 0 0 4 0 1 false=true:=by decide +kernel
theorem Zw3:Zvw tp3.2 0 0 0 8 4 0 1 false=true:=by decide +kernel
theorem Zw4:Zvw tp4.2 0 2 0 8 4 4 2 false=true:=by decide +kernel
theorem Zx3{c:Zh}{t n F:Nat}{gens f:Int}{x:HP}{o:OpI}(h:o.code≠7):hDo c t n gens F f x o=hDo c t n gens F 0 x o:=by
 have e:∀x,Yi c t n gens F f x o=Yi c t n gens F 0 x o:=fun x=>by
  unfold Yi;by_cases h1:o.code<1∨7<o.code
  ·rw[if_pos h1,if_pos h1]
  ·rw[if_neg h1,if_neg h1];by_cases h2:o.code=1
   ·rw[if_pos h2,if_pos h2]
   ·rw[if_neg h2,if_neg h2];by_cases h6:o.code=6
    ·simp[h6]
    ·simp only[h6];by_cases h3:o.code=2
     ·simp[h3]
     ·by_cases h4:o.code=3
      ·simp[h4]
      ·by_cases h5:o.code=4
       ·simp[h5]
       ·have h7:o.code=5:=by omega
        simp[h7]
 unfold hDo;rw[e]
def tpA:ByteArray:=Zvf 1 0 1 2 0
def tpD:ByteArray:=Zvf 6 1 0 0 0
theorem Zop:(sbs tpA).length=27:=by decide +kernel
theorem Zvg:(sbs tpD).length=27:=by decide +kernel
theorem Zvh:nth (sbs tpA) 1=((0:Nat):Int):=by decide +kernel
theorem Zx4:nth (sbs tpD) 1=((0:Nat):Int):=by decide +kernel
theorem Zx5:nth (sbs tpA) 0=1:=by decide +kernel
theorem Zx6:nth (sbs tpD) 0=1:=by decide +kernel
def Zyk(a b:OpI):Bool:=decide (a.code=b.code)&&(decide (a.h=b.h)&&(decide (a.a=b.a)&&(decide (a.b=b.b)&&decide (a.v=b.v))))
theorem Zoq{a b:OpI}(h:Zyk a b=true):a=b:=by
 obtain⟨a1,a2,a3,a4,a5⟩:=a;obtain⟨b1,b2,b3,b4,b5⟩:=b;simp[Zyk] at h;obtain⟨rfl,rfl,rfl,rfl,rfl⟩:=h;rfl
theorem Zvi:Zgn (sbs tpA)=⟨1,0,1,2,0⟩:=Zoq (by decide +kernel)
theorem Zx7:Zgn (sbs tpD)=⟨6,1,0,0,0⟩:=Zoq (by decide +kernel)
theorem Zvj:(Tg (sbs tpA)).1=Zjn (sbs tpA):=by
 unfold Tg;rw[if_neg (show ¬((sbs tpA).length=3∧nth (sbs tpA) 0=2) from fun h=>by rw[Zop] at h;exact absurd h.1 (by decide)),if_pos ⟨Zop,Zx5⟩]
theorem Zx8:(Tg (sbs tpD)).1=Zjn (sbs tpD):=by
 unfold Tg;rw[if_neg (show ¬((sbs tpD).length=3∧nth (sbs tpD) 0=2) from fun h=>by rw[Zvg] at h;exact absurd h.1 (by decide)),if_pos ⟨Zvg,Zx6⟩]
theorem Zw5:Wo tpC 1 0 0 tpX (List.replicate (Zo tpC) 0):=
 ⟨fun i hi=>Znr (Y8 Zyj) hi (by decide) (by decide) (by
  have:i<2:=hi;rcases (show i=0∨i=1 by omega) with rfl|rfl<;>decide) (by
  have:i<2:=hi;rcases (show i=0∨i=1 by omega) with rfl|rfl<;>decide),fun i hi=>rfl⟩
end Go.Proofs.YtfcldaembdedjaaGreatDoor
