/-
  Parts of the proof of TopCycles: Base, FieldP, WidP, HeadP, ClassP, ConfP, SlotP, MemP, MemQ, OwnI, Chg, Ent, ClassC, Conf, Mem, MemOn.
-/
import Derived.Deep.RegionHeld3
import Derived.StillTailTactics
import Derived.Below
import Derived.WalkKit
import Derived.Lib.Hide
import Derived.Deep.Draws
import Derived.Laws.BitsAllLaws
import Derived.Laws.AppendOwn
import Derived.Laws.OwnMore
import Derived.OwnWalk
import Derived.ArgAppend
import Derived.Deep.AppendLies
import Derived.WalkSpells
import Derived.WalkLawsBesides
import Derived.Outline
import Derived.BigQuiet
import Derived.Deep.QuietTactic
import Derived.Test.YtfcldaembdedjaaGreatDoorProg
import Derived.Defers
import Derived.Recover
import Derived.Laws.Pointers
set_option linter.unusedVariables false
set_option linter.unusedSimpArgs false
set_option maxRecDepth 100000
set_option maxHeartbeats 16000000
namespace Go
theorem Calls.zz {P:Program} {f:FuncId} {a:Array Value} {w:World} {v:Ending} {Q:Ending→World→Prop} (h:Calls P f a w fun e w'=>e=v∧w=w') (q:Q v w):Calls P f a w Q:=h.mono fun _ _ ⟨h1,h2⟩=>by subst h1 h2;exact q
theorem Calls.ze {P:Program} {f:FuncId} {a:Array Value} {w:World} {v:Ending} {Q:Ending→World→Prop} {R:World→Prop} (h:Calls P f a w fun e w'=>e=v∧R w') (q:∀w',R w'→Q v w'):Calls P f a w Q:=h.mono fun _ w' ⟨h1,h2⟩=>by subst h1;exact q w' h2
end Go
namespace Go.Proofs.YtfcldaembdedjaaGreatDoor
open Go.RowKit Tryz
instance:Coe Nat Value:=⟨fun b=>.pointer (some ⟨b,0,none⟩)⟩
instance:Coe Nat Addr:=⟨fun b=>⟨b,0,none⟩⟩
instance:Coe Int Value:=⟨fun b=>.int .i64 b⟩
instance:Coe Bool Value:=⟨fun b=>.bool b⟩
theorem Za {p:Prop} (h:p):Hid p:=h
theorem Zb {α:Sort _} (a:α):∃z,a=z:=⟨_,rfl⟩
theorem Zyt:(∀(a:Act) d v,a.put (some d) v={a with tmps:=a.tmps.setIfInBounds d v})∧(∀(a:Act) v,a.put none v=a)∧(∀(l:List Value) i x,l.toArray.setIfInBounds i x=(l.set i x).toArray)∧(∀(a:Value) l x,List.set (a::l) 0 x=x::l)∧(∀(a:Value) l n x,List.set (a::l) (n+1) x=a::List.set l n x):=⟨fun _ _ _=>rfl,fun _ _=>rfl,fun _ _ _=>by simp,fun _ _ _=>rfl,fun _ _ _ _=>rfl⟩
theorem Zyu{P:Program}{md:Region.Mode}{ops:Array Oper}{Q:Exit→Act→World→Prop}{S:World→Prop}(i:Nat){oi:Oper}{v:Value}{fuel:Nat}{listed:Array Bool}{a:Act}{w:World}(hy:∀w,S w→(execOp a.eval oi).run P w=.ok (.value v) w)(h:wpAnyH P md ops Q S fuel (listed.setIfInBounds i true) (a.put oi.dst v) w)(hi:ops[i]?=some oi:=by rfl)(hw:Region.wanted oi (yielded ops a.tmps)=true:=by rfl)(hs:Region.noSelect ops=true:=by kernel_rfl)(hf:Region.free md ops listed i=true:=by kernel_rfl)(hr:(Region.ready md ops listed).contains i=true:=by kernel_rfl)(hQ:∀c a w,Q (.panic c) (a.put oi.dst v) w→Q (.panic c) a w:=by exact fun _ _ _ h=>h)(hS:S w:=by assumption):wpAnyH P md ops Q S (fuel+1) listed a w:=wpAnyH_take hi hs hf hr hQ (.inl ⟨hw,hy⟩) hS h
theorem Zyv{P:Program}{md:Region.Mode}{ops:Array Oper}{Q:Exit→Act→World→Prop}{S:World→Prop}(i:Nat){oi:Oper}{v:Value}{fuel:Nat}{listed:Array Bool}{a:Act}{w:World}(hy:∀w,S w→(execOp a.eval oi).run P w=.ok (.value v) w)(h:wpAnyH P md ops Q S fuel (listed.setIfInBounds i true) (a.put oi.dst v) w)(hi:ops[i]?=some oi:=by rfl)(hw:Region.wanted oi (yielded ops a.tmps)=true:=by kernel_rfl)(hs:Region.noSelect ops=true:=by kernel_rfl)(hf:Region.free md ops listed i=true:=by kernel_rfl)(hr:(Region.ready md ops listed).contains i=true:=by kernel_rfl)(hQ:∀c a w,Q (.panic c) (a.put oi.dst v) w→Q (.panic c) a w:=by exact fun _ _ _ h=>h)(hS:S w:=by assumption):wpAnyH P md ops Q S (fuel+1) listed a w:=wpAnyH_take hi hs hf hr hQ (.inl ⟨hw,hy⟩) hS h
theorem Zyw{P:Program}{md:Region.Mode}{ops:Array Oper}{Q:Exit→Act→World→Prop}{S:World→Prop}(i:Nat){oi:Oper}{fuel:Nat}{listed:Array Bool}{a:Act}{w:World}(h:wpAnyH P md ops Q S fuel (listed.setIfInBounds i true) (a.put oi.dst undef) w)(hi:ops[i]?=some oi:=by rfl)(hw:Region.wanted oi (yielded ops a.tmps)=false:=by kernel_rfl)(hs:Region.noSelect ops=true:=by kernel_rfl)(hf:Region.free md ops listed i=true:=by kernel_rfl)(hr:(Region.ready md ops listed).contains i=true:=by kernel_rfl)(hQ:∀c a w,Q (.panic c) (a.put oi.dst undef) w→Q (.panic c) a w:=by exact fun _ _ _ h=>h)(hS:S w:=by assumption):wpAnyH P md ops Q S (fuel+1) listed a w:=wpAnyH_take hi hs hf hr hQ (.inr ⟨hw,rfl⟩) hS h
theorem Ze:∀(fn:Fn) (first cap:Array Value) (w:World),(Instr.makeFunc fn first cap).run prog w=.ok (.func fn first cap) w:=fun _ _ _ _=>rfl
theorem Zyx{p:Prop}[h:Decidable p](q:¬p):decide p=false:=decide_eq_false q
theorem Zyy{p:Prop}[h:Decidable p](q:p):decide p=true:=decide_eq_true q
theorem Zyz(w:World)(a:Addr)(v:Value){u:Value}(h:w.cell? a=some u):(w.setCell a v).cell? a=some v:=World.cell?_setCell_same w a v h
theorem Zy0(w:World)(a b:Addr)(v:Value)(h:a≠b):(w.setCell a v).cell? b=w.cell? b:=World.cell?_setCell_other w a b v h
theorem Zy1(n:Nat):n≤n:=Nat.le_refl n
theorem Zy4(n:Nat):(n:Int).toNat=n:=Int.toNat_natCast n
theorem Zy5{n m k:Nat}(h:n<m)(g:m≤k):n<k:=Nat.lt_of_lt_of_le h g
theorem Zy6{n m k:Nat}(h:n≤m)(g:m≤k):n≤k:=Nat.le_trans h g
theorem Zy7{p:Prop}[h:Decidable p](q:decide p=true):p:=of_decide_eq_true q
theorem Zy8{p:Prop}[h:Decidable p](q:decide p=false):¬p:=of_decide_eq_false q
theorem Zy9{α:Type _}{x y:List α}:(x++y).length=x.length+y.length:=List.length_append
theorem Zza{α:Type _}{n:Nat}{a:α}:(List.replicate n a).length=n:=List.length_replicate
theorem Zzb(n:Nat):¬n<0:=Nat.not_lt_zero n
theorem Zzc{α:Type _}{a b:α}(h:some a=some b):a=b:=Option.some.inj h
def nth(xs:List Int)(i:Nat):Int:=xs.getD i 0
theorem Ps(xs:List Int)(k:Nat)(h:k<xs.length):xs.drop k=nth xs k :: xs.drop (k+1):=by
 rw[List.drop_eq_getElem_cons h];simp[nth,List.getD,h]
theorem Ov{xs:List Int}{k:Nat}(h:k<xs.length):nth xs k∈xs:=by
 simp[nth,List.getD,h]
theorem Vq(x:Int)(xs:List Int):nth (x :: xs) 0=x:=rfl
theorem Yp(x:Int)(xs:List Int)(k:Nat):nth (x :: xs) (k+1)=nth xs k:=rfl
theorem Zo3{xs:List Int}{k:Nat}(h:xs.length≤k):xs.drop k=[]:=List.drop_of_length_le h
def Ext(w w':World):Prop:=Below w.heap.size w w'
theorem Ext.refl(w:World):Ext w w:=Below.refl _ _
theorem Ext.below{w w':World}(h:Ext w w'):Below w.heap.size w w':=h
theorem Ext.of{w w':World}(h:Below w.heap.size w w'):Ext w w':=h
theorem Ext.size{w w':World}(h:Ext w w'):w.heap.size≤w'.heap.size:=Below.size h
theorem Ext.trans{a b c:World}(h:Ext a b)(k:Ext b c):Ext a c:=Below.trans h (Below.mono k (Below.size h))
theorem Ext.alloc{a w:World}(h:Ext a w)(o:Obj):Ext a (w.alloc o):=Below.alloc h (Below.size h) o
theorem Ext.drew{a w:World}(h:Ext a w):Ext a w.drew:=Below.drew h
theorem Ext.setCell{a w:World}(h:Ext a w){p:Addr}(hp:a.heap.size≤p.block)(u:Value):Ext a (w.setCell p u):=Below.setCell h hp u
theorem Ext.drewN{a w:World}(h:Ext a w)(n:Nat):Ext a (w.drewN n):=by
 exact⟨Below.os (w:=a) (w':=w) h,Below.tape (w:=a) (w':=w) h,Below.output (w:=a) (w':=w) h,Below.size (w:=a) (w':=w) h,Below.block (w:=a) (w':=w) h⟩
theorem Zj{w:World}{p:Addr}{v:Value}(h:w.cell? p=some v):p.block<w.heap.size:=by
 unfold World.cell? at h;rcases Nat.lt_or_ge p.block w.heap.size with hl|hl
 ·exact hl
 ·rw[Array.getElem?_eq_none hl] at h;simp at h
theorem Ext.cell{w w':World}(h:Ext w w'){p:Addr}{v:Value}(hc:w.cell? p=some v):w'.cell? p=some v:=by
 rw[Below.cell h (Zj hc)];exact hc
theorem Ext.block{w w':World}(h:Ext w w'){k:Nat}{o:Obj}(hc:w.heap[k]?=some o):w'.heap[k]?=some o:=by
 rw[Below.block h k (Array.getElem?_eq_some_iff.1 hc).1];exact hc
theorem Ext.frozen{w w':World}(h:Ext w w'){p:Addr}(hp:p.block<w.heap.size):w'.frozen? p=w.frozen? p:=Below.frozen h hp
theorem Zr(w:World)(v:Value)(t:TypeId):(w.alloc (.cells #[v] t)).cell? w.heap.size=some v:=by
 simp
theorem Zg(w:World)(vs:Array Value)(t:TypeId)(i:Nat):(w.alloc (.cells vs t)).cell? ⟨w.heap.size,i,none⟩=vs[i]?:=by
 simp
theorem Xd{w:World}{p:Addr}{v:Value}(h:w.cell? p=some v)(o:Obj):(w.alloc o).cell? p=some v:=((Ext.refl w).alloc o).cell h
def At(k:IntKind)(w:World)(a:Option Addr)(xs:List Int):Prop:=
 ∀i,i<xs.length→∃b o,a=some ⟨b,o,none⟩∧w.cell? ⟨b,o+i,none⟩=some (.int k (nth xs i))
theorem At.pos{k:IntKind}{w:World}{a:Option Addr}{xs:List Int}(h:At k w a xs)(h0:0<xs.length) :
  ∃b o,a=some ⟨b,o,none⟩∧∀i,i<xs.length→w.cell? ⟨b,o+i,none⟩=some (.int k (nth xs i)):=by
 obtain⟨b,o,rfl,_⟩:=h 0 h0;refine⟨b,o,rfl,fun i hi=>?_⟩;obtain⟨b',o',e,hc⟩:=h i hi;cases e;exact hc
theorem At.ext{k:IntKind}{w w':World}{a:Option Addr}{xs:List Int}(h:At k w a xs)(hx:Ext w w'):At k w' a xs:=by
 intro i hi;obtain⟨b,o,e,hc⟩:=h i hi;exact⟨b,o,e,hx.cell hc⟩
theorem At.nil{k:IntKind}{w:World}{a:Option Addr}:At k w a []:=fun _ h=>absurd h (Nat.not_lt_zero _)
theorem At.mk{k:IntKind}{w:World}{b o:Nat}{xs:List Int}(h:∀i,i<xs.length→w.cell? ⟨b,o+i,none⟩=some (.int k (nth xs i))):At k w (some ⟨b,o,none⟩) xs:=
 fun i hi=>⟨b,o,rfl,h i hi⟩
theorem At.new(k:IntKind)(w:World)(xs:List Int)(t:TypeId):At k (w.alloc (.cells (xs.map (Value.int k)).toArray t)) (some ⟨w.heap.size,0,none⟩) xs:=by
 refine At.mk fun i hi=>?_
 rw[Nat.zero_add,Zg];simp[nth,List.getD,hi]
theorem At.newb(k:IntKind)(w:World)(xs:List Int)(t:TypeId)(b:Nat)(hb:w.heap.size=b):At k (w.alloc (.cells (xs.map (Value.int k)).toArray t)) (some ⟨b,0,none⟩) xs:=by
 subst hb;exact At.new k w xs t
theorem At.of_row{k:IntKind}{w:World}{a:Option Addr}{len cap:Nat}{zs:List Int}
  (h:(a=none∧len=0∧cap=0∧zs=[])∨∃x,a=some x∧len≤cap∧cap≤maxLen∧zs.length=cap∧(∀i,i<zs.length→w.cell? (x.add i)=some (.int k (zs.getD i 0)))∧∀n∈zs,(Lit.int k n).wf=true) :
  At k w a (zs.take len)∧(zs.take len).length=len∧len≤maxLen∧∀n∈zs.take len,(Lit.int k n).wf=true:=by
 rcases h with ⟨rfl,rfl,rfl,rfl⟩|⟨x,rfl,hl,hm,hz,hc,hw⟩
 ·exact⟨At.nil,rfl,Nat.zero_le _,fun n hn=>by simp at hn⟩
 ·have hlen:(zs.take len).length=len:=by rw[List.length_take];omega
  refine⟨?_,hlen,by omega,fun n hn=>hw n (List.mem_of_mem_take hn)⟩;intro i hi;rw[hlen] at hi;have h0:=hc i (by omega);obtain⟨b,o,s⟩:=x;have hs:s=none:=by
   cases s with
   | none=>rfl
   | some s=>
    have h1:=hc 0 (by omega);simp[Addr.add,World.cell?] at h1;split at h1<;>cases h1
  subst hs;refine⟨b,o,rfl,?_⟩;rw[Addr.add_lit] at h0;rw[h0];simp[nth,List.getD,hi]
theorem Qr{k:IntKind}{a b:Int}(h:a=b):Ending.returned (.int k a)=.returned (.int k b):=by rw[h]
theorem Yg{a b:Bool}(h:a=b):Ending.returned (.bool a)=.returned (.bool b):=by rw[h]
theorem E8{k l:IntKind}{a b c d:Int}(h:a=b)(h':c=d):Ending.returned (.tuple #[.int k a,.int l c])=.returned (.tuple #[.int k b,.int l d]):=by rw[h,h']
theorem Zy2(w:World):Ext w w:=Ext.refl w
theorem Zd(w:World)(o:Obj):Ext w (w.alloc o)∧Ext (w.alloc o) (w.alloc o):=⟨(Ext.refl w).alloc o,Ext.refl _⟩
def Zw9(w f m:Nat):Nat:=w / 2 ^ f % 2 ^ m
def Zs2(w f m v:Nat):Nat:=2 ^ f*(2 ^ m*(w / 2 ^ (f+m))+v)+w % 2 ^ f
theorem Zo4{w f m v:Nat}(hv:v<2 ^ m)(j:Nat):(Zs2 w f m v).testBit j=if j<f then w.testBit j else if j<f+m then v.testBit (j-f) else w.testBit j:=by
 unfold Zs2;rw[Nat.testBit_two_pow_mul_add _ (Nat.mod_lt _ (Nat.two_pow_pos f))];by_cases h:j<f
 ·rw[if_pos h,if_pos h,Nat.testBit_mod_two_pow];simp[h]
 ·rw[if_neg h,if_neg h,Nat.testBit_two_pow_mul_add _ hv];by_cases h2:j<f+m
  ·rw[if_pos (by omega),if_pos h2]
  ·rw[if_neg (by omega),if_neg h2,Nat.testBit_div_two_pow]
   congr 1;omega
theorem Zo5{w j:Nat}(hw:w<2 ^ 64)(hj:64≤j):w.testBit j=false:=
 Nat.testBit_lt_two_pow (Zy5 hw (Nat.pow_le_pow_right (by decide) hj))
theorem Zo6{w m j:Nat}(hw:w<2 ^ m)(hj:m≤j):w.testBit j=false:=
 Nat.testBit_lt_two_pow (Zy5 hw (Nat.pow_le_pow_right (by decide) hj))
theorem Zcn{m:Nat}(h:m≤64):(2 ^ 64-1) / 2 ^ (64-m)=2 ^ m-1:=by
 refine Nat.eq_of_testBit_eq fun j=>?_
 rw[Nat.testBit_div_two_pow,Nat.testBit_two_pow_sub_one,Nat.testBit_two_pow_sub_one,decide_eq_decide];omega
theorem Zo7{w f m:Nat}(h:m≤64):(w / 2 ^ f) &&& ((2 ^ 64-1) / 2 ^ (64-m))=Zw9 w f m:=by
 rw[Zcn h,Nat.and_two_pow_sub_one_eq_mod];rfl
theorem Zj4{m f:Nat}(h:f+m≤64):(2 ^ m-1)*2 ^ f<2 ^ 64:=by
 have h1:(2 ^ m-1)*2 ^ f<2 ^ m*2 ^ f:=Nat.mul_lt_mul_of_pos_right (by have:=Nat.two_pow_pos m;omega) (Nat.two_pow_pos f);rw[←Nat.pow_add] at h1;exact Zy5 h1 (Nat.pow_le_pow_right (by decide) (by omega))
theorem Zvx{m f v:Nat}(h:f+m≤64)(hv:v<2 ^ m):v*2 ^ f<2 ^ 64:=by
 have h1:v*2 ^ f<2 ^ m*2 ^ f:=Nat.mul_lt_mul_of_pos_right hv (Nat.two_pow_pos f);rw[←Nat.pow_add] at h1;exact Zy5 h1 (Nat.pow_le_pow_right (by decide) (by omega))
theorem Zo8{w f m v:Nat}(hw:w<2 ^ 64)(h:f+m≤64)(hv:v<2 ^ m) :
  (w &&& (2 ^ 64-((2 ^ m-1)*2 ^ f+1))) ||| v*2 ^ f=Zs2 w f m v:=by
 refine Nat.eq_of_testBit_eq fun j=>?_
 rw[Zo4 hv,Nat.testBit_or,Nat.testBit_and,Nat.testBit_two_pow_sub_succ (Zj4 h),Nat.testBit_mul_two_pow,Nat.testBit_mul_two_pow,Nat.testBit_two_pow_sub_one];by_cases h1:j<f
 ·rw[if_pos h1];have:¬f≤j:=by omega
  have h3:j<64:=by omega
  simp[this,h3]
 ·rw[if_neg h1];have h2:f≤j:=by omega
  by_cases h3:j<f+m
  ·rw[if_pos h3];have h4:j-f<m:=by omega
   simp[h2,h4]
  ·rw[if_neg h3];have h4:¬j-f<m:=by omega
   rw[Zo6 hv (by omega)];by_cases h5:j<64
   ·simp[h2,h4,h5]
   ·rw[Zo5 hw (by omega)];simp
theorem Zo9{w f m v:Nat}(hw:w<2 ^ f):Zs2 w f m v=w+2 ^ f*v:=by
 unfold Zs2;rw[Nat.div_eq_of_lt (Zy5 hw (Nat.pow_le_pow_right (by decide) (by omega))),Nat.mod_eq_of_lt hw];rw[Nat.mul_zero,Nat.zero_add,Nat.add_comm]
def Zch(f m:Int):Bool:=decide (0≤f∧1≤m∧m≤64∧f≤64-m)
def Qt(w f m:Int):Int:=(Zw9 w.toNat f.toNat m.toNat:Nat)
def Zgv(w f m v:Int):Int:=(Zs2 w.toNat f.toNat m.toNat v.toNat:Nat)
def U4(v m:Int):Bool:=decide (v.toNat<2 ^ m.toNat)
def Zvo(w f m:Int):Int × Int:=if Zch f m=true then (Qt w f m,0) else (0,2)
def Zpa(w f m v:Int):Int × Int:=if Zch f m=true then (if U4 v m=true then (Zgv w f m v,0) else (0,4)) else (0,2)
theorem Pt{f m:Int}:Zch f m=true ↔ (0≤f∧1≤m∧m≤64∧f≤64-m):=by unfold Zch;simp
theorem Da{f m:Int}(h:Zch f m=true):∃a b:Nat,f=a∧m=b∧1≤b∧b≤64∧a+b≤64:=by
 rw[Pt] at h;exact⟨f.toNat,m.toNat,by omega,by omega,by omega,by omega,by omega⟩
theorem Ztp{w:Int}(h0:0≤w)(h:w<18446744073709551616):w.toNat<2 ^ 64:=by
 have:(2:Nat) ^ 64=18446744073709551616:=by decide
 omega
theorem Zyb{n:Nat}(h:n<2 ^ 64):(0:Int)≤n∧(n:Int)<18446744073709551616:=by
 have:(2:Nat) ^ 64=18446744073709551616:=by decide
 omega
def fr(xs:List Int):Nat→Int
 | 0=>0
 | i+1=>fr xs i+nth xs i
def Zvp(xs:List Int):Bool:=decide (0<xs.length∧∀i,i<xs.length→Zch (fr xs i) (nth xs i)=true)
structure Wok(xs:List Int):Prop where
 pos:0<xs.length
 may:∀i,i<xs.length→Zch (fr xs i) (nth xs i)=true
theorem Xq{xs:List Int}:Zvp xs=true ↔ Wok xs:=by
 unfold Zvp;simp only[decide_eq_true_eq];exact⟨fun h=>⟨h.1,h.2⟩,fun h=>⟨h.pos,h.may⟩⟩
theorem Wok.fr0{xs:List Int}(h:Wok xs):∀i,i≤xs.length→0≤fr xs i∧fr xs i≤64
 | 0,_=>⟨Int.le_refl _,by unfold fr;decide⟩
 | i+1,hi=>by
  have:=Pt.1 (h.may i (by omega));unfold fr;omega
theorem Wok.at{xs:List Int}(h:Wok xs)(i:Nat)(hi:i<xs.length):∃a b:Nat,fr xs i=a∧nth xs i=b∧1≤b∧a+b≤64∧fr xs (i+1)=((a+b:Nat):Int):=by
 obtain⟨a,b,h1,h2,h3,_,h5⟩:=Da (h.may i hi);exact⟨a,b,h1,h2,h3,h5,by show fr xs i+nth xs i=_;rw[h1,h2];omega⟩
theorem Wok.many{xs:List Int}(h:Wok xs):∀k,k≤xs.length→(k:Int)≤fr xs k
 | 0,_=>by unfold fr;decide
 | k+1,hk=>by
  have:=h.many k (by omega);obtain⟨a,b,e1,e2,e3,e4,e5⟩:=h.at k (by omega);omega
theorem Wok.le64{xs:List Int}(h:Wok xs):xs.length≤64:=by
 have:=h.many xs.length (Zy1 _);have:=h.fr0 xs.length (Zy1 _);omega
theorem Ju(p:Nat→Bool):∀n,(∀i,i<n→p i=true)∨∃k,k<n∧(∀i,i<k→p i=true)∧p k=false
 | 0=>.inl fun i hi=>absurd hi (Zzb _)
 | n+1=>by
  rcases Ju p n with h|⟨k,hk,h1,h2⟩
  ·cases hp:p n
   ·exact .inr ⟨n,by omega,h,hp⟩
   ·refine .inl fun i hi=>?_
    rcases Nat.lt_or_ge i n with c|c
    ·exact h i c
    ·obtain rfl:i=n:=by omega
     exact hp
  ·exact .inr ⟨k,by omega,h1,h2⟩
def Ztq(xs:List Int):Int × Int:=if Zvp xs=true then (fr xs xs.length,0) else (0,2)
def pk(xs vs:List Int):Nat→Nat
 | 0=>0
 | i+1=>pk xs vs i+2 ^ (fr xs i).toNat*(nth vs i).toNat
theorem Ztr{xs vs:List Int}(h:Wok xs):∀k,k≤xs.length→(∀i,i<k→U4 (nth vs i) (nth xs i)=true)→pk xs vs k<2 ^ (fr xs k).toNat
 | 0,_,_=>by show 0<_;exact Nat.two_pow_pos _
 | k+1,hk,hv=>by
  have ih:=Ztr h k (by omega) fun i hi=>hv i (by omega)
  have hf:=hv k (by omega);obtain⟨a,b,e1,e2,e3,e4,e5⟩:=h.at k (by omega);unfold U4 at hf;rw[e2] at hf;rw[e1] at ih;simp at hf ih;have:(nth vs k).toNat+1≤2 ^ b:=hf;have h2:=Nat.mul_le_mul_left (2 ^ a) this;rw[←Nat.pow_add,Nat.mul_add,Nat.mul_one] at h2;unfold pk;rw[e5,e1];simp only[Zy4];omega
theorem Zvy{xs vs:List Int}(h:Wok xs)(k:Nat)(hk:k≤xs.length)(hv:∀i,i<k→U4 (nth vs i) (nth xs i)=true):pk xs vs k<2 ^ 64:=
 Zy5 (Ztr h k hk hv) (Nat.pow_le_pow_right (by decide) (by have:=h.fr0 k hk;omega))
theorem Zts{xs vs:List Int}(h:Wok xs)(k:Nat)(hk:k<xs.length)(hv:∀i,i<k→U4 (nth vs i) (nth xs i)=true) :
  Zs2 (pk xs vs k) (fr xs k).toNat (nth xs k).toNat (nth vs k).toNat=pk xs vs (k+1):=Zo9 (Ztr h k (by omega) hv)
theorem Ztt{xs vs:List Int}(h:Wok xs)(k:Nat)(hk:k<xs.length)(hv:∀i,i<k→U4 (nth vs i) (nth xs i)=true) :
  Zgv (pk xs vs k:Nat) (fr xs k) (nth xs k) (nth vs k)=(pk xs vs (k+1):Nat):=by
 unfold Zgv;rw[Zy4,Zts h k hk hv]
theorem Zj5{xs vs:List Int}(h:Wok xs)(k:Nat)(hk:k<xs.length)(hv:∀i,i≤k→U4 (nth vs i) (nth xs i)=true) :
  Zpa (pk xs vs k:Nat) (fr xs k) (nth xs k) (nth vs k)=(((pk xs vs (k+1):Nat):Int),0):=by
 unfold Zpa;rw[if_pos (h.may k hk),if_pos (hv k (Zy1 _)),Ztt h k hk fun i hi=>hv i (by omega)]
theorem Zgw{xs vs:List Int}(h:Wok xs)(k:Nat)(hk:k<xs.length)(hv:U4 (nth vs k) (nth xs k)=false)(w:Int) :
  Zpa w (fr xs k) (nth xs k) (nth vs k)=(0,4):=by
 unfold Zpa;rw[if_pos (h.may k hk),if_neg (by rw[hv];decide)]
theorem Ztu{xs:List Int}(h:Wok xs)(k:Nat)(hk:k<xs.length)(w:Int):Zvo w (fr xs k) (nth xs k)=(Qt w (fr xs k) (nth xs k),0):=by
 unfold Zvo;rw[if_pos (h.may k hk)]
def Jv(xs vs:List Int):Bool:=decide (∀i,i<xs.length→U4 (nth vs i) (nth xs i)=true)
def Nn(xs vs:List Int):Int × Int:=if Zvp xs=true∧vs.length=xs.length then (if Jv xs vs=true then (((pk xs vs xs.length:Nat):Int),0) else (0,4)) else (0,2)
def unp(xs:List Int)(w:Int)(k:Nat):List Int:=(List.range k).map fun i=>Qt w (fr xs i) (nth xs i)
def Tt(xs:List Int)(w:Int):List Int × Int:=if Zvp xs=true then (if U4 w (fr xs xs.length)=true then (unp xs w xs.length,0) else ([],5)) else ([],2)
theorem Db(xs:List Int)(w:Int)(k:Nat):(unp xs w k).length=k:=by unfold unp;simp
theorem Zpb(xs:List Int)(w:Int)(k:Nat):unp xs w (k+1)=unp xs w k++[Qt w (fr xs k) (nth xs k)]:=by
 unfold unp;rw[List.range_succ,List.map_append];rfl
def zs(xs:List Int)(w:Int):Nat→Nat
 | 0=>w.toNat
 | k+1=>Zs2 (zs xs w k) (fr xs k).toNat (nth xs k).toNat 0
structure Hd where
 c:Int
 r:Int
 w:Int
def Zjw:List Int:=[16,16,16,8,8]
theorem Zj6:Wok Zjw:=Xq.1 (by decide)
def Rt(h:Hd):Prop:=(0≤h.c∧h.c<8)∧0≤h.r∧0≤h.w∧h.r≤63∧h.w≤63-h.r
instance(h:Hd):Decidable (Rt h):=by unfold Rt;infer_instance
def Uq(h:Hd):Int:=h.w*65536+h.r*4294967296+h.c*281474976710656+199*72057594037927936
def Zj7(h:Hd):Int × Int:=if Rt h then (Uq h,0) else (0,2)
def Mz(u:Int):Hd:=⟨u / 281474976710656 % 256,u / 4294967296 % 65536,u / 65536 % 65536⟩
def Sw:Hd:=⟨0,0,0⟩
def Zjx(u:Int):Prop:=u % 65536=0∧u / 72057594037927936=199∧Rt (Mz u)
instance(u:Int):Decidable (Zjx u):=by unfold Zjx;infer_instance
def Zgx(u:Int):Hd × Int:=if Zjx u then (Mz u,0) else (Sw,5)
def Xg(h:Hd):Int × Int:=if Rt h then (h.r+h.w+1,0) else (0,2)
def U5(h:Hd)(i:Int):Bool × Int:=if Rt h then (if i<0∨h.r+h.w≤i then (false,110) else (decide (i<h.r),0)) else (false,2)
theorem Ad{h:Hd}(k:Rt h):Zj7 h=(Uq h,0):=by unfold Zj7;rw[if_pos k]
theorem Zpc{h:Hd}(k:¬Rt h):Zj7 h=(0,2):=by unfold Zj7;rw[if_neg k]
theorem Ae{u:Int}(k:Zjx u):Zgx u=(Mz u,0):=by unfold Zgx;rw[if_pos k]
theorem Jb{u:Int}(k:¬Zjx u):Zgx u=(Sw,5):=by unfold Zgx;rw[if_neg k]
theorem Zgy{h:Hd}(k:Rt h):Nn Zjw [0,h.w,h.r,h.c,199]=(Uq h,0):=by
 obtain⟨c,r,w⟩:=h;obtain⟨⟨h1,h2⟩,h3,h4,h5,h6⟩:=k;simp only at h1 h2 h3 h4 h5 h6;unfold Nn;rw[if_pos ⟨Xq.2 Zj6,rfl⟩,if_pos]
 ·show(((pk Zjw [0,w,r,c,199] 5:Nat):Int),(0:Int))=(w*65536+r*4294967296+c*281474976710656+199*72057594037927936,0)
  have e:pk Zjw [0,w,r,c,199] 5=0+2 ^ 0*0+2 ^ 16*w.toNat+2 ^ 32*r.toNat+2 ^ 48*c.toNat+2 ^ 56*199:=rfl;rw[e]
  congr 1
  omega
 ·unfold Jv;simp only[decide_eq_true_eq];intro k hk;have hk3:k<5:=hk;unfold U4;simp only[decide_eq_true_eq]
  match k,hk3 with
  | 0,_=>show(0:Int).toNat<2 ^ 16;decide
  | 1,_=>show w.toNat<2 ^ 16;omega
  | 2,_=>show r.toNat<2 ^ 16;omega
  | 3,_=>show c.toNat<2 ^ 8;omega
  | 4,_=>show(199:Int).toNat<2 ^ 8;decide
theorem Af{u:Int}(h0:0≤u)(h1:u<18446744073709551616):Tt Zjw u=([u % 65536,(Mz u).w,(Mz u).r,(Mz u).c,u / 72057594037927936],0):=by
 unfold Tt;rw[if_pos (Xq.2 Zj6),if_pos]
 ·have e:unp Zjw u 5=[Qt u 0 16,Qt u 16 16,Qt u 32 16,Qt u 48 8,Qt u 56 8]:=rfl;show(unp Zjw u 5,(0:Int))=_
  rw[e];obtain⟨n,rfl⟩:=Int.eq_ofNat_of_zero_le h0;unfold Qt Zw9 Mz;have a0:n / 2 ^ (0:Int).toNat % 2 ^ (16:Int).toNat=n % 65536:=by show n / 1 % 65536=_;rw[Nat.div_one]
  have a1:n / 2 ^ (16:Int).toNat % 2 ^ (16:Int).toNat=n / 65536 % 65536:=rfl;have a2:n / 2 ^ (32:Int).toNat % 2 ^ (16:Int).toNat=n / 4294967296 % 65536:=rfl;have a3:n / 2 ^ (48:Int).toNat % 2 ^ (8:Int).toNat=n / 281474976710656 % 256:=rfl;have a4:n / 2 ^ (56:Int).toNat % 2 ^ (8:Int).toNat=n / 72057594037927936:=by
   show n / 72057594037927936 % 256=_
   omega
  rw[Zy4,a0,a1,a2,a3,a4];simp
 ·unfold U4;simp only[decide_eq_true_eq];show u.toNat<2 ^ 64
  exact Ztp h0 h1
theorem Zj8{h:Hd}(k:Rt h):0≤Uq h∧Uq h<18446744073709551616:=by
 obtain⟨⟨h1,h2⟩,h3,h4,h5,h6⟩:=k;unfold Uq;omega
def Yt:Int→List Int→Int
 | _,[]=>0
 | last,x :: r=>if x≤last then 2 else Yt x r
def Ya(xs:List Int):Int:=
 if xs.length<1∨8<xs.length∨64<nth xs (xs.length-1) then 2 else Yt 1 xs
theorem Dc(xs:List Int):∀q,Yt q xs=0∨Yt q xs=2:=by
 induction xs with
 | nil=>intro q;exact .inl rfl
 | cons x r ih=>intro q;unfold Yt;split;exact .inr rfl;exact ih x
theorem Jw(xs:List Int):Ya xs=0∨Ya xs=2:=by
 unfold Ya;split;exact .inr rfl;exact Dc _ _
theorem Dd(xs:List Int):∀q,Yt q xs=0→(∀i,i<xs.length→q<nth xs i)∧∀i j,i<j→j<xs.length→nth xs i<nth xs j:=by
 induction xs with
 | nil=>intro q _;exact⟨fun i h=>absurd h (Zzb _),fun i j _ h=>absurd h (Zzb _)⟩
 | cons x r ih=>
  intro q h;unfold Yt at h;split at h
  ·cases h
  ·rename_i hq;obtain⟨h1,h2⟩:=ih x h
   constructor
   ·intro i hi;cases i with
    | zero=>rw[Vq];omega
    | succ i=>rw[Yp];have:=h1 i (by simpa using hi);omega
   ·intro i j hij hj;cases j with
    | zero=>omega
    | succ j=>
     cases i with
     | zero=>rw[Vq,Yp];exact h1 j (by simpa using hj)
     | succ i=>rw[Yp,Yp];exact h2 i j (by omega) (by simpa using hj)
structure COk(xs:List Int):Prop where
 pos:1≤xs.length
 most:xs.length≤8
 least:∀i,i<xs.length→2≤nth xs i
 top:∀i,i<xs.length→nth xs i≤64
 inc:∀i j,i<j→j<xs.length→nth xs i<nth xs j
theorem Qu{xs:List Int}(h:Ya xs=0):COk xs:=by
 unfold Ya at h;split at h
 ·cases h
 ·rename_i hn;obtain⟨h1,h2⟩:=Dd xs 1 h;have hl:nth xs (xs.length-1)≤64:=by omega
  refine⟨by omega,by omega,fun i hi=>by have:=h1 i hi;omega,fun i hi=>?_,h2⟩;by_cases he:i=xs.length-1
  ·rw[he];exact hl
  ·have:=h2 i (xs.length-1) (by omega) (by omega);omega
theorem De(xs:List Int):∀q,(∀i,i<xs.length→q<nth xs i)→(∀i j,i<j→j<xs.length→nth xs i<nth xs j)→Yt q xs=0:=by
 induction xs with
 | nil=>intro _ _ _;rfl
 | cons x r ih=>
  intro q h1 h2;have h0:=h1 0 (by simp);rw[Vq] at h0;rw[Yt,if_neg (by omega)];refine ih x (fun i hi=>?_) (fun i j hij hj=>?_)
  ·have:=h2 0 (i+1) (by omega) (by simpa using hi);rwa [Vq,Yp] at this
  ·have:=h2 (i+1) (j+1) (by omega) (by simpa using hj);rwa [Yp,Yp] at this
theorem Ag{xs:List Int}(h:COk xs):Ya xs=0:=by
 unfold Ya;rw[if_neg (by have:=h.pos;have:=h.most;have:=h.top (xs.length-1) (by omega);omega)];exact De xs 1 (fun i hi=>by have:=h.least i hi;omega) h.inc
def below(xs:List Int)(w:Int):Nat:=(xs.takeWhile (·<w)).length
theorem Zfc(xs:List Int)(w:Int):below xs w≤xs.length:=by
 unfold below;induction xs with
 | nil=>simp
 | cons x r ih=>simp only[List.takeWhile_cons];split<;>simp<;>omega
theorem Zpd(xs:List Int)(w:Int):∀i,i<below xs w→nth xs i<w:=by
 unfold below;induction xs with
 | nil=>intro i h;simp at h
 | cons x r ih=>
  intro i h;rw[List.takeWhile_cons] at h;split at h
  ·cases i with
   | zero=>simp_all [nth]
   | succ i=>rw[Yp];exact ih i (by simpa using h)
  ·simp at h
theorem Df(xs:List Int)(w:Int)(h:below xs w<xs.length):w≤nth xs (below xs w):=by
 unfold below at *;induction xs with
 | nil=>simp at h
 | cons x r ih=>
  by_cases hx:x<w
  ·have hd:decide (x<w)=true:=by simpa using hx
   simp only[List.takeWhile_cons,hd,if_true,List.length_cons] at h ⊢;rw[Yp];exact ih (by omega)
  ·have hd:decide (x<w)=false:=by simpa using hx
   simp only[List.takeWhile_cons,hd,Bool.false_eq_true,if_false,List.length_nil];rw[Vq];omega
def cof(xs:List Int)(w:Int):Int × Int:=
 if Ya xs≠0 then (0,Ya xs) else if below xs w=xs.length∨w<1 then (0,50) else (below xs w,0)
theorem M0{xs:List Int}{k:Nat}(hk:k<xs.length)(h:nth xs k<2∨64<nth xs k∨0<k∧nth xs k≤nth xs (k-1)):Ya xs=2:=by
 rcases Jw xs with h0|h0
 ·have ho:=Qu h0;have a:=ho.least k hk;have b:=ho.top k hk;rcases h with h|h|⟨h1,h2⟩
  ·omega
  ·omega
  ·have:=ho.inc (k-1) k (by omega) hk;omega
 ·exact h0
theorem Zco{xs:List Int}(h1:1≤xs.length)(h8:xs.length≤8)(h:∀k,k<xs.length→2≤nth xs k∧nth xs k≤64∧(0<k→nth xs (k-1)<nth xs k)):Ya xs=0:=by
 refine Ag ⟨h1,h8,fun i hi=>(h i hi).1,fun i hi=>(h i hi).2.1,?_⟩;intro i j hij
 induction j with
 | zero=>omega
 | succ j ih=>
  intro hj;have:=(h (j+1) hj).2.2 (by omega);simp only[Nat.add_sub_cancel] at this;rcases Nat.lt_or_ge i j with h'|h'
  ·have:=ih h' (by omega);omega
  ·obtain rfl:i=j:=by omega
   exact this
theorem Zgz{xs:List Int}(h:xs.length<1∨8<xs.length):Ya xs=2:=by unfold Ya;rw[if_pos (by omega)]
structure Ten where
 q:Int
 tr:Int
 cp:Int
 sst:Int
structure Zh where
 cl:List Int
 page:Int
 ts:List Ten
 wk:Int
 gr:Int
 gens:Int
def Zym:Ten:=⟨0,0,0,0⟩
def Vg(ts:List Ten)(i:Nat):Ten:=ts.getD i Zym
theorem Jy(ts:List Ten)(k:Nat)(h:k<ts.length):ts.drop k=Vg ts k :: ts.drop (k+1):=by
 rw[List.drop_eq_getElem_cons h];simp[Vg,List.getD,h]
def Ah:List Int→Bool
 | a :: b :: c :: r=>if b<a∨c<b then false else Ah r
 | _=>true
theorem Zj9(a b c:Int)(r:List Int):Ah (a :: b :: c :: r)=if b<a∨c<b then false else Ah r:=rfl
theorem Gy{l:List Int}(h:l.length<3):Ah l=true:=by
 match l,h with
 | [],_=>rfl
 | [_],_=>rfl
 | [_,_],_=>rfl
 | _ :: _ :: _ :: _,h=>simp at h;omega
def Yu(f:Nat→Int):Nat→Int
 | 0=>0
 | n+1=>Yu f n+f n
theorem Xu(f:Nat→Int)(B:Int)(n:Nat)(h:∀i,i<n→0≤f i∧f i≤B):0≤Yu f n∧Yu f n≤n*B:=by
 induction n with
 | zero=>simp[Yu]
 | succ n ih=>
  have h1:=ih fun i hi=>h i (by omega)
  have h2:=h n (by omega);have h3:((n+1:Nat):Int)*B=n*B+B:=by rw[Int.natCast_add,Int.add_mul];simp
  unfold Yu;omega
def Vr(c:Zh):Int:=nth c.cl (c.cl.length-1)
def Qi(c:Zh):Prop:=
 Vr c≤c.page∧c.page≤64∧1≤c.ts.length∧c.ts.length≤8∧0≤c.wk∧c.wk≤8∧1≤c.gr∧c.gr≤64∧1≤c.gens∧c.gens≤2147483648
instance(c:Zh):Decidable (Qi c):=by unfold Qi;infer_instance
def M6(g:Int)(t:Ten):Prop:=g≤t.q∧t.q≤4096∧1≤t.tr∧t.tr≤1048576∧1≤t.cp∧t.cp≤1024∧0≤t.sst∧t.sst≤1024
instance(g:Int)(t:Ten):Decidable (M6 g t):=by unfold M6;infer_instance
def Y0(g:Int):List Ten→Int
 | []=>0
 | t :: r=>if M6 g t then Y0 g r else 2
def Yc(c:Zh):Int:=if Ya c.cl≠0 then 2 else if Qi c then Y0 (Vr c) c.ts else 2
structure KOk(c:Zh):Prop where
 cl:COk c.cl
 head:Qi c
 ten:∀i,i<c.ts.length→M6 (Vr c) (Vg c.ts i)
theorem Zcp(g:Int)(ts:List Ten):Y0 g ts=0∨Y0 g ts=2:=by
 induction ts with
 | nil=>exact .inl rfl
 | cons t r ih=>unfold Y0;split;exact ih;exact .inr rfl
theorem Np(c:Zh):Yc c=0∨Yc c=2:=by
 unfold Yc;split;exact .inr rfl;split;exact Zcp _ _;exact .inr rfl
theorem Ai(g:Int)(ts:List Ten):Y0 g ts=0 ↔ ∀i,i<ts.length→M6 g (Vg ts i):=by
 induction ts with
 | nil=>exact⟨fun _ i h=>absurd h (Zzb _),fun _=>rfl⟩
 | cons t r ih=>
  unfold Y0;by_cases ht:M6 g t
  ·rw[if_pos ht,ih]
   constructor
   ·intro h i hi;cases i with
    | zero=>exact ht
    | succ i=>exact h i (by simpa using hi)
   ·intro h i hi;exact h (i+1) (by simpa using hi)
  ·rw[if_neg ht];exact⟨(fun h=>by cases h),fun h=>absurd (h 0 (by simp)) ht⟩
theorem Pu(c:Zh):Yc c=0 ↔ KOk c:=by
 unfold Yc;by_cases h0:Ya c.cl=0
 ·rw[if_neg (by omega)];by_cases h1:Qi c
  ·rw[if_pos h1,Ai];exact⟨fun h=>⟨Qu h0,h1,h⟩,fun h=>h.ten⟩
  ·rw[if_neg h1];exact⟨(fun h=>by cases h),fun h=>absurd h.head h1⟩
 ·rw[if_pos h0];exact⟨(fun h=>by cases h),fun h=>absurd (Ag h.cl) h0⟩
theorem Y8{c:Zh}(h:Yc c=0):KOk c:=(Pu c).1 h
def Zl(c:Zh)(t k:Nat):Int:=(Vg c.ts t).q / nth c.cl k
def Zw(c:Zh)(k:Nat):Int:=c.page / nth c.cl k
def Zp(c:Zh)(t k:Nat):Int:=(Zl c t k+Zw c k-1) / Zw c k
def Yb(c:Zh)(t:Nat):Int:=Yu (fun i=>Zp c t i*c.page) c.cl.length
def Vh(c:Zh)(t:Nat):Int:=Yu (Yb c) t
def Xb(c:Zh)(t k:Int):Prop:=Yc c=0∧0≤t∧t≤c.ts.length-1∧0≤k∧k≤c.cl.length-1
instance(c:Zh)(t k:Int):Decidable (Xb c t k):=by unfold Xb;infer_instance
def Gz(c:Zh)(t k:Int):Int × Int:=if Xb c t k then (Zl c t.toNat k.toNat,0) else (0,2)
def G8(c:Zh)(t k:Int):Int × Int:=if Xb c t k then (Zp c t.toNat k.toNat,0) else (0,2)
def Ow(c:Zh)(t:Int):Int × Int:=if Xb c t 0 then (Yb c t.toNat,0) else (0,2)
def Zcq(c:Zh)(t:Int):Int × Int:=if Xb c t 0 then (Vh c t.toNat,0) else (0,2)
def Qj(c:Zh):Int × Int:=if Yc c=0 then (Vh c c.ts.length,0) else (0,2)
structure Zvz(c:Zh)(t k:Nat):Prop where
 c2:2≤nth c.cl k
 c64:nth c.cl k≤64
 cpage:nth c.cl k≤c.page
 p64:c.page≤64
 cq:nth c.cl k≤(Vg c.ts t).q
 q4096:(Vg c.ts t).q≤4096
 per1:1≤Zw c k
 per32:Zw c k≤32
 s1:1≤Zl c t k
 s2048:Zl c t k≤2048
 pg1:1≤Zp c t k
 pg2048:Zp c t k≤2048
theorem KOk.bounds{c:Zh}(h:KOk c){t k:Nat}(ht:t<c.ts.length)(hk:k<c.cl.length):Zvz c t k:=by
 have a:=h.cl.least k hk;have b:=h.cl.top k hk;have g:nth c.cl k≤Vr c:=by
  unfold Vr;rcases Nat.lt_or_ge k (c.cl.length-1) with c1|c1
  ·have:=h.cl.inc k _ c1 (by omega);omega
  ·have:k=c.cl.length-1:=by omega
   rw[←this];omega
 obtain⟨g1,g2,_⟩:=h.head;obtain⟨q1,q2,_⟩:=h.ten t ht;have per1:1≤Zw c k:=by
  unfold Zw;rw[Int.le_ediv_iff_mul_le (by omega)];omega
 have per32:Zw c k≤32:=by
  unfold Zw;have:c.page / nth c.cl k<33:=by rw[Int.ediv_lt_iff_lt_mul (by omega)];omega
  omega
 have s1:1≤Zl c t k:=by
  unfold Zl;rw[Int.le_ediv_iff_mul_le (by omega)];omega
 have s2:Zl c t k≤2048:=by
  unfold Zl;have:(Vg c.ts t).q / nth c.cl k<2049:=by rw[Int.ediv_lt_iff_lt_mul (by omega)];omega
  omega
 have pg1:1≤Zp c t k:=by
  unfold Zp;rw[Int.le_ediv_iff_mul_le (by omega)];omega
 have pg2:Zp c t k≤2048:=by
  unfold Zp;have:(Zl c t k+Zw c k-1) / Zw c k<2049:=by
   rw[Int.ediv_lt_iff_lt_mul (by omega)];have:2048*1≤2048*Zw c k:=Int.mul_le_mul_of_nonneg_left per1 (by omega);omega
  omega
 exact⟨a,b,by omega,g2,by omega,q2,per1,per32,s1,s2,pg1,pg2⟩
theorem KOk.page_bound{c:Zh}(h:KOk c){t k:Nat}(ht:t<c.ts.length)(hk:k<c.cl.length):0≤Zp c t k*c.page∧Zp c t k*c.page≤131072:=by
 have b:=h.bounds ht hk;have b1:=b.pg1;have b2:=b.pg2048;have b3:=b.c2;have b4:=b.cpage;have b5:=b.p64
 constructor
 ·exact Int.mul_nonneg (by omega) (by omega)
 ·have:=Int.mul_le_mul_of_nonneg_right (c:=c.page) b2 (by omega);omega
theorem KOk.words_bound{c:Zh}(h:KOk c){t:Nat}(ht:t<c.ts.length):0≤Yb c t∧Yb c t≤1048576:=by
 have:=Xu (fun i=>Zp c t i*c.page) 131072 c.cl.length (fun i hi=>h.page_bound ht hi);have:=h.cl.most;unfold Yb;omega
theorem KOk.base_bound{c:Zh}(h:KOk c){t:Nat}(ht:t≤c.ts.length):0≤Vh c t∧Vh c t≤8388608:=by
 have:=Xu (Yb c) 1048576 t (fun i hi=>h.words_bound (by omega));obtain⟨_,_,_,h8,_⟩:=h.head;unfold Vh;omega
theorem Ur{c:Zh}{t k:Int}(h:Xb c t k):∃(i j:Nat),t=i∧k=j∧i<c.ts.length∧j<c.cl.length∧KOk c:=by
 obtain⟨h0,h1,h2,h3,h4⟩:=h;exact⟨t.toNat,k.toNat,by omega,by omega,by omega,by omega,Y8 h0⟩
theorem Th{c:Zh}{i j:Nat}(h:Yc c=0)(hi:i<c.ts.length)(hj:j<c.cl.length):Xb c i j:=⟨h,by omega,by omega,by omega,by omega⟩
theorem Sx{c:Zh}{i j:Nat}(h:Xb c i j):Gz c i j=(Zl c i j,0):=by unfold Gz;rw[if_pos h];rfl
theorem Sy{c:Zh}{i j:Nat}(h:Xb c i j):G8 c i j=(Zp c i j,0):=by unfold G8;rw[if_pos h];rfl
theorem Ub{c:Zh}{i:Nat}(h:Xb c i 0):Ow c i=(Yb c i,0):=by unfold Ow;rw[if_pos h];rfl
theorem Nq{c:Zh}{i:Nat}(h:Xb c i 0):Zcq c i=(Vh c i,0):=by unfold Zcq;rw[if_pos h];rfl
theorem Nr{c:Zh}{t k:Int}(h:¬Xb c t k):Gz c t k=(0,2):=by unfold Gz;rw[if_neg h]
theorem Aj{c:Zh}{t k:Int}(h:¬Xb c t k):G8 c t k=(0,2):=by unfold G8;rw[if_neg h]
theorem G9{c:Zh}{t:Int}(h:¬Xb c t 0):Ow c t=(0,2):=by unfold Ow;rw[if_neg h]
theorem Dg{c:Zh}{t:Int}(h:¬Xb c t 0):Zcq c t=(0,2):=by unfold Zcq;rw[if_neg h]
abbrev Zf(ca:Option Addr)(cc:Nat)(ta:Option Addr)(tc:Nat)(c:Zh):Obj:=.cells #[.slice ca c.cl.length cc,.int .i64 c.page,.slice ta c.ts.length tc,.int .i64 c.wk,.int .i64 c.gr,.int .i64 c.gens] 25
theorem M7(f:Nat→Int)(n:Nat):Yu f (n+1)=Yu f n+f n:=rfl
theorem Zfd{f:Nat→Int}{n:Nat}(h:∀i,i<n→1≤f i)(a:Nat):∀d,a+d≤n→Yu f a+d≤Yu f (a+d)
 | 0,_=>by simp
 | d+1,hd=>by
  have h1:=Zfd h a d (by omega);have h2:=h (a+d) (by omega);rw[←Nat.add_assoc,M7];omega
theorem Sj{f:Nat→Int}{n a b:Nat}(h:∀i,i<n→1≤f i)(hab:a≤b)(hb:b≤n):Yu f a+((b-a:Nat):Int)≤Yu f b:=by
 have:=Zfd h a (b-a) (by omega)
 rwa [show a+(b-a)=b by omega] at this
theorem Dh{f:Nat→Int}{s:Int}(h0:0≤s):∀n,s<Yu f n→∃k,k<n∧Yu f k≤s∧s<Yu f (k+1)
 | 0,h=>by simp[Yu] at h;omega
 | n+1,h=>by
  rcases Int.lt_or_le s (Yu f n) with c|c
  ·obtain⟨k,h1,h2,h3⟩:=Dh h0 n c;exact⟨k,by omega,h2,h3⟩
  ·exact⟨n,by omega,c,h⟩
theorem Zfe{f:Nat→Int}{n k:Nat}{s:Int}(h:∀i,i<n→1≤f i)(hk:k<n)(h1:Yu f k≤s)(h2:s<Yu f (k+1))(i:Nat)(hi:i<n):decide (Yu f i≤s)=decide (i≤k):=by
 rcases Nat.lt_or_ge k i with c|c
 ·have:=Sj (a:=k+1) (b:=i) h (by omega) (by omega);rw[Zyx (by omega),Zyx (by omega)]
 ·have:=Sj (a:=i) (b:=k) h c (by omega);rw[Zyy (by omega),Zyy c]
def sS(c:Zh)(t k:Nat):Int:=Yu (Zl c t) k
def sG(c:Zh)(t k:Nat):Int:=Yu (Zp c t) k
structure Ztv where
 size:Int
 first:Int
 many:Int
 page:Int
 per:Int
def Sz(c:Zh)(t k:Nat):Ztv:=⟨nth c.cl k,sS c t k,Zl c t k,sG c t k,Zw c k⟩
structure Yk(c:Zh)(t:Nat)(s:Int)(k:Nat):Prop where
 lt:k<c.cl.length
 lo:sS c t k≤s
 hi:s<sS c t (k+1)
structure Qk(c:Zh)(t:Nat)(p:Int)(k:Nat):Prop where
 lt:k<c.cl.length
 lo:sG c t k≤p
 hi:p<sG c t (k+1)
theorem Qv{c:Zh}{t:Nat}{s:Int}(h0:0≤s)(h:s<sS c t c.cl.length):∃k,Yk c t s k:=by
 obtain⟨k,h1,h2,h3⟩:=Dh h0 _ h;exact⟨k,h1,h2,h3⟩
theorem Zcr{c:Zh}{t:Nat}{s:Int}(h0:0≤s)(h:s<sG c t c.cl.length):∃k,Qk c t s k:=by
 obtain⟨k,h1,h2,h3⟩:=Dh h0 _ h;exact⟨k,h1,h2,h3⟩
theorem KOk.slots1{c:Zh}(h:KOk c){t:Nat}(ht:t<c.ts.length):∀i,i<c.cl.length→1≤Zl c t i:=fun _ hi=>(h.bounds ht hi).s1
theorem KOk.pages1{c:Zh}(h:KOk c){t:Nat}(ht:t<c.ts.length):∀i,i<c.cl.length→1≤Zp c t i:=fun _ hi=>(h.bounds ht hi).pg1
theorem KOk.sS_le{c:Zh}(h:KOk c){t k:Nat}(ht:t<c.ts.length)(hk:k≤c.cl.length):(k:Int)≤sS c t k∧sS c t k≤k*2048:=by
 have h1:=Sj (a:=0) (b:=k) (h.slots1 ht) (Nat.zero_le _) hk;have h2:=Xu (Zl c t) 2048 k fun i hi=>⟨by have:=(h.bounds ht (k:=i) (by omega)).s1;omega,(h.bounds ht (by omega)).s2048⟩
 unfold sS;simp[Yu] at h1;omega
theorem KOk.sG_le{c:Zh}(h:KOk c){t k:Nat}(ht:t<c.ts.length)(hk:k≤c.cl.length):(k:Int)≤sG c t k∧sG c t k≤k*2048:=by
 have h1:=Sj (a:=0) (b:=k) (h.pages1 ht) (Nat.zero_le _) hk;have h2:=Xu (Zp c t) 2048 k fun i hi=>⟨by have:=(h.bounds ht (k:=i) (by omega)).pg1;omega,(h.bounds ht (by omega)).pg2048⟩
 unfold sG;simp[Yu] at h1;omega
theorem KOk.S_side{c:Zh}(h:KOk c){t k:Nat}{s:Int}(ht:t<c.ts.length)(hk:Yk c t s k)(i:Nat)(hi:i<c.cl.length):decide (sS c t i≤s)=decide (i≤k):=
 Zfe (h.slots1 ht) hk.lt hk.lo hk.hi i hi
theorem KOk.G_side{c:Zh}(h:KOk c){t k:Nat}{s:Int}(ht:t<c.ts.length)(hk:Qk c t s k)(i:Nat)(hi:i<c.cl.length):decide (sG c t i≤s)=decide (i≤k):=
 Zfe (h.pages1 ht) hk.lt hk.lo hk.hi i hi
theorem Di{c:Zh}(t:Nat):∀k,Yu (fun i=>Zp c t i*c.page) k=sG c t k*c.page
 | 0=>by simp[sG,Yu]
 | k+1=>by rw[M7,Di t k];unfold sG;rw[M7,Int.add_mul]
def Yw(c:Zh)(t:Nat):Nat:=(Vh c t).toNat
def Z0(c:Zh)(t:Nat):Nat:=(Yb c t).toNat
def Zo(c:Zh):Nat:=Yw c c.ts.length
theorem KOk.baseN_eq{c:Zh}(h:KOk c){t:Nat}(ht:t≤c.ts.length):(Yw c t:Int)=Vh c t:=by
 have:=(h.base_bound ht).1;unfold Yw;omega
theorem KOk.wordsN_eq{c:Zh}(h:KOk c){t:Nat}(ht:t<c.ts.length):(Z0 c t:Int)=Yb c t:=by
 have:=(h.words_bound ht).1;unfold Z0;omega
theorem KOk.baseN_succ{c:Zh}(h:KOk c){t:Nat}(ht:t<c.ts.length):Yw c (t+1)=Yw c t+Z0 c t:=by
 have h1:=h.baseN_eq (t:=t) (by omega);have h2:=h.baseN_eq (t:=t+1) ht;have h3:=h.wordsN_eq ht;have:Vh c (t+1)=Vh c t+Yb c t:=rfl;omega
theorem KOk.baseN_le{c:Zh}(h:KOk c){t s:Nat}(hts:t≤s)(hs:s≤c.ts.length):Yw c t≤Yw c s:=by
 induction s with
 | zero=>
  have:t=0:=by omega
  subst this;exact Zy1 _
 | succ n ih=>
  rcases Nat.lt_or_ge n t with g|g
  ·have:t=n+1:=by omega
   subst this;exact Zy1 _
  ·have:=ih g (by omega);have:=h.baseN_succ (t:=n) (by omega);omega
theorem KOk.total_le{c:Zh}(h:KOk c):Zo c≤8388608:=by
 have:=(h.base_bound (Zy1 _)).2;unfold Zo Yw;omega
theorem KOk.words_pos{c:Zh}(h:KOk c){t:Nat}(ht:t<c.ts.length):1≤Z0 c t:=by
 have h1:=h.wordsN_eq ht;have h2:=(h.sG_le ht (k:=c.cl.length) (Zy1 _)).1;have h3:=h.cl.pos;have h4:Yb c t=sG c t c.cl.length*c.page:=Di t _;have bd:=h.bounds ht (k:=0) h3;have h5:=bd.c2;have h6:=bd.cpage;have h7:=Int.mul_le_mul_of_nonneg_right (show(1:Int)≤sG c t c.cl.length by omega) (show 0≤c.page by omega);omega
theorem KOk.region_in{c:Zh}(h:KOk c){t:Nat}(ht:t<c.ts.length):Yw c t+Z0 c t≤Zo c:=by
 have:=h.baseN_succ ht;have:=h.baseN_le (t:=t+1) (s:=c.ts.length) ht (Zy1 _);unfold Zo;omega
theorem KOk.total_pos{c:Zh}(h:KOk c):1≤Zo c:=by
 have h1:=h.head.2.2.1;have:=h.words_pos (t:=0) (by omega);have:=h.region_in (t:=0) (by omega);omega
theorem KOk.apart{c:Zh}(h:KOk c){t s:Nat}(ht:t<c.ts.length)(hs:s<c.ts.length)(hne:t≠s):Yw c t+Z0 c t≤Yw c s∨Yw c s+Z0 c s≤Yw c t:=by
 have e1:=h.baseN_succ ht;have e2:=h.baseN_succ hs;rcases Nat.lt_or_ge t s with g|g
 ·have:=h.baseN_le (t:=t+1) (s:=s) g (by omega);omega
 ·have:=h.baseN_le (t:=s+1) (s:=t) (by omega) (by omega);omega
def Uc(c:Zh)(ws:List Int)(t:Nat):List Int:=(ws.drop (Yw c t)).take (Z0 c t)
def Sg(ws:List Int)(a n:Nat):List Int:=ws.take a++List.replicate n 0++ws.drop (a+n)
theorem Ns{ws:List Int}{a n:Nat}(h:a+n≤ws.length):(Sg ws a n).length=ws.length:=by
 unfold Sg;simp;omega
theorem Nt{ws:List Int}{a n:Nat}(h:a+n≤ws.length)(i:Nat):nth (Sg ws a n) i=if a≤i∧i<a+n then 0 else nth ws i:=by
 unfold Sg nth;simp only[List.getD];rcases Nat.lt_or_ge i a with h1|h1
 ·rw[if_neg (by omega),List.append_assoc,List.getElem?_append_left (by simp;omega),List.getElem?_take];simp[h1]
 ·rw[List.append_assoc,List.getElem?_append_right (by simp;omega)];have e:(ws.take a).length=a:=by simp;omega
  rw[e];rcases Nat.lt_or_ge i (a+n) with h2|h2
  ·rw[if_pos ⟨h1,h2⟩,List.getElem?_append_left (by simp;omega)];simp[List.getElem?_replicate,show i-a<n by omega]
  ·rw[if_neg (by omega),List.getElem?_append_right (by simp;omega)];simp[show a+n+(i-a-n)=i by omega]
theorem Ox{c:Zh}{ws:List Int}{t:Nat}(h:KOk c)(ht:t<c.ts.length)(hl:ws.length=Zo c):(Uc c ws t).length=Z0 c t:=by
 have:=h.region_in ht;unfold Uc;simp;omega
theorem Zcs{c:Zh}{ws:List Int}{t i:Nat}(hi:i<Z0 c t):nth (Uc c ws t) i=nth ws (Yw c t+i):=by
 unfold Uc nth;simp[List.getD,List.getElem?_take,hi]
theorem Dj{xs:List Int}{i j:Nat}{v:Int}(h:i<xs.length):nth (xs.set i v) j=if j=i then v else nth xs j:=by
 unfold nth;by_cases e:j=i
 ·subst e;simp[h]
 ·rw[if_neg e];simp[List.getD,List.getElem?_set,Ne.symm e]
theorem cell_far(w:World)(p a:Addr)(v:Value)(h:p.block≠a.block):(w.setCell p v).cell? a=w.cell? a:=by
 have e:=heap_setCell_other w p a.block v (Ne.symm h);unfold World.cell?;rw[e]
theorem Ext.frozenAt{w w':World}(h:Ext w w'){p:Addr}{v:Value}(hc:w.cell? p=some v)(hf:w.frozen? p=false):w'.frozen? p=false:=by
 rw[h.frozen (Zj hc)];exact hf
theorem Xe{W W1:World}{base e size n:Nat}{v:Value}{xs:List Value}(h:W.ownsRow base e size v n xs)(hx:Ext W W1):W1.ownsRow base e size v n xs:=by
 obtain⟨h1,h2|⟨g,cap,cur,h2,h3,h4,h5⟩⟩:=h
 ·exact⟨h1,.inl h2⟩
 ·exact⟨h1,.inr ⟨g,cap,cur,h2,h3,hx.block h4,h5⟩⟩
theorem Va{W:World}{base e size n:Nat}{v:Value}{xs:List Value}(h:W.ownsRow base e size v n xs){p:Addr}(hp:p.block<base)(u:Value):(W.setCell p u).ownsRow base e size v n xs:=by
 obtain⟨h1,h2|⟨g,cap,cur,h2,h3,h4,h5⟩⟩:=h
 ·exact⟨h1,.inl h2⟩
 ·exact⟨h1,.inr ⟨g,cap,cur,h2,h3,by rw[heap_setCell_other _ _ _ _ (by omega)];exact h4,h5⟩⟩
theorem Ext.grown{w W W':World}(h:Ext w W){row:Option Nat}(hg:W.grownBy W' row)(hr:∀k,row=some k→w.heap.size≤k):Ext w W':=Ext.of (h.below.grown hg h.size hr)
theorem Us{W W1 w2:World}{row:Option Nat}(hg:W1.grownBy w2 row)(hx:Ext W W1){p:Addr}{v:Value}(hc:W.cell? p=some v)(hne:some p.block≠row):w2.cell? p=some v:=by
 rw[hg.cell_far _ (Zj (hx.cell hc)) hne];exact hx.cell hc
theorem Zct{W W1 w2:World}{row:Option Nat}(hg:W1.grownBy w2 row)(hx:Ext W W1){p:Addr}{v:Value}(hc:W.cell? p=some v)(hf:W.frozen? p=false)(hne:some p.block≠row):w2.frozen? p=false:=by
 rw[hg.frozen_far _ (Zj (hx.cell hc)) hne];exact hx.frozenAt hc hf
theorem Oy(w:World)(v:Value)(t:TypeId):∀j u,[v][j]?=some u→(w.alloc (.cells #[v] t)).cell? ((⟨w.heap.size,0,none⟩:Addr).add j)=some u:=by
 intro j u h
 match j,h with
 | 0,h=>cases h;rw[Addr.add_lit];exact Zr w v t
theorem Zcu{v:Value}(h:v.oneCell'=true):∀u∈[v],u.oneCell'=true:=by
 intro u hu;simp only[List.mem_singleton] at hu;subst hu;exact h
def ncs(k:IntKind)(xs:List Int):List Value:=xs.map (Value.int k)
theorem Ru(k:IntKind)(xs:List Int):(ncs k xs).length=xs.length:=by simp[ncs]
theorem Zcv(k:IntKind)(xs:List Int):∀u∈ncs k xs,u.oneCell'=true:=by
 intro u hu;simp only[ncs,List.mem_map] at hu;obtain⟨n,_,rfl⟩:=hu;rfl
theorem Zs3(k:IntKind)(xs:List Int)(i:Nat)(h:i<xs.length):(ncs k xs)[i]?=some (.int k (nth xs i)):=by
 simp[ncs,nth,List.getD,h]
theorem Dk{k:IntKind}{w:World}{b o:Nat}{xs:List Int}(h:∀i,i<xs.length→w.cell? ⟨b,o+i,none⟩=some (.int k (nth xs i))) :
  ∀j u,(ncs k xs)[j]?=some u→w.cell? ((⟨b,o,none⟩:Addr).add j)=some u:=by
 intro j u hj;have hl:j<xs.length:=by have:=(List.getElem?_eq_some_iff.1 hj).1;rwa [Ru] at this
 rw[Zs3 k xs j hl] at hj;cases hj;rw[Addr.add_lit];exact h j hl
theorem Nu{k:IntKind}{w:World}{base e:Nat}{v:Value}{n:Nat}{xs:List Int}(h:w.ownsRow base e 1 v n (ncs k xs))(h0:0<n) :
  ∃g cap,v=.slice (some ⟨g,0,none⟩) n cap∧base≤g∧g<w.heap.size∧n=xs.length∧n≤cap∧cap≤maxLen∧At k w (some ⟨g,0,none⟩) xs∧∀o,w.frozen? ⟨g,o,none⟩=false:=by
 have hn:n=xs.length:=by have:=h.1;rw[Ru] at this;omega
 have h':=h;obtain⟨_,⟨rfl,rfl⟩|⟨g,cap,cur,rfl,hb,hh,hc,hm,hs,ht⟩⟩:=h
 ·exact absurd h0 (Nat.lt_irrefl 0)
 ·refine⟨g,cap,rfl,hb,(Array.getElem?_eq_some_iff.1 hh).1,hn,hc,hm,?_,fun o=>h'.frozenAt o⟩;refine At.mk fun i hi=>?_
  rw[Nat.zero_add,h'.cellAt _ (by omega)];exact Zs3 k xs i hi
structure Yj(k:IntKind)(w w':World)(a:Option Addr)(cap:Nat)(xs:List Int):Prop where
 row:At k w' a xs
 cap1:xs.length≤cap
 cap2:cap≤maxLen
 own:0<xs.length→∃g,a=some ⟨g,0,none⟩∧w.heap.size≤g∧g<w'.heap.size∧∀o,w'.frozen? ⟨g,o,none⟩=false
theorem S8{k:IntKind}{w w1:World}{e:Nat}{v:Value}{xs:List Int}(h:w1.ownsRow w.heap.size e 1 v xs.length (ncs k xs)):∃a cap,v=.slice a xs.length cap∧Yj k w w1 a cap xs:=by
 rcases Nat.eq_zero_or_pos xs.length with c|c
 ·obtain rfl:=List.length_eq_zero_iff.1 c;obtain⟨_,⟨rfl,_⟩|⟨g,cap,cur,rfl,hb,hh,hc,hm,hs,ht⟩⟩:=h
  ·exact⟨none,0,rfl,At.nil,Zy1 _,Nat.zero_le _,fun hi=>absurd hi (Nat.lt_irrefl 0)⟩
  ·exact⟨_,cap,rfl,At.nil,hc,hm,fun hi=>absurd hi (Nat.lt_irrefl 0)⟩
 ·obtain⟨g,cap,rfl,h1,h2,_,h4,h5,h6,h7⟩:=Nu h c;exact⟨_,cap,rfl,h6,h4,h5,fun _=>⟨g,rfl,h1,h2,h7⟩⟩
theorem Yj.lower{k:IntKind}{w W0 w':World}{a:Option Addr}{cap:Nat}{xs:List Int}(h:Yj k W0 w' a cap xs)(hl:w.heap.size≤W0.heap.size):Yj k w w' a cap xs:=
 ⟨h.row,h.cap1,h.cap2,fun h0=>by obtain⟨g,e,h1,h2⟩:=h.own h0;exact⟨g,e,Zy6 hl h1,h2⟩⟩
theorem Yj.ext{k:IntKind}{W0 w' w'':World}{a:Option Addr}{cap:Nat}{xs:List Int}(h:Yj k W0 w' a cap xs)(hx:Ext w' w''):Yj k W0 w'' a cap xs:=
 ⟨h.row.ext hx,h.cap1,h.cap2,fun h0=>by
  obtain⟨g,e,h1,h2,h3⟩:=h.own h0;exact⟨g,e,h1,Zy5 h2 hx.size,fun o=>by rw[hx.frozen (p:=⟨g,o,none⟩) h2];exact h3 o⟩⟩
theorem Yj.setCell{k:IntKind}{W0 w':World}{a:Option Addr}{cap:Nat}{xs:List Int}(h:Yj k W0 w' a cap xs){p:Addr}(hp:p.block<W0.heap.size)(u:Value):Yj k W0 (w'.setCell p u) a cap xs:=by
 refine⟨fun i hi=>?_,h.cap1,h.cap2,fun h0=>?_⟩
 ·obtain⟨g,rfl,h1,_⟩:=h.own (by omega);obtain⟨b,o,e,hc⟩:=h.row i hi;cases e;refine⟨g,0,rfl,?_⟩;rw[cell_far _ _ _ _ (by show p.block≠g;omega)];exact hc
 ·obtain⟨g,e,h1,h2,h3⟩:=h.own h0;exact⟨g,e,h1,by simpa using h2,fun o=>by simpa using h3 o⟩
def Pv(k:IntKind)(xs:List Int)(w:World)(e:Ending)(w':World):Prop:=∃a cap,e=.returned (.slice a xs.length cap)∧Yj k w w' a cap xs∧Ext w w'
theorem Rv(k:IntKind)(l:List Int)(p:Int):ncs k l++[.int k p]=ncs k (l++[p]):=by unfold ncs;rw[List.map_append];rfl
structure Chg(P:Nat→Prop)(w w':World):Prop where
 os:w'.os=w.os
 tape:w'.tape=w.tape
 output:w'.output=w.output
 size:w.heap.size≤w'.heap.size
 block:∀k,k<w.heap.size→¬P k→w'.heap[k]?=w.heap[k]?
theorem Chg.refl(P:Nat→Prop)(w:World):Chg P w w:=⟨rfl,rfl,rfl,Zy1 _,fun _ _ _=>rfl⟩
theorem Chg.trans{P:Nat→Prop}{a b c:World}(h:Chg P a b)(k:Chg P b c):Chg P a c:=
 ⟨k.os.trans h.os,k.tape.trans h.tape,k.output.trans h.output,Zy6 h.size k.size,fun i hi hp=>(k.block i (Zy5 hi h.size) hp).trans (h.block i hi hp)⟩
theorem Chg.of_ext{P:Nat→Prop}{w w':World}(h:Ext w w'):Chg P w w':=⟨Below.os h,Below.tape h,Below.output h,Below.size h,fun k hk _=>Below.block h k hk⟩
theorem Chg.ext{w w':World}(h:Chg (fun _=>False) w w'):Ext w w':=⟨h.os,h.tape,h.output,h.size,fun k hk=>h.block k hk fun a=>a⟩
theorem Chg.mono{P Q:Nat→Prop}{w w':World}(h:Chg P w w')(hpq:∀k,P k→Q k):Chg Q w w':=⟨h.os,h.tape,h.output,h.size,fun k hk hq=>h.block k hk fun hp=>hq (hpq k hp)⟩
theorem Chg.over{P:Nat→Prop}{v w w':World}(h:Chg P w w')(hx:Ext v w)(hp:∀k,P k→v.heap.size≤k):Ext v w':=
 ⟨h.os.trans (Below.os hx),h.tape.trans (Below.tape hx),h.output.trans (Below.output hx),Zy6 (Below.size hx) h.size,
  fun k hk=>(h.block k (Zy5 hk (Below.size hx)) fun a=>Nat.lt_irrefl _ (Zy5 hk (hp k a))).trans (Below.block hx k hk)⟩
theorem Chg.alloc{P:Nat→Prop}{a w:World}(h:Chg P a w)(o:Obj):Chg P a (w.alloc o):=h.trans (Chg.of_ext ((Zy2 w).alloc o))
theorem Chg.drew{P:Nat→Prop}{a w:World}(h:Chg P a w):Chg P a w.drew:=h.trans (Chg.of_ext (Zy2 w).drew)
theorem Chg.drewN{P:Nat→Prop}{a w:World}(h:Chg P a w)(n:Nat):Chg P a (w.drewN n):=h.trans (Chg.of_ext ((Zy2 w).drewN n))
theorem Chg.setCell{P:Nat→Prop}{a w:World}(h:Chg P a w){p:Addr}(hp:P p.block∨a.heap.size≤p.block)(u:Value):Chg P a (w.setCell p u):=by
 have hb:Below 0 w (w.setCell p u):=Below.setCell (Below.refl 0 w) (Nat.zero_le _) u;refine⟨hb.os.trans h.os,hb.tape.trans h.tape,hb.output.trans h.output,Zy6 h.size hb.size,fun k hk hn=>?_⟩;rw[Below.heap_setCell w p u k]
 ·exact h.block k hk hn
 ·rintro rfl;rcases hp with hp|hp
  ·exact hn hp
  ·exact Nat.lt_irrefl _ (Zy5 hk hp)
theorem Chg.cell{P:Nat→Prop}{w w':World}(h:Chg P w w'){p:Addr}{v:Value}(hp:¬P p.block)(hc:w.cell? p=some v):w'.cell? p=some v:=by
 rw[World.cell?_of_block (w:=w) (h.block p.block (Zj hc) hp)];exact hc
theorem Chg.frozen{P:Nat→Prop}{w w':World}(h:Chg P w w'){p:Addr}(hl:p.block<w.heap.size)(hp:¬P p.block):w'.frozen? p=w.frozen? p:=
 World.frozen?_of_block (w:=w) (h.block p.block hl hp)
theorem At.chg{k:IntKind}{P:Nat→Prop}{w w':World}{a:Option Addr}{xs:List Int}(h:At k w a xs)(hx:Chg P w w')(hp:∀b o,a=some ⟨b,o,none⟩→0<xs.length→¬P b):At k w' a xs:=by
 intro i hi;obtain⟨b,o,e,hc⟩:=h i hi;exact⟨b,o,e,hx.cell (hp b o e (by omega)) hc⟩
theorem Zcw{xs:List Int}{i j:Nat}{v:Int}(h:i<xs.length):nth (xs.set i v) j=if j=i then v else nth xs j:=by
 unfold nth;by_cases e:j=i
 ·subst e;simp[h]
 ·rw[if_neg e];simp[List.getD,List.getElem?_set,Ne.symm e]
theorem At.set{k:IntKind}{w:World}{g j:Nat}{xs:List Int}(h:At k w (some ⟨g,0,none⟩) xs)(hj:j<xs.length)(v:Int):At k (w.setCell ⟨g,j,none⟩ (.int k v)) (some ⟨g,0,none⟩) (xs.set j v):=by
 intro i hi;rw[List.length_set] at hi;refine⟨g,0,rfl,?_⟩;rw[Nat.zero_add];obtain⟨b,o,e,hc⟩:=h i hi;cases e;rw[Nat.zero_add] at hc;rw[Zcw hj];by_cases e:i=j
 ·subst e;rw[if_pos rfl];exact Zyz w _ _ hc
 ·rw[if_neg e,Zy0 _ _ _ _ (by intro e';cases e';exact e rfl)];exact hc
theorem Chg.setCells{P:Nat→Prop}{b:Nat}:∀(vs:List Value) (o:Nat) {a w:World},Chg P a w→P b→Chg P a (w.setCells b o vs)
 | [],_,_,_,h,_=>h
 | v :: vs,o,_,_,h,hp=>Chg.setCells vs (o+1) (h.setCell (p:=⟨b,o,none⟩) (.inl hp) v) hp
theorem Zy3{P:Nat→Prop}{w w':World}(h:Ext w w'):Chg P w w':=Chg.of_ext h
def Zi(P:Program)(g:Nat):Prop:=∀args w,(callFunc g args).run P w=.ok (.enter g args) w
theorem Zi.mk{P:Program}{g:Nat}{fn:Func}(h:P.funcs[g]?=some fn)(h1:(fn.name== "runtime.NumGoroutine")=false)(h2:fn.body.isNone=false):Zi P g:=by
 intro args w;have h3:¬fn.name= "runtime.NumGoroutine":=by simpa using h1
 have h4:¬fn.body=none:=by intro e;rw[e] at h2;cases h2
 unfold callFunc;simp[go_sem,h,h3,h4]
theorem Jz(a:Option Addr)(cap:Nat)(xs:List Int)(w:World)(h:At .i64 w a xs)(hl:xs.length≤maxLen) :
  Calls prog 89 #[.slice a xs.length cap] w fun e w'=>e=.returned (.int .i64 (Ya xs))∧w=w':=by
 unfold maxLen at hl;by_cases h1:xs.length<1
 ·have e:Ya xs=2:=by unfold Ya;rw[if_pos (.inl h1)]
  have E:=Za e;clear e;go_enter func89,ntmps89
  go_wp2
  go_ret;exact⟨by rw[E.out];rfl,rfl⟩
 ·obtain⟨b,o,rfl,hc⟩:=h.pos (by omega);by_cases h2:xs.length>8
  ·have e:Ya xs=2:=by unfold Ya;rw[if_pos (.inr (.inl h2))]
   have E:=Za e;clear e;go_enter func89,ntmps89
   go_wp2
   go_ret;exact⟨by rw[E.out];rfl,rfl⟩
  ·have hc0:=hc (xs.length-1) (by omega);by_cases h3:64<nth xs (xs.length-1)
   ·have e:Ya xs=2:=by unfold Ya;rw[if_pos (.inr (.inr h3))]
    have E:=Za e;clear e;go_enter func89,ntmps89
    go_wp2
    go_ret;exact⟨by rw[E.out];rfl,rfl⟩
   ·have e:Ya xs=Yt 1 (xs.drop 0):=by unfold Ya;rw[if_neg (by omega)];rfl
    have E:=Za e;clear e;go_enter func89,ntmps89
    go_wp2
    clear hc0
    go_loop [3,5,25] (fun last n i=>∃(k:Nat) (q:Int),k≤xs.length∧i=.int .i64 k∧last=.int .i64 q∧Ya xs=Yt q (xs.drop k)) (fun _ _ i=>xs.length-(intOf i).toNat)
    case atStart=>exact⟨0,1,Nat.zero_le _,rfl,rfl,E.out⟩
    case round=>
     obtain⟨k,q,hk,rfl,rfl,hq⟩:=hrel;have HQ:=Za hq;clear hq;by_cases hlt:k<xs.length
     ·have hck:=hc k hlt;have hd:=Ps xs k hlt;have HD:=Za hd;clear hd
      go_wp2
      ·go_ret;exact⟨by rw[HQ.out,HD.out,Yt,if_pos (by omega)];rfl,rfl⟩
      ·go_round
       case rel=>exact⟨k+1,_,by omega,by go_num,rfl,by rw[HQ.out,HD.out,Yt,if_neg (by omega)]⟩
       case measure=>simp[intOf];omega
     ·go_wp2
      go_ret;exact⟨by rw[HQ.out,List.drop_of_length_le (by omega)];rfl,rfl⟩
def Zka(P:Program)(g:Nat)(cs:Array Value)(n:Nat)(p:Nat→Bool)(w:World):Prop:=
 ∀i w',i<n→Ext w w'→Calls P g (#[.int .i64 i]++cs) w' fun e w''=>e=.returned (.bool (p i))∧Ext w' w''
theorem J0(g:Nat)(cs:Array Value)(n r:Nat)(p:Nat→Bool)(w:World)(hn:n≤1073741824)
  (hp:Zka prog g cs n p w) (hr:r≤n) (h1:∀i,i<r→p i=false) (h2:∀i,r≤i→i<n→p i=true) (hk:Zi prog g) :
  Calls prog 112 #[.int .i64 n,.func (.func g) #[] cs] w fun e w'=>e=.returned (.int .i64 r)∧Ext w w':=by
 unfold Zi at hk;have HP:=Za hp;clear hp;have H1:=Za h1;clear h1;have H2:=Za h2;clear h2;go_enter func112,ntmps112
 go_wp2
 go_loopw [5,6,7] (fun i j _ wr=>∃(x y:Nat),i=.int .i64 x∧j=.int .i64 y∧x≤r∧r≤y∧y≤n∧Ext w wr) (fun i j _ _=>(intOf j).toNat-(intOf i).toNat)
 case atStart=>exact⟨0,n,rfl,rfl,Nat.zero_le _,hr,Zy1 _,Zy2 _⟩
 case round=>
  obtain⟨x,y,rfl,rfl,hx,hy,hyn,hw⟩:=hrel;by_cases hlt:x<y
  ·go_wp2_with fail;refine(HP.out ((x+y) / 2) _ (by omega) hw).ze fun w1 hw1=>?_;have h3:x≤(x+y) / 2∧(x+y) / 2<y:=by omega
   cases hpm:p ((x+y) / 2)
   ·have hm:(x+y) / 2<r:=by
     rcases Nat.lt_or_ge ((x+y) / 2) r with h|h
     ·exact h
     ·have:=H2.out _ h (by omega);rw[hpm] at this;cases this
    go_wp2;go_roundw
    case rel=>exact⟨(x+y) / 2+1,y,by go_num,rfl,by omega,by omega,by omega,hw.trans hw1⟩
    case measure=>simp[intOf];omega
   ·have hm:r≤(x+y) / 2:=by
     rcases Nat.lt_or_ge ((x+y) / 2) r with h|h
     ·have:=H1.out _ h;rw[hpm] at this;cases this
     ·exact h
    go_wp2;go_roundw
    case rel=>exact⟨x,(x+y) / 2,rfl,by go_num,by omega,by omega,by omega,hw.trans hw1⟩
    case measure=>simp[intOf];omega
  ·go_wp2;go_ret;exact⟨Qr (by omega),hw⟩
theorem Kb{a:Option Addr}{cap:Nat}(xs:List Int)(n:Nat)(p:Int){w:World}(hn:xs.length=n)(hp:Ya xs=p)(h:At .i64 w a xs)(hl:xs.length≤maxLen) :
  Calls prog 89 #[.slice a n cap] w fun e w'=>e=.returned (.int .i64 p)∧Ext w w':=by
 have:=Jz a cap xs w h hl;rw[hp,hn] at this;exact this.mono fun _ _ ⟨he,hw⟩=>⟨he,hw▸Zy2 _⟩
def La(w:World)(a:Option Addr)(ts:List Ten):Prop:=
 ∀i,i<ts.length→∃b o,a=some ⟨b,o,none⟩∧w.cell? ⟨b,o+i*4,none⟩=some (.int .i64 (Vg ts i).q)∧w.cell? ⟨b,o+i*4+1,none⟩=some (.int .i64 (Vg ts i).tr) ∧
  w.cell? ⟨b,o+i*4+2,none⟩=some (.int .i64 (Vg ts i).cp)∧w.cell? ⟨b,o+i*4+3,none⟩=some (.int .i64 (Vg ts i).sst)
theorem La.ext{w w':World}{a:Option Addr}{ts:List Ten}(h:La w a ts)(hx:Ext w w'):La w' a ts:=by
 intro i hi;obtain⟨b,o,e,h0,h1,h2,h3⟩:=h i hi;exact⟨b,o,e,hx.cell h0,hx.cell h1,hx.cell h2,hx.cell h3⟩
theorem La.pos{w:World}{a:Option Addr}{ts:List Ten}(h:La w a ts)(h0:0<ts.length) :
  ∃b o,a=some ⟨b,o,none⟩∧∀i,i<ts.length→w.cell? ⟨b,o+i*4,none⟩=some (.int .i64 (Vg ts i).q)∧w.cell? ⟨b,o+i*4+1,none⟩=some (.int .i64 (Vg ts i).tr) ∧
  w.cell? ⟨b,o+i*4+2,none⟩=some (.int .i64 (Vg ts i).cp)∧w.cell? ⟨b,o+i*4+3,none⟩=some (.int .i64 (Vg ts i).sst):=by
 obtain⟨b,o,rfl,_⟩:=h 0 h0;refine⟨b,o,rfl,fun i hi=>?_⟩;obtain⟨b',o',e,hc⟩:=h i hi;cases e;exact hc
structure Y7(w:World)(ca ta:Option Addr)(cc tc:Nat)(c:Zh):Prop where
 cl:At .i64 w ca c.cl
 ts:La w ta c.ts
 cm:c.cl.length≤maxLen
 tm:c.ts.length≤maxLen
 ccap:c.cl.length≤cc
 tcap:c.ts.length≤tc
 ccm:cc≤maxLen
 tcm:tc≤maxLen
theorem Y7.ext{w w':World}{ca ta:Option Addr}{cc tc:Nat}{c:Zh}(h:Y7 w ca ta cc tc c)(hx:Ext w w'):Y7 w' ca ta cc tc c:=⟨h.cl.ext hx,h.ts.ext hx,h.cm,h.tm,h.ccap,h.tcap,h.ccm,h.tcm⟩
theorem Vo{w w1:World}{v0 v1 v2 v3 v4 v5:Value}{t:TypeId}(hx:Ext (w.alloc (.cells #[v0,v1,v2,v3,v4,v5] t)) w1) :
  w1.cell? w.heap.size=some v0∧w1.cell? ⟨w.heap.size,1,none⟩=some v1∧w1.cell? ⟨w.heap.size,2,none⟩=some v2∧w1.cell? ⟨w.heap.size,3,none⟩=some v3 ∧
  w1.cell? ⟨w.heap.size,4,none⟩=some v4∧w1.cell? ⟨w.heap.size,5,none⟩=some v5:=
 ⟨hx.cell (Zg w _ t 0),hx.cell (Zg w _ t 1),hx.cell (Zg w _ t 2),hx.cell (Zg w _ t 3),hx.cell (Zg w _ t 4),hx.cell (Zg w _ t 5)⟩
theorem Zcx(a:Option Addr)(cap:Nat)(l:List Int)(w:World)(h:At .i64 w a l)(hl:l.length≤1000) :
  Calls prog 171 #[.slice a l.length cap] w fun e w'=>e=.returned (.bool (Ah l))∧Ext w w':=by
 by_cases h0:l.length<3
 ·have E:=Za (Gy h0);clear h;go_enter func171,ntmps171;go_wp2_with fail
  go_loopw [3] (fun i wr=>i=.int .i64 0∧Ext w wr) (fun _ _=>0)
  case atStart=>exact⟨rfl,Zy2 _⟩
  case round=>
   obtain⟨rfl,hw⟩:=hrel;go_wp2;go_ret;exact⟨by rw[E.out];rfl,hw⟩
 ·obtain⟨b,o,rfl,hc⟩:=h.pos (by omega);clear h;have HC:=Za hc;clear hc;go_enter func171,ntmps171;go_wp2_with fail
  go_loopw [3] (fun i wr=>∃k:Nat,k≤l.length∧i=.int .i64 k∧Hid (Ah l=Ah (l.drop k))∧Ext w wr) (fun i _=>l.length-(intOf i).toNat)
  case atStart=>exact⟨0,Nat.zero_le _,rfl,rfl,Zy2 _⟩
  case round=>
   obtain⟨k,hk,rfl,HE,hw⟩:=hrel;by_cases hlt:k+2<l.length
   ·have hc0:=hw.cell (HC.out k (by omega));have hc1:=hw.cell (HC.out (k+1) (by omega));have hc2:=hw.cell (HC.out (k+2) (by omega));have hd:Ah l=if nth l (k+1)<nth l k∨nth l (k+2)<nth l (k+1) then false else Ah (l.drop (k+3)):=by
     rw[HE.out,Ps l k (by omega),Ps l (k+1) (by omega),Ps l (k+2) (by omega),Zj9]
    have HD:=Za hd;clear hd;by_cases hb1:nth l (k+1)<nth l k
    ·go_wp2_with fail
     go_quiet (fail)
     go_wp2;go_ret;exact⟨by rw[HD.out,if_pos (.inl hb1)];rfl,hw.drewN _⟩
    ·have hd1:decide (nth l (k+1)<nth l k)=false:=by simpa using hb1
     by_cases hb2:nth l (k+2)<nth l (k+1)
     ·go_wp2_with fail
      go_quiet (fail)
      go_wp2;go_ret;exact⟨by rw[HD.out,if_pos (.inr hb2)];rfl,hw.drewN _⟩
     ·have hd2:decide (nth l (k+2)<nth l (k+1))=false:=by simpa using hb2
      go_wp2_with fail
      go_quiet (fail)
      go_wp2;go_roundw
      case rel=>exact⟨k+3,by omega,by go_num,by unfold Hid;rw[HD.out,if_neg (by omega)],hw.drewN _⟩
      case measure=>simp[intOf];omega
   ·have E:=Za (HE.out.trans (Gy (by rw[List.length_drop];omega)));go_wp2;go_ret;exact⟨by rw[E.out];rfl,hw⟩
theorem Zg0(a:Option Addr)(cap:Nat)(l:List Int)(w:World)(h:At .i64 w a l)(hl:l.length≤1000)(h0:1≤l.length)(hinc:∀i j,i<j→j<l.length→nth l i<nth l j) :
  Calls prog 170 #[.slice a l.length cap] w fun e w'=>e=.returned (.int .i64 (nth l (l.length-1)))∧Ext w w':=by
 obtain⟨b,o,rfl,hc⟩:=h.pos (by omega);clear h;have hc0:=hc 0 (by omega);rw[Nat.add_zero] at hc0;have HC:=Za hc;clear hc;have HI:=Za hinc;clear hinc;go_enter func170,ntmps170;go_wp2_with fail;clear hc0
 go_loopw [3,4] (fun m i wr=>∃k:Nat,1≤k∧k≤l.length∧i=.int .i64 k∧m=.int .i64 (nth l (k-1))∧Ext w wr) (fun _ i _=>l.length-(intOf i).toNat)
 case atStart=>exact⟨1,by omega,by omega,rfl,rfl,Zy2 _⟩
 case round=>
  obtain⟨k,hk1,hk,rfl,rfl,hw⟩:=hrel;by_cases hlt:k<l.length
  ·have hck:=hw.cell (HC.out k hlt);have hin:=HI.out (k-1) k (by omega) hlt;go_wp2;go_roundw
   case rel=>exact⟨k+1,by omega,by omega,by go_num,by simp,hw⟩
   case measure=>simp[intOf];omega
  ·obtain rfl:k=l.length:=by omega
   go_wp2;go_ret;exact⟨rfl,hw⟩
def Nv(P:Program)(g:Nat)(cs:Array Value)(n:Nat)(f:Nat→Int)(w:World):Prop:=
 ∀i w',i<n→Ext w w'→Calls P g (#[.int .i64 i]++cs) w' fun e w''=>e=.returned (.int .i64 (f i))∧Ext w' w''
theorem Ak(a:Option Addr)(n cap g:Nat)(cs:Array Value)(f:Nat→Int)(s:Int)(w:World)(hn:n≤1000)(hp:Nv prog g cs n f w)(hb:∀i,i<n→0≤f i∧f i≤1048576)(hs:Yu f n=s)(hk:Zi prog g) :
  Calls prog 172 #[.slice a n cap,.func (.func g) #[] cs] w fun e w'=>e=.returned (.int .i64 s)∧Ext w w':=by
 unfold Zi at hk;have HP:=Za hp;have HB:=Za hb;have HS:=Za hs;clear hp hb hs;go_enter func172,ntmps172;go_wp2_with fail
 go_loopw [5,9] (fun u i wr=>∃k:Nat,k≤n∧i=.int .i64 k∧u=.int .i64 (Yu f k)∧Ext w wr) (fun _ i _=>n-(intOf i).toNat)
 case atStart=>exact⟨0,Nat.zero_le _,rfl,rfl,Zy2 _⟩
 case round=>
  obtain⟨k,hk1,rfl,rfl,hw⟩:=hrel;by_cases hlt:k<n
  ·have hv:=HB.out k hlt;have hu:=Xu f 1048576 k (fun i hi=>HB.out i (by omega));have hu2:Yu f (k+1)=Yu f k+f k:=rfl;have HU:=Za hu2;clear hu2
   generalize Yu f k=u at *
   generalize hv':f k=v at *
   go_wp2_with fail;refine(HP.out k _ hlt hw).mono ?_;rw[hv'];clear hv';rintro e w1 ⟨rfl,hw1⟩;go_wp2;go_roundw
   case rel=>exact⟨k+1,by omega,by go_num,by rw[HU.out],hw.trans hw1⟩
   case measure=>simp[intOf];omega
  ·obtain rfl:k=n:=by omega
   go_wp2;go_ret;exact⟨by rw[HS.out];rfl,hw⟩
theorem Kc(a:Option Addr)(n cap g:Nat)(cs:Array Value)(f:Nat→Int)(s:Int)(w:World)(hn:n≤1000)(hp:Nv prog g cs n f w)(hb:∀i,i<n→0≤f i∧f i≤1048576)(hs:Yu f n=s)(hk:Zi prog g) :
  Calls prog 131 #[.slice a n cap,.func (.func g) #[] cs] w fun e w'=>e=.returned (.int .i64 s)∧Ext w w':=by
 unfold Zi at hk;have HP:=Za hp;have HB:=Za hb;have HS:=Za hs;clear hp hb hs;go_enter func131,ntmps131;go_wp2_with fail
 go_loopw [5,9] (fun u i wr=>∃k:Nat,k≤n∧i=.int .i64 k∧u=.int .i64 (Yu f k)∧Ext w wr) (fun _ i _=>n-(intOf i).toNat)
 case atStart=>exact⟨0,Nat.zero_le _,rfl,rfl,Zy2 _⟩
 case round=>
  obtain⟨k,hk1,rfl,rfl,hw⟩:=hrel;by_cases hlt:k<n
  ·have hv:=HB.out k hlt;have hu:=Xu f 1048576 k (fun i hi=>HB.out i (by omega));have hu2:Yu f (k+1)=Yu f k+f k:=rfl;have HU:=Za hu2;clear hu2
   generalize Yu f k=u at *
   generalize hv':f k=v at *
   go_wp2_with fail;refine(HP.out k _ hlt hw).mono ?_;rw[hv'];clear hv';rintro e w1 ⟨rfl,hw1⟩;go_wp2;go_roundw
   case rel=>exact⟨k+1,by omega,by go_num,by rw[HU.out],hw.trans hw1⟩
   case measure=>simp[intOf];omega
  ·obtain rfl:k=n:=by omega
   go_wp2;go_ret;exact⟨by rw[HS.out];rfl,hw⟩
theorem Al(c:Zh):Ah [Vr c,c.page,64,1,(c.ts.length:Int),8,0,c.wk,8,1,c.gr,64,1,c.gens,2147483648]=decide (Qi c):=by
 rw[Bool.eq_iff_iff,decide_eq_true_iff];unfold Qi;simp only[Ah]
 (repeat' split)<;>simp<;>omega
theorem Zff(g:Int)(t:Ten):Ah [g,t.q,4096,1,t.tr,1048576,1,t.cp,1024,0,t.sst,1024]=decide (M6 g t):=by
 rw[Bool.eq_iff_iff,decide_eq_true_iff];unfold M6;simp only[Ah]
 (repeat' split)<;>simp<;>omega
theorem Zg1(t k n m:Int):Ah [0,t,n,0,k,m]=decide (0≤t∧t≤n∧0≤k∧k≤m):=by
 rw[Bool.eq_iff_iff,decide_eq_true_iff];simp only[Ah]
 (repeat' split)<;>simp<;>omega
theorem Ut{a:Option Addr}{cap:Nat}(l:List Int)(n:Nat)(b:Bool){w:World}(hn:l.length=n)(hb:Ah l=b)(h:At .i64 w a l)(hl:l.length≤1000) :
  Calls prog 171 #[.slice a n cap] w fun e w'=>e=.returned (.bool b)∧Ext w w':=by
 have:=Zcx a cap l w h hl;rw[hb,hn] at this;exact this
theorem Zcy{a:Option Addr}{cap:Nat}(l:List Int)(m:Int){w:World}(hm:nth l (l.length-1)=m)(h:At .i64 w a l)(hc:COk l) :
  Calls prog 170 #[.slice a l.length cap] w fun e w'=>e=.returned (.int .i64 m)∧Ext w w':=by
 have:=Zg0 a cap l w h (by have:=hc.most;omega) hc.pos hc.inc;rw[hm] at this;exact this
theorem Ud{c:Zh}(h0:Ya c.cl=0)(h1:¬Qi c):Yc c=2:=by unfold Yc;rw[if_neg (by omega),if_neg h1]
theorem J1{c:Zh}(h0:Ya c.cl=0)(h1:Qi c):Yc c=Y0 (Vr c) c.ts:=by unfold Yc;rw[if_neg (by omega),if_pos h1]
theorem Am{c:Zh}(h0:Ya c.cl≠0):Yc c=2:=by unfold Yc;rw[if_pos h0]
theorem Zg2(ca ta:Option Addr)(cc tc:Nat)(c:Zh)(w:World)(h:Y7 w ca ta cc tc c) :
  Calls prog 130 #[.agg #[.slice ca c.cl.length cc,c.page,.slice ta c.ts.length tc,c.wk,c.gr,c.gens]] w fun e w'=>e=.returned (.int .i64 (Yc c))∧Ext w w':=by
 obtain⟨hx,h1⟩:=Zd w (Zf ca cc ta tc c);have tm:=h.tm;unfold maxLen at tm;have H:=Za h;clear h;by_cases h0:Ya c.cl=0
 ·have H0:=Za h0;have HO:=Za (Qu h0);clear h0;go_enter func130,ntmps130;go_wp2_with fail;refine(Kb c.cl _ 0 rfl H0.out (H.out.cl.ext (hx.trans h1)) H.out.cm).ze fun w1 h2=>?_;replace h1:=h1.trans h2;clear h2;obtain⟨b0,b1,b2,b3,b4,b5⟩:=Vo h1;go_wp2_with fail
  all_goals (try clear b0 b1 b2 b3 b4 b5)
  refine(Zcy c.cl (Vr c) rfl (H.out.cl.ext (hx.trans h1)) HO.out).ze fun w2 h2=>?_;replace h1:=h1.trans h2;clear h2;obtain⟨b0,b1,b2,b3,b4,b5⟩:=Vo h1;go_wp2_with fail
  all_goals (try clear b0 b1 b2 b3 b4 b5)
  by_cases hh:Qi c
  ·have E:=Za (J1 H0.out hh);have t1:1≤c.ts.length:=hh.2.2.1;have t8:c.ts.length≤8:=hh.2.2.2.1;refine(Ut [Vr c,c.page,64,1,(c.ts.length:Int),8,0,c.wk,8,1,c.gr,64,1,c.gens,2147483648] 15 true rfl (by rw[Al];simpa using hh) (At.new .i64 _ _ 3) (by simp)).mono ?_;clear hh;rintro e w3 ⟨rfl,h2⟩;replace h1:=(h1.alloc _).trans h2;clear h2;obtain⟨b0,b1,b2,b3,b4,b5⟩:=Vo h1;go_wp2_with fail;clear b0 b1 b2 b3 b4 b5;obtain⟨tb,to_,rfl,ht⟩:=H.out.ts.pos t1;have HT:=Za ht;clear ht
   go_loopw [34] (fun i wr=>∃k:Nat,k≤c.ts.length∧i=.int .i64 k∧Hid (Y0 (Vr c) c.ts=Y0 (Vr c) (c.ts.drop k))∧Ext (w.alloc (.cells #[.slice ca c.cl.length cc,c.page,.slice (some ⟨tb,to_,none⟩) c.ts.length tc,c.wk,c.gr,c.gens] 25)) wr) (fun i _=>c.ts.length-(intOf i).toNat)
   case atStart=>exact⟨0,Nat.zero_le _,rfl,rfl,h1⟩
   case round=>
    clear h1;obtain⟨k,hk,rfl,HE,h1⟩:=hrel;by_cases hlt:k<c.ts.length
    ·obtain⟨q0,q1,q2,q3⟩:=HT.out k hlt;have hd:Y0 (Vr c) c.ts=if M6 (Vr c) (Vg c.ts k) then Y0 (Vr c) (c.ts.drop (k+1)) else 2:=by
      rw[HE.out,Jy c.ts k hlt];rfl
     have HD:=Za hd;clear hd;have r0:=(hx.trans h1).cell q0;have r1:=(hx.trans h1).cell q1;have r2:=(hx.trans h1).cell q2;have r3:=(hx.trans h1).cell q3;clear q0 q1 q2 q3
     generalize Vg c.ts k=t at *
     go_wp2_with fail;by_cases htn:M6 (Vr c) t
     ·refine(Ut [Vr c,t.q,4096,1,t.tr,1048576,1,t.cp,1024,0,t.sst,1024] 12 true rfl (by rw[Zff];simpa using htn) (At.newb .i64 _ _ 3 _ (by simp)) (by simp)).mono ?_;rw[if_pos htn] at HD;clear htn;rintro e w4 ⟨rfl,h2⟩;replace h1:=((h1.alloc _).alloc _).trans h2;clear h2 r0 r1 r2 r3;go_wp2;go_roundw
      case rel=>exact⟨k+1,by omega,by go_num,HD.out,h1⟩
      case measure=>simp[intOf];omega
     ·refine(Ut [Vr c,t.q,4096,1,t.tr,1048576,1,t.cp,1024,0,t.sst,1024] 12 false rfl (by rw[Zff];simpa using htn) (At.newb .i64 _ _ 3 _ (by simp)) (by simp)).mono ?_;rw[if_neg htn] at HD;clear htn;rintro e w4 ⟨rfl,h2⟩;replace h1:=((h1.alloc _).alloc _).trans h2;clear h2 r0 r1 r2 r3;go_wp2;go_ret;exact⟨by rw[E.out,HD.out];rfl,hx.trans h1⟩
    ·have E2:=Za (HE.out.trans (by rw[List.drop_of_length_le (by omega)];rfl:Y0 (Vr c) (c.ts.drop k)=0));go_wp2;go_ret;exact⟨by rw[E.out,E2.out];rfl,hx.trans h1⟩
  ·have E:=Za (Ud H0.out hh);refine(Ut [Vr c,c.page,64,1,(c.ts.length:Int),8,0,c.wk,8,1,c.gr,64,1,c.gens,2147483648] 15 false rfl (by rw[Al];simpa using hh) (At.new .i64 _ _ 3) (by simp)).mono ?_;clear hh;rintro e w3 ⟨rfl,h2⟩;replace h1:=(h1.alloc _).trans h2;clear h2;go_wp2;go_ret;exact⟨by rw[E.out];rfl,hx.trans h1⟩
 ·have h2:Ya c.cl=2:=(Jw _).resolve_left h0;have E:=Za (Am h0);have H2:=Za h2;clear h0 h2;go_enter func130,ntmps130;go_wp2_with fail;refine(Kb c.cl _ 2 rfl H2.out (H.out.cl.ext (hx.trans h1)) H.out.cm).ze fun w3 h2=>?_;replace h1:=h1.trans h2;clear h2;obtain⟨b0,b1,b2,b3,b4,b5⟩:=Vo h1;go_wp2_with fail
  all_goals (try clear b0 b1 b2 b3 b4 b5)
  go_ret;exact⟨by rw[E.out];rfl,hx.trans h1⟩
theorem Rw{ca ta:Option Addr}{cc tc:Nat}(c:Zh)(p:Int){w:World}(hp:Yc c=p)(h:Y7 w ca ta cc tc c) :
  Calls prog 130 #[.agg #[.slice ca c.cl.length cc,c.page,.slice ta c.ts.length tc,c.wk,c.gr,c.gens]] w fun e w'=>e=.returned (.int .i64 p)∧Ext w w':=hp▸Zg2 ca ta cc tc c w h
theorem Tp{ca ta:Option Addr}{cc tc:Nat}(c:Zh)(t k:Int)(b:Bool){w:World}(hb:decide (Xb c t k)=b)(h:Y7 w ca ta cc tc c) :
  Calls prog 134 #[.agg #[.slice ca c.cl.length cc,c.page,.slice ta c.ts.length tc,c.wk,c.gr,c.gens],.int .i64 t,.int .i64 k] w fun e w'=>e=.returned (.bool b)∧Ext w w':=by
 obtain⟨hx,h1⟩:=Zd w (Zf ca cc ta tc c);have H:=Za h;clear h;by_cases h0:Yc c=0
 ·have ho:=Y8 h0;have c1:=ho.cl.pos;have c8:=ho.cl.most;have t1:=ho.head.2.2.1;have t8:=ho.head.2.2.2.1;have hw:Ah [0,t,(c.ts.length:Int)-1,0,k,(c.cl.length:Int)-1]=b:=by
   rw[Zg1,←hb];unfold Xb;simp[h0]
  have HW:=Za hw;have H0:=Za h0;clear h0 ho hw hb;go_enter func134,ntmps134;go_wp2_with fail;refine(Rw c 0 H0.out (H.out.ext (hx.trans h1))).ze fun w1 h2=>?_;replace h1:=h1.trans h2;clear h2;obtain⟨b0,b1,b2,b3,b4,b5⟩:=Vo h1;go_wp2_with fail
  all_goals (try clear b0 b1 b2 b3 b4 b5)
  refine(Ut [0,t,(c.ts.length:Int)-1,0,k,(c.cl.length:Int)-1] 6 b rfl HW.out (At.new .i64 _ _ 3) (by simp)).ze fun w3 h2=>?_;replace h1:=(h1.alloc _).trans h2;clear h2;go_wp2;go_ret;exact⟨rfl,hx.trans h1⟩
 ·have h2:Yc c=2:=(Np _).resolve_left h0;obtain rfl:b=false:=by rw[←hb];simp[Xb,h0]
  have H2:=Za h2;clear h0 h2 hb;go_enter func134,ntmps134;go_wp2_with fail;refine(Rw c 2 H2.out (H.out.ext (hx.trans h1))).ze fun w2 h2=>?_;replace h1:=h1.trans h2;clear h2;obtain⟨b0,b1,b2,b3,b4,b5⟩:=Vo h1;go_wp2_with fail
  all_goals (try clear b0 b1 b2 b3 b4 b5)
  go_ret;exact⟨rfl,hx.trans h1⟩
theorem Lb{ca ta:Option Addr}{cc tc:Nat}(c:Zh)(t k p q:Int){w:World}(hpq:Gz c t k=(p,q))(h:Y7 w ca ta cc tc c) :
  Calls prog 177 #[.agg #[.slice ca c.cl.length cc,c.page,.slice ta c.ts.length tc,c.wk,c.gr,c.gens],.int .i64 t,.int .i64 k] w fun e w'=>e=.returned (.tuple #[.int .i64 p,.int .i64 q])∧Ext w w':=by
 obtain⟨hx,h1⟩:=Zd w (Zf ca cc ta tc c);have H:=Za h;clear h;by_cases hth:Xb c t k
 ·obtain⟨i,j,rfl,rfl,hi,hj,ho⟩:=Ur hth;rw[Sx hth] at hpq;obtain⟨rfl,rfl⟩:Zl c i j=p∧0=q:=by simpa using hpq
  clear hpq;have c8:=ho.cl.most;have t8:=ho.head.2.2.2.1;have bd:=ho.bounds hi hj;have u1:=bd.c2;have u2:=bd.cq;have u3:=bd.q4096;have u4:=bd.c64;have HS:=Za (show Zl c i j=(Vg c.ts i).q / nth c.cl j from rfl);have HTH:=Za (show decide (Xb c i j)=true by simpa using hth);obtain⟨cb,co,rfl,hc⟩:=H.out.cl.pos (by omega);obtain⟨tb,to_,rfl,ht⟩:=H.out.ts.pos (by omega);have hcj:=hc j hj;have hti:=(ht i hi).1;clear hc ht bd ho hth
  generalize Zl c i j=s at *
  generalize nth c.cl j=x at *
  generalize (Vg c.ts i).q=y at *
  go_enter func177,ntmps177;go_wp2_with fail;refine(Tp c _ _ true HTH.out (H.out.ext (hx.trans h1))).ze fun w1 h2=>?_;replace h1:=h1.trans h2;clear h2;obtain⟨b0,b1,b2,b3,b4,b5⟩:=Vo h1;go_wp2_with fail
  all_goals (try clear b0 b1 b2 b3 b4 b5)
  obtain⟨b0,b1,b2,b3,b4,b5⟩:=Vo h1;have z1:=(hx.trans h1).cell hcj;have z2:=(hx.trans h1).cell hti;clear hcj hti
  go_quiet (fail)
  go_wp2;go_ret2;exact⟨by rw[HS.out];rfl,(hx.trans h1).drewN _⟩
 ·rw[Nr hth] at hpq;obtain⟨rfl,rfl⟩:0=p∧2=q:=by simpa using hpq
  have HTH:=Za (show decide (Xb c t k)=false by simpa using hth);clear hpq hth;go_enter func177,ntmps177;go_wp2_with fail;refine(Tp c _ _ false HTH.out (H.out.ext (hx.trans h1))).ze fun w2 h2=>?_;replace h1:=h1.trans h2;clear h2;obtain⟨b0,b1,b2,b3,b4,b5⟩:=Vo h1;go_wp2_with fail
  all_goals (try clear b0 b1 b2 b3 b4 b5)
  go_ret2;exact⟨rfl,hx.trans h1⟩
theorem Fa{ca ta:Option Addr}{cc tc:Nat}(c:Zh)(t k p q:Int){w:World}(hpq:G8 c t k=(p,q))(h:Y7 w ca ta cc tc c) :
  Calls prog 174 #[.agg #[.slice ca c.cl.length cc,c.page,.slice ta c.ts.length tc,c.wk,c.gr,c.gens],.int .i64 t,.int .i64 k] w fun e w'=>e=.returned (.tuple #[.int .i64 p,.int .i64 q])∧Ext w w':=by
 obtain⟨hx,h1⟩:=Zd w (Zf ca cc ta tc c);have H:=Za h;clear h;by_cases hth:Xb c t k
 ·obtain⟨i,j,rfl,rfl,hi,hj,ho⟩:=Ur hth;have HSL:=Za (Sx hth);rw[Sy hth] at hpq;obtain⟨rfl,rfl⟩:Zp c i j=p∧0=q:=by simpa using hpq
  clear hpq;have c8:=ho.cl.most;have bd:=ho.bounds hi hj;have u1:=bd.c2;have u2:=bd.cpage;have u3:=bd.p64;have u4:=bd.c64;have u5:=bd.s1;have u6:=bd.s2048;have u7:=bd.per1;have u8:=bd.per32;have HS:=Za (show Zp c i j=(Zl c i j+Zw c j-1) / Zw c j from rfl);have HP:=Za (show c.page / nth c.cl j=Zw c j from rfl);obtain⟨cb,co,rfl,hc⟩:=H.out.cl.pos (by omega);have hcj:=hc j hj;clear hc bd ho hth
  generalize Zp c i j=pg at *
  generalize Zl c i j=s at *
  generalize Zw c j=pe at *
  generalize nth c.cl j=x at *
  go_enter func174,ntmps174;go_wp2_with fail;refine(Lb c _ _ _ _ HSL.out (H.out.ext (hx.trans h1))).ze fun w1 h2=>?_;replace h1:=h1.trans h2;clear h2;obtain⟨b0,b1,b2,b3,b4,b5⟩:=Vo h1;go_wp2_with fail
  all_goals (try clear b0 b1 b2 b3 b4 b5)
  obtain⟨b0,b1,b2,b3,b4,b5⟩:=Vo h1;have z1:=(hx.trans h1).cell hcj;clear hcj
  go_quiet (fail)
  rw[HP.out];go_wp2;go_ret2;exact⟨by rw[HS.out];rfl,(hx.trans h1).drewN _⟩
 ·have HSL:=Za (Nr hth);rw[Aj hth] at hpq;obtain⟨rfl,rfl⟩:0=p∧2=q:=by simpa using hpq
  clear hpq hth;go_enter func174,ntmps174;go_wp2_with fail;refine(Lb c _ _ _ _ HSL.out (H.out.ext (hx.trans h1))).ze fun w2 h2=>?_;replace h1:=h1.trans h2;clear h2;obtain⟨b0,b1,b2,b3,b4,b5⟩:=Vo h1;go_wp2_with fail
  all_goals (try clear b0 b1 b2 b3 b4 b5)
  go_ret2;exact⟨rfl,hx.trans h1⟩
theorem Dl:Zi prog 173:=Zi.mk func173 (by kernel_rfl) rfl
theorem An:Zi prog 135:=Zi.mk func135 (by kernel_rfl) rfl
theorem Dm:Zi prog 132:=Zi.mk func132 (by kernel_rfl) rfl
structure Zkb(w:World)(b:Nat)(ca ta:Option Addr)(cc tc:Nat)(c:Zh):Prop where
 b0:w.cell? b=some (.slice ca c.cl.length cc)
 b1:w.cell? ⟨b,1,none⟩=some (.int .i64 c.page)
 b2:w.cell? ⟨b,2,none⟩=some (.slice ta c.ts.length tc)
 b3:w.cell? ⟨b,3,none⟩=some (.int .i64 c.wk)
 b4:w.cell? ⟨b,4,none⟩=some (.int .i64 c.gr)
 b5:w.cell? ⟨b,5,none⟩=some (.int .i64 c.gens)
theorem Zkb.ext{w w':World}{b:Nat}{ca ta:Option Addr}{cc tc:Nat}{c:Zh}(h:Zkb w b ca ta cc tc c)(hx:Ext w w'):Zkb w' b ca ta cc tc c:=
 ⟨hx.cell h.b0,hx.cell h.b1,hx.cell h.b2,hx.cell h.b3,hx.cell h.b4,hx.cell h.b5⟩
theorem Zkb.of{w w1:World}{ca ta:Option Addr}{cc tc:Nat}{c:Zh}(hx:Ext (w.alloc (.cells #[.slice ca c.cl.length cc,c.page,.slice ta c.ts.length tc,c.wk,c.gr,c.gens] 25)) w1):Zkb w1 w.heap.size ca ta cc tc c:=by
 obtain⟨b0,b1,b2,b3,b4,b5⟩:=Vo hx;exact⟨b0,b1,b2,b3,b4,b5⟩
theorem Zcz{ca ta:Option Addr}{cc tc:Nat}(c:Zh)(i j:Nat)(p:Int)(cb:Nat)(tp:Addr){w:World}(hp:Zp c i j*c.page=p)(ho:KOk c)(hi:i<c.ts.length)(hj:j<c.cl.length)
  (hb:Zkb w cb ca ta cc tc c) (ht:w.cell? tp=some (.int .i64 i)) (h:Y7 w ca ta cc tc c) :
  Calls prog 173 #[.int .i64 j,cb,.pointer (some tp)] w fun e w'=>e=.returned (.int .i64 p)∧Ext w w':=by
 have bd:=ho.bounds hi hj;have u1:=bd.pg1;have u2:=bd.pg2048;have u3:=bd.c2;have u4:=bd.cpage;have u5:=bd.p64;have pb:=ho.page_bound hi hj;rw[hp] at pb;have HPG:=Za (Sy (Th ((Pu c).2 ho) hi hj));have H:=Za h;have HB:=Za hb;have HP:=Za hp;obtain⟨b0,b1,b2,b3,b4,b5⟩:=hb;clear h ho bd hp
 generalize nth c.cl j=x at *
 generalize Zp c i j=pg at *
 have h1:=Zy2 w;have HR:=Za (show IntKind.i64.wrap (pg*c.page)=p by rw[HP.out];exact IntWalk.i64_in _ (by omega));go_enter func173,ntmps173;go_wp2_with fail;refine(Fa c _ _ _ _ HPG.out H.out).mono ?_;clear b0 b1 b2 b3 b4 b5 ht;rintro e w1 ⟨rfl,h2⟩;have hb1:=(HB.out.ext h2).b1;have hr:=HR.out;go_wp2;go_ret;exact⟨rfl,h2⟩
theorem Lc{ca ta:Option Addr}{cc tc:Nat}(c:Zh)(i:Nat)(p:Int){w:World}(hp:Yb c i=p)(ho:KOk c)(hi:i<c.ts.length)(h:Y7 w ca ta cc tc c) :
  Calls prog 133 #[.agg #[.slice ca c.cl.length cc,c.page,.slice ta c.ts.length tc,c.wk,c.gr,c.gens],.int .i64 i] w fun e w'=>e=.returned (.int .i64 p)∧Ext w w':=by
 have hx:=((Zy2 w).alloc (.cells #[.slice ca c.cl.length cc,c.page,.slice ta c.ts.length tc,c.wk,c.gr,c.gens] 25)).alloc (.cells #[.int .i64 i] 3);have hA:Nv prog 173 #[w.heap.size,.pointer (some ⟨w.heap.size+1,0,none⟩)] c.cl.length (fun j=>Zp c i j*c.page) ((w.alloc (.cells #[.slice ca c.cl.length cc,c.page,.slice ta c.ts.length tc,c.wk,c.gr,c.gens] 25)).alloc (.cells #[.int .i64 i] 3)):=by
  intro j w' hj hw';exact Zcz c i j _ _ _ rfl ho hi hj (Zkb.of (((Zy2 _).alloc _).trans hw')) (hw'.cell (by simp)) (h.ext (hx.trans hw'))
 have SS:=Za (Ak ca c.cl.length cc _ _ _ p _ (by have:=ho.cl.most;omega) hA (fun j hj=>by have:=ho.page_bound hi hj;omega) hp Dl);clear h ho hA hp;go_enter func133,ntmps133;go_wp2_with fail;refine SS.out.ze fun w1 h2=>?_;go_wp2;go_ret;exact⟨rfl,hx.trans h2⟩
theorem J3{ca ta:Option Addr}{cc tc:Nat}(c:Zh)(t p q:Int){w:World}(hpq:Ow c t=(p,q))(h:Y7 w ca ta cc tc c) :
  Calls prog 137 #[.agg #[.slice ca c.cl.length cc,c.page,.slice ta c.ts.length tc,c.wk,c.gr,c.gens],.int .i64 t] w fun e w'=>e=.returned (.tuple #[.int .i64 p,.int .i64 q])∧Ext w w':=by
 obtain⟨hx,h1⟩:=Zd w (Zf ca cc ta tc c);have H:=Za h;clear h;by_cases hth:Xb c t 0
 ·obtain⟨i,j,rfl,hz,hi,hj,ho⟩:=Ur hth;rw[Ub hth] at hpq;obtain⟨rfl,rfl⟩:Yb c i=p∧0=q:=by simpa using hpq
  have HTH:=Za (show decide (Xb c i 0)=true by simpa using hth);have HO:=Za ho;clear hpq hz hth ho hj
  generalize hg:Yb c i=s at *
  have HG:=Za hg;clear hg;go_enter func137,ntmps137;go_wp2_with fail;refine(Tp c _ _ true HTH.out (H.out.ext (hx.trans h1))).ze fun w1 h2=>?_;replace h1:=h1.trans h2;clear h2;obtain⟨b0,b1,b2,b3,b4,b5⟩:=Vo h1;go_wp2_with fail
  all_goals (try clear b0 b1 b2 b3 b4 b5)
  refine(Lc c i s HG.out HO.out hi (H.out.ext (hx.trans h1))).ze fun w2 h2=>?_;replace h1:=h1.trans h2;clear h2;go_wp2;go_ret2;exact⟨rfl,hx.trans h1⟩
 ·rw[G9 hth] at hpq;obtain⟨rfl,rfl⟩:0=p∧2=q:=by simpa using hpq
  have HTH:=Za (show decide (Xb c t 0)=false by simpa using hth);clear hpq hth;go_enter func137,ntmps137;go_wp2_with fail;refine(Tp c _ _ false HTH.out (H.out.ext (hx.trans h1))).ze fun w3 h2=>?_;replace h1:=h1.trans h2;clear h2;obtain⟨b0,b1,b2,b3,b4,b5⟩:=Vo h1;go_wp2_with fail
  all_goals (try clear b0 b1 b2 b3 b4 b5)
  go_ret2;exact⟨rfl,hx.trans h1⟩
theorem Zg3{ca ta:Option Addr}{cc tc:Nat}(c:Zh)(i:Nat)(p:Int)(cb:Nat){w:World}(hp:Yb c i=p)(ho:KOk c)(hi:i<c.ts.length)(hb:Zkb w cb ca ta cc tc c)(h:Y7 w ca ta cc tc c) :
  Calls prog 135 #[.int .i64 i,cb] w fun e w'=>e=.returned (.int .i64 p)∧Ext w w':=by
 have H:=Za h;have HO:=Za ho;have HP:=Za hp;obtain⟨b0,b1,b2,b3,b4,b5⟩:=hb;clear h ho hp;go_enter func135,ntmps135;go_wp2_with fail;refine(Lc c i p HP.out HO.out hi H.out).mono ?_;clear b0 b1 b2 b3 b4 b5;rintro e w1 ⟨rfl,h2⟩;go_wp2;go_ret;exact⟨rfl,h2⟩
theorem Zc0{ca ta:Option Addr}{cc tc:Nat}(c:Zh)(i:Nat)(p:Int)(cb:Nat){w:World}(hp:Yb c i=p)(ho:KOk c)(hi:i<c.ts.length)(hb:Zkb w cb ca ta cc tc c)(h:Y7 w ca ta cc tc c) :
  Calls prog 132 #[.int .i64 i,cb] w fun e w'=>e=.returned (.int .i64 p)∧Ext w w':=by
 have H:=Za h;have HO:=Za ho;have HP:=Za hp;obtain⟨b0,b1,b2,b3,b4,b5⟩:=hb;clear h ho hp;go_enter func132,ntmps132;go_wp2_with fail;refine(Lc c i p HP.out HO.out hi H.out).mono ?_;clear b0 b1 b2 b3 b4 b5;rintro e w1 ⟨rfl,h2⟩;go_wp2;go_ret;exact⟨rfl,h2⟩
theorem Fb{ca ta:Option Addr}{cc tc:Nat}(c:Zh)(p q:Int){w:World}(hpq:Qj c=(p,q))(h:Y7 w ca ta cc tc c) :
  Calls prog 101 #[.agg #[.slice ca c.cl.length cc,c.page,.slice ta c.ts.length tc,c.wk,c.gr,c.gens]] w fun e w'=>e=.returned (.tuple #[.int .i64 p,.int .i64 q])∧Ext w w':=by
 obtain⟨hx,h1⟩:=Zd w (Zf ca cc ta tc c);have H:=Za h;clear h;by_cases h0:Yc c=0
 ·have ho:=Y8 h0;obtain⟨rfl,rfl⟩:Vh c c.ts.length=p∧0=q:=by unfold Qj at hpq;rw[if_pos h0] at hpq;simpa using hpq
  have t8:=ho.head.2.2.2.1;have HO:=Za ho;have H0:=Za h0;clear hpq h0 ho
  generalize hg:Vh c c.ts.length=s at *
  have HG:=Za hg;clear hg;go_enter func101,ntmps101;go_wp2_with fail;refine(Rw c 0 H0.out (H.out.ext (hx.trans h1))).ze fun w1 h2=>?_;replace h1:=h1.trans h2;clear h2;obtain⟨b0,b1,b2,b3,b4,b5⟩:=Vo h1;go_wp2_with fail
  all_goals (try clear b0 b1 b2 b3 b4 b5)
  have hA:Nv prog 132 #[w.heap.size] c.ts.length (Yb c) w1:=by
   intro j w' hj hw';exact Zc0 c j _ _ rfl HO.out hj (Zkb.of (h1.trans hw')) (H.out.ext ((hx.trans h1).trans hw'))
  refine(Kc ta c.ts.length tc _ _ _ s _ (by omega) hA (fun j hj=>HO.out.words_bound hj) HG.out Dm).mono ?_;clear hA;rintro e w2 ⟨rfl,h2⟩;replace h1:=h1.trans h2;clear h2;go_wp2;go_ret2;exact⟨rfl,hx.trans h1⟩
 ·have h2:Yc c=2:=(Np _).resolve_left h0;obtain⟨rfl,rfl⟩:0=p∧2=q:=by unfold Qj at hpq;rw[if_neg h0] at hpq;simpa using hpq
  have H2:=Za h2;clear h0 h2 hpq;go_enter func101,ntmps101;go_wp2_with fail;refine(Rw c 2 H2.out (H.out.ext (hx.trans h1))).ze fun w2 h2=>?_;replace h1:=h1.trans h2;clear h2;obtain⟨b0,b1,b2,b3,b4,b5⟩:=Vo h1;go_wp2_with fail
  all_goals (try clear b0 b1 b2 b3 b4 b5)
  go_ret2;exact⟨rfl,hx.trans h1⟩
theorem Zkc{ca ta:Option Addr}{cc tc:Nat}(c:Zh)(t p q:Int){w:World}(hpq:Zcq c t=(p,q))(h:Y7 w ca ta cc tc c) :
  Calls prog 102 #[.agg #[.slice ca c.cl.length cc,c.page,.slice ta c.ts.length tc,c.wk,c.gr,c.gens],.int .i64 t] w fun e w'=>e=.returned (.tuple #[.int .i64 p,.int .i64 q])∧Ext w w':=by
 obtain⟨hx,h1⟩:=Zd w (Zf ca cc ta tc c);have hcap:=h.tcap;have hcm:=h.tcm;unfold maxLen at hcm;have H:=Za h;clear h;by_cases hth:Xb c t 0
 ·obtain⟨i,j,rfl,hz,hi,hj,ho⟩:=Ur hth;rw[Nq hth] at hpq;obtain⟨rfl,rfl⟩:Vh c i=p∧0=q:=by simpa using hpq
  have HTH:=Za (show decide (Xb c i 0)=true by simpa using hth);have t8:=ho.head.2.2.2.1;have HO:=Za ho;obtain⟨tb,to_,rfl,ht⟩:=H.out.ts.pos (by omega);clear hpq hz hth ho hj ht
  generalize hg:Vh c i=s at *
  have HG:=Za hg;clear hg;go_enter func102,ntmps102;go_wp2_with fail;refine(Tp c _ _ true HTH.out (H.out.ext (hx.trans h1))).ze fun w1 h2=>?_;replace h1:=h1.trans h2;clear h2;obtain⟨b0,b1,b2,b3,b4,b5⟩:=Vo h1;go_wp2_with fail
  all_goals (try clear b0 b1 b2 b3 b4 b5)
  have hA:Nv prog 135 #[w.heap.size] i (Yb c) w1:=by
   intro j w' hj hw';exact Zg3 c j _ _ rfl HO.out (by omega) (Zkb.of (h1.trans hw')) (H.out.ext ((hx.trans h1).trans hw'))
  refine(Kc _ i tc _ _ _ s _ (by omega) hA (fun j hj=>HO.out.words_bound (by omega)) HG.out An).mono ?_;clear hA;rintro e w2 ⟨rfl,h2⟩;replace h1:=h1.trans h2;clear h2;go_wp2;go_ret2;exact⟨rfl,hx.trans h1⟩
 ·rw[Dg hth] at hpq;obtain⟨rfl,rfl⟩:0=p∧2=q:=by simpa using hpq
  have HTH:=Za (show decide (Xb c t 0)=false by simpa using hth);clear hpq hth;go_enter func102,ntmps102;go_wp2_with fail;refine(Tp c _ _ false HTH.out (H.out.ext (hx.trans h1))).ze fun w2 h2=>?_;replace h1:=h1.trans h2;clear h2;obtain⟨b0,b1,b2,b3,b4,b5⟩:=Vo h1;go_wp2_with fail
  all_goals (try clear b0 b1 b2 b3 b4 b5)
  go_ret2;exact⟨rfl,hx.trans h1⟩
structure Yo(w:World)(b gw gb:Nat)(c:Zh)(ws:List Int):Prop where
 ok:KOk c
 len:ws.length=Zo c
 words:∃cap,w.cell? b=some (.slice (some ⟨gw,0,none⟩) ws.length cap)∧ws.length≤cap∧cap≤maxLen
 bases:∃cap,w.cell? ⟨b,1,none⟩=some (.slice (some ⟨gb,0,none⟩) (c.ts.length+1) cap)∧c.ts.length+1≤cap∧cap≤maxLen
 row:At .u64 w (some ⟨gw,0,none⟩) ws
 base:∀t,t≤c.ts.length→w.cell? ⟨gb,t,none⟩=some (.int .i64 (Yw c t))
 fz:∀o,w.frozen? ⟨gw,o,none⟩=false
 ne:b≠gw
 nb:gb≠gw
def isB(g k:Nat):Prop:=k=g
theorem Yo.chg{P:Nat→Prop}{w w':World}{b gw gb:Nat}{c:Zh}{ws:List Int}(h:Yo w b gw gb c ws)(hx:Chg P w w')(hb:¬P b)(hw:¬P gw)(hg:¬P gb):Yo w' b gw gb c ws:=by
 obtain⟨cap,h0,h1⟩:=h.words;obtain⟨cap',g0,g1⟩:=h.bases;refine⟨h.ok,h.len,⟨cap,hx.cell hb h0,h1⟩,⟨cap',hx.cell hb g0,g1⟩,h.row.chg hx (fun b o e _=>by cases e;exact hw),fun t ht=>hx.cell hg (h.base t ht),fun o=>?_,h.ne,h.nb⟩;obtain⟨b',o',e,hc⟩:=h.row 0 (by rw[h.len];exact h.ok.total_pos);cases e;rw[hx.frozen (p:=⟨gw,o,none⟩) (show gw<w.heap.size from Zj hc) hw];exact h.fz o
theorem Yo.ext{w w':World}{b gw gb:Nat}{c:Zh}{ws:List Int}(h:Yo w b gw gb c ws)(hx:Ext w w'):Yo w' b gw gb c ws:=
 h.chg (P:=fun _=>False) (Zy3 hx) (fun a=>a) (fun a=>a) (fun a=>a)
theorem Yo.lt{w:World}{b gw gb:Nat}{c:Zh}{ws:List Int}(h:Yo w b gw gb c ws):b<w.heap.size∧gw<w.heap.size∧gb<w.heap.size:=by
 obtain⟨cap,h0,_⟩:=h.words;obtain⟨b',o',e,hc⟩:=h.row 0 (by rw[h.len];exact h.ok.total_pos);cases e;exact⟨Zj h0,Zj hc,Zj (h.base 0 (Nat.zero_le _))⟩
theorem Yo.word{w:World}{b gw gb:Nat}{c:Zh}{ws:List Int}(h:Yo w b gw gb c ws){i:Nat}(hi:i<ws.length):w.cell? ⟨gw,i,none⟩=some (.int .u64 (nth ws i)):=by
 obtain⟨b',o',e,hc⟩:=h.row i hi;cases e
 rwa [Nat.zero_add] at hc
def Nw(k:Int):Ending:=.panicked [{ v:=.iface 28 (.int .i64 k),recovered:=false }]
theorem Jc{b gw gb:Nat}{c:Zh}{ws:List Int}{w:World}(h:Yo w b gw gb c ws):Calls prog 175 #[.pointer (some ⟨b,0,none⟩)] w fun e w'=>e=.returned (.bool false)∧w=w':=by
 obtain⟨cap,h1,_⟩:=h.bases;obtain⟨n,hn⟩:=Zb (c.ts.length+1);rw[hn] at h1;have t0:((n:Int)==0)=false:=by simp;omega
 clear h hn;go_enter func175,ntmps175;go_wp2;go_ret;exact⟨rfl,rfl⟩
def Fc(gw:Nat)(a n:Nat)(w:World)(e:Ending)(w':World):Prop:=(∃cap,e=.returned (.slice (some ⟨gw,a,none⟩) n cap)∧n≤cap∧cap≤maxLen)∧Ext w w'
theorem Ue{b gw gb t:Nat}{c:Zh}{ws:List Int}{w:World}(h:Yo w b gw gb c ws)(ht:t<c.ts.length) :
  Calls prog 217 #[b,.int .i64 t] w (Fc gw (Yw c t) (Z0 c t) w):=by
 obtain⟨cap,h0,hc1,hc2⟩:=h.words;obtain⟨cap',h1,_⟩:=h.bases;have r0:=h.base t (by omega);have r1:=h.base (t+1) ht;have hs:=h.ok.baseN_succ ht;have hin:=h.ok.region_in ht;have mp:=h.ok.words_pos ht;have hl:=h.len;have tl:=h.ok.total_le;have H:=Za h;have t8:=h.ok.head.2.2.2.1;clear h;obtain⟨n,hn⟩:=Zb (c.ts.length+1);rw[hn] at h1
 generalize Yw c t=a at *
 generalize Yw c (t+1)=z at *
 generalize Z0 c t=m at *
 generalize Zo c=T at *
 generalize ws.length=L at *
 have t0:decide ((t:Int)<0)=false:=by simp
 have t1:decide ((n:Int)-1≤(t:Int))=false:=by simp;omega
 have hwn:IntKind.i64.wrap ((n:Int)-1)=(n:Int)-1:=IntWalk.i64_in _ (by omega);have hk0:(0:Int)≤(t:Int):=Int.natCast_nonneg _;have hk1:(t:Int)<(n:Int):=by omega
 have hk2:(t:Int)+1<(n:Int):=by omega
 have hk3:(0:Int)≤(t:Int)+1:=by omega
 have hw1:IntKind.i64.wrap ((t:Int)+1)=(t:Int)+1:=IntWalk.i64_in _ (by omega);go_enter func217,ntmps217;go_wp2_with fail;refine(Jc H.out).zz ?_;go_wp2_with fail;have s0:(0:Int)≤(a:Int):=Int.natCast_nonneg _;have s1:(a:Int)≤(z:Int):=by omega
 have s2:(z:Int)≤(cap:Int):=by omega
 have s3:(0:Int)≤(z:Int):=Int.natCast_nonneg _
 go_quiet (fail)
 go_wp2;go_ret;exact⟨⟨cap-a,by simp[Nat.add_sub_cancel_left],by omega,by omega⟩,(Zy2 _).drewN _⟩
def Ao(c:Zh)(t:Int):Int:=if t<0∨(c.ts.length:Int)≤t then 2 else 0
def Xo(c:Zh)(t a n:Int):Int:=if t<0∨(c.ts.length:Int)≤t then 2 else if a<0∨n<0∨(Z0 c t.toNat:Int)<a∨(Z0 c t.toNat:Int)-a<n then 4 else 0
theorem Nx{b gw gb:Nat}{t:Int}{c:Zh}{ws:List Int}{w:World}(h:Yo w b gw gb c ws)(ht:t<0∨(c.ts.length:Int)≤t) :
  Calls prog 217 #[b,.int .i64 t] w fun e w'=>e=Nw 2∧w=w':=by
 obtain⟨cap',h1,_⟩:=h.bases;have t8:=h.ok.head.2.2.2.1;have H:=Za h;clear h;obtain⟨n,hn⟩:=Zb (c.ts.length+1);rw[hn] at h1;have hwn:IntKind.i64.wrap ((n:Int)-1)=(n:Int)-1:=IntWalk.i64_in _ (by omega);by_cases h0:t<0
 ·have t0:decide (t<0)=true:=by simpa using h0
  clear ht;go_enter func217,ntmps217;go_wp2_with fail;refine(Jc H.out).zz ?_;go_wp2_with fail;exact⟨rfl,rfl,rfl⟩
 ·have t0:decide (t<0)=false:=by simpa using h0
  have t1:decide ((n:Int)-1≤t)=true:=by simp;omega
  clear ht;go_enter func217,ntmps217;go_wp2_with fail;refine(Jc H.out).zz ?_;go_wp2_with fail;exact⟨rfl,rfl,rfl⟩
theorem Dn{b gw gb t a n:Nat}{c:Zh}{ws:List Int}{w:World}(h:Yo w b gw gb c ws)(ht:t<c.ts.length)(ha:a+n≤Z0 c t)(hn:1≤n) :
  Calls prog 197 #[b,.int .i64 t,.int .i64 a,.int .i64 n] w (Fc gw (Yw c t+a) n w):=by
 have hin:=h.ok.region_in ht;have tl:=h.ok.total_le;have H:=Za h;have HT:=Za ht;clear h ht;go_enter func197,ntmps197;go_wp2_with fail;refine(Ue H.out HT.out).mono ?_;rintro e w1 ⟨⟨cap,rfl,hc1,hc2⟩,x⟩;clear H HT
 generalize Z0 c t=m at *
 generalize Yw c t=z at *
 generalize Zo c=T at *
 have t0:decide ((a:Int)<0)=false:=by simp
 have t1:decide ((n:Int)<0)=false:=by simp
 have t2:decide ((m:Int)<(a:Int))=false:=by simp;omega
 have t3:decide ((m:Int)-(a:Int)<(n:Int))=false:=by simp;omega
 have w1:IntKind.i64.wrap ((m:Int)-(a:Int))=(m:Int)-(a:Int):=IntWalk.i64_in _ (by omega);have w2:IntKind.i64.wrap ((a:Int)+(n:Int))=(a:Int)+(n:Int):=IntWalk.i64_in _ (by omega);have s0:(0:Int)≤(a:Int):=Int.natCast_nonneg _;have s1:(a:Int)≤(a:Int)+(n:Int):=by omega
 have s2:(a:Int)+(n:Int)≤(cap:Int):=by omega
 go_wp2;go_ret;exact⟨⟨cap-a,by simp[Nat.add_sub_cancel_left],by omega,by omega⟩,x⟩
theorem Zkd{b gw gb t a:Nat}{c:Zh}{ws:List Int}{w:World}(h:Yo w b gw gb c ws)(ht:t<c.ts.length)(ha:a≤Z0 c t) :
  Calls prog 197 #[b,.int .i64 t,.int .i64 a,(0:Int)] w fun e w'=>(∃p cap,e=.returned (.slice p 0 cap))∧Ext w w':=by
 have hin:=h.ok.region_in ht;have tl:=h.ok.total_le;have H:=Za h;have HT:=Za ht;clear h ht;go_enter func197,ntmps197;go_wp2_with fail;refine(Ue H.out HT.out).mono ?_;rintro e w1 ⟨⟨cap,rfl,hc1,hc2⟩,x⟩;clear H HT
 generalize Z0 c t=m at *
 generalize Yw c t=z at *
 generalize Zo c=T at *
 have t0:decide ((a:Int)<0)=false:=by simp
 have t2:decide ((m:Int)<(a:Int))=false:=by simp;omega
 have t3:decide ((m:Int)-(a:Int)<0)=false:=by simp;omega
 have w1:IntKind.i64.wrap ((m:Int)-(a:Int))=(m:Int)-(a:Int):=IntWalk.i64_in _ (by omega);have w2:IntKind.i64.wrap (a:Int)=(a:Int):=IntWalk.i64_in _ (by omega);have s0:(0:Int)≤(a:Int):=Int.natCast_nonneg _;have s2:(a:Int)≤(cap:Int):=by omega
 go_wp2_with fail
 all_goals
  go_ret;exact⟨⟨_,_,by simp;exact⟨rfl,rfl⟩⟩,x⟩
theorem Oz{b gw gb:Nat}{t a n:Int}(k:Int){c:Zh}{ws:List Int}{w:World}(h:Yo w b gw gb c ws)(hk:Xo c t a n=k)(h0:k≠0)(ha:-9223372036854775808≤a∧a≤9223372036854775807)(hn:-9223372036854775808≤n∧n≤9223372036854775807) :
  Calls prog 197 #[b,.int .i64 t,.int .i64 a,.int .i64 n] w fun e w'=>e=Nw k∧Ext w w':=by
 have H:=Za h;unfold Xo at hk;by_cases ht:t<0∨(c.ts.length:Int)≤t
 ·rw[if_pos ht] at hk;subst hk;have HT:=Za ht;clear h ht;go_enter func197,ntmps197;go_wp2_with fail;refine(Nx H.out HT.out).zz ?_;unfold Nw;exact⟨rfl,rfl,Zy2 _⟩
 ·rw[if_neg ht] at hk;obtain⟨i,rfl⟩:∃i:Nat,t=i:=⟨t.toNat,by omega⟩;rw[Zy4] at hk;have hi:i<c.ts.length:=by omega
  have hin:=h.ok.region_in hi;have tl:=h.ok.total_le;have HT:=Za hi;clear h ht hi;have hb:a<0∨n<0∨(Z0 c i:Int)<a∨(Z0 c i:Int)-a<n:=by
   by_cases c0:a<0∨n<0∨(Z0 c i:Int)<a∨(Z0 c i:Int)-a<n
   ·exact c0
   ·rw[if_neg c0] at hk;exact absurd hk.symm h0
  rw[if_pos hb] at hk;subst hk;by_cases c0:a<0
  ·have t0:decide (a<0)=true:=by simpa using c0
   clear hb c0;go_enter func197,ntmps197;go_wp2_with fail;refine(Ue H.out HT.out).mono ?_;rintro e w1 ⟨⟨cap,rfl,hc1,hc2⟩,x⟩;clear H HT
   generalize Z0 c i=m at *
   generalize Yw c i=z at *
   go_wp2_with fail;unfold Nw;exact⟨rfl,rfl,x⟩
  ·have t0:decide (a<0)=false:=by simpa using c0
   by_cases c1:n<0
   ·have t1:decide (n<0)=true:=by simpa using c1
    clear hb c0 c1;go_enter func197,ntmps197;go_wp2_with fail;refine(Ue H.out HT.out).mono ?_;rintro e w1 ⟨⟨cap,rfl,hc1,hc2⟩,x⟩;clear H HT
    generalize Z0 c i=m at *
    generalize Yw c i=z at *
    go_wp2_with fail;unfold Nw;exact⟨rfl,rfl,x⟩
   ·have t1:decide (n<0)=false:=by simpa using c1
    by_cases c2:(Z0 c i:Int)<a
    ·have t2:decide ((Z0 c i:Int)<a)=true:=by simpa using c2
     clear hb c0 c1 c2;go_enter func197,ntmps197;go_wp2_with fail;refine(Ue H.out HT.out).mono ?_;rintro e w1 ⟨⟨cap,rfl,hc1,hc2⟩,x⟩;clear H HT
     generalize Z0 c i=m at *
     generalize Yw c i=z at *
     go_wp2_with fail;unfold Nw;exact⟨rfl,rfl,x⟩
    ·have t2:decide ((Z0 c i:Int)<a)=false:=by simpa using c2
     have t3:decide ((Z0 c i:Int)-a<n)=true:=by simp;omega
     have ww:IntKind.i64.wrap ((Z0 c i:Int)-a)=(Z0 c i:Int)-a:=IntWalk.i64_in _ (by omega);clear hb;go_enter func197,ntmps197;go_wp2_with fail;refine(Ue H.out HT.out).mono ?_;rintro e w1 ⟨⟨cap,rfl,hc1,hc2⟩,x⟩;clear H HT
     generalize Z0 c i=m at *
     generalize Yw c i=z at *
     go_wp2_with fail;unfold Nw;exact⟨rfl,rfl,x⟩
theorem Do(p:Addr)(k x:Int)(older:List PanicEntry)(w:World)(hc:w.cell? p=some (.int .i64 x))(hz:w.frozen? p=false) :
  CallsD prog 241 #[.pointer (some p)] (.panicking ({ v:=.iface 28 (.int .i64 k),recovered:=false } :: older)) w fun e u' w'=>
   e=.returned (.tuple #[])∧u'=.panicking ({ v:=.iface 28 (.int .i64 k),recovered:=true } :: older)∧w'=w.setCell p (.int .i64 k):=by
 have hta:∀w:World,(Instr.typeAssert (.iface 28 (.int .i64 k)) 20 28 true).run prog w=.ok (.tuple #[.int .i64 k,true]) w:=fun _=>by kernel_rfl
 refine callsD_of_wpS func241 rfl fun c₀ cs hu=>?_
 apply wpS_seq
 apply wpS_region
 simp[wpOpsS,go_sem,recoverD,hu,ntmps241,Exit.thenS];refine wpS_of_wp ?_;simp only[Array.replicate_succ,Array.replicate_zero,List.push_toArray,List.append_toArray,List.nil_append,List.cons_append,List.setIfInBounds_toArray,List.set_cons_zero,List.set_cons_succ]
 go_wp2
 cases c₀
 simp_all [bodyPostS,results,results241]
theorem Zpe(p:Addr)(w:World) :
  CallsD prog 241 #[.pointer (some p)] .returning w fun e u' w'=>e=.returned (.tuple #[])∧u'=.returning∧w'=w:=by
 refine callsD_of_wpS func241 rfl fun c₀ cs hu=>?_
 apply wpS_seq
 apply wpS_region
 simp[wpOpsS,go_sem,recoverD,hu,ntmps241,Exit.thenS];refine wpS_of_wp ?_;simp only[Array.replicate_succ,Array.replicate_zero,List.push_toArray,List.append_toArray,List.nil_append,List.cons_append,List.setIfInBounds_toArray,List.set_cons_zero,List.set_cons_succ]
 go_wp2
 cases c₀
 simp_all [bodyPostS,results,results241]
def Fd(k:Int)(e:Ending):Prop:=(k=0∧e=.returned (.tuple #[]))∨(k≠0∧e=Nw k)
theorem Zv0{g:Nat}{cs:Array Value}(k:Int){w:World}{R:World→Prop}(hk:Zi prog g)
  (h:Calls prog g cs (w.alloc (.cells #[(0:Int)] 28)) fun e w'=>Fd k e∧R w'∧w'.cell? w.heap.size=some (.int .i64 0)∧w'.frozen? w.heap.size=false) :
  Calls prog 195 #[.func (.func g) #[] cs] w fun e w'=>e=.returned (.int .i64 k)∧∃w1,R w1∧w'=w1.setCell w.heap.size (.int .i64 k):=by
 have hmf:=Ze
 unfold Zi at hk;have HC:=Za h;clear h
 go_enter_defers func195,ntmps195
 go_wp2_with fail;refine HC.out.mono ?_;rintro e w1 ⟨hw,hr,hc,hz⟩;have HR:=Za hr;clear hr HC;rcases hw with ⟨rfl,rfl⟩|⟨hk0,rfl⟩
 ·go_wp2_with fail;refine leaves_cons (f:=241) (args:=#[(w.heap.size:Value)]) (by simp) (by simp[go_sem]) ?_;refine(Zpe ⟨w.heap.size,0,none⟩ _).mono ?_;rintro e u' w'' ⟨rfl,rfl,rfl⟩;have hc2:=Zyz w1 ⟨w.heap.size,0,none⟩ (.int .i64 0) hc;simp[Leaves,settle,results,results195,go_sem,hc2];exact⟨w1,HR.out,rfl⟩
 ·unfold Nw;refine leaves_cons (f:=241) (args:=#[(w.heap.size:Value)]) (by simp) (by simp[go_sem]) ?_;refine(Do ⟨w.heap.size,0,none⟩ k 0 [] _ hc hz).mono ?_;rintro e u' w'' ⟨rfl,rfl,rfl⟩;have hc2:=Zyz w1 ⟨w.heap.size,0,none⟩ (.int .i64 k) hc;simp[Leaves,settle,results,results195,go_sem,hc2];exact⟨w1,HR.out,rfl⟩
theorem Dp{g z:Nat}{cs:Array Value}(k:Int){w:World}{P:Nat→Prop}{S:World→Prop}(hk:Zi prog g)(hz:w.heap.size=z)(hP:¬P z)
  (h:Calls prog g cs (w.alloc (.cells #[(0:Int)] 28)) fun e w'=>Fd k e∧Chg P (w.alloc (.cells #[(0:Int)] 28)) w'∧S w') (hS:∀w',S w'→S (w'.setCell z (.int .i64 k))) :
  Calls prog 195 #[.func (.func g) #[] cs] w fun e w'=>e=.returned (.int .i64 k)∧Chg P w w'∧S w':=by
 subst hz;have c0:=Zr w (.int .i64 0) 28;have f0:(w.alloc (.cells #[(0:Int)] 28)).frozen? w.heap.size=false:=World.frozen?_alloc_at _ _ _ _ rfl;refine(Zv0 (R:=fun w'=>Chg P w w'∧S w') k hk (h.mono ?_)).mono ?_
 ·rintro e w' ⟨h1,h2,h3⟩;exact⟨h1,⟨((Chg.refl P w).alloc _).trans h2,h3⟩,h2.cell hP c0,by rw[h2.frozen (p:=⟨w.heap.size,0,none⟩) (Zj c0) hP];exact f0⟩
 ·rintro e w' ⟨rfl,w1,⟨h1,h2⟩,rfl⟩;exact⟨rfl,h1.setCell (.inr (Zy1 _)) _,hS _ h2⟩
end Go.Proofs.YtfcldaembdedjaaGreatDoor
