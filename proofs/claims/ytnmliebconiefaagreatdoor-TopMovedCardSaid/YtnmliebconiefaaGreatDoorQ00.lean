/- Texts of TopTriangle's and TopMoved's walks, made small by a printer; no conditions. -/
import Derived.Below
import Derived.WalkKit
import Derived.KernelRfl
import Derived.Calls
import Derived.CallsIn
import Derived.OrdersIn
import Derived.OrdersHeld
import Derived.Deep.RegionHeld
import Derived.Tactics
import Derived.RangeFuncCalls
import Derived.RangeFuncIn
import Derived.RangeFuncBox
import Derived.RangeFuncLeaves
import Derived.Shelf.Abstract
import Derived.OwnWalkIn
import Derived.TacticsInMore
import Derived.LoopNIn
import Derived.LoopIn
import Derived.ProofKit
import Derived.OpenShut
import Derived.Deep.Slices
import Derived.Test.YtnmliebconiefaaGreatDoorRows
import Derived.WalkSpells
import Derived.ChangeAlike
import Derived.RangeFuncSeq
import Derived.Lib.Hide
import Derived.RegionIn
import Derived.Maps.AppendAt
import Derived.Deep.AppendSrc
import Derived.Deep.AppendLies
import Derived.RegionTactic
import Derived.Deep.RegionLaw
import Derived.BigQuiet
import Derived.Deep.QuietTactic
import Derived.WalkLawsBesides
import Derived.Recover
import Derived.LaidEql
import Derived.Stop.Asserts
import Derived.RowKitTokens
open Array renaming replicate→Ic
open Bool renaming false→ao,true→ad
open Functor renaming map→aAW
open Go renaming Act→eE,Addr→cp,Calls→aE,CallsIn→ge,Code→r3,Deferred→j2,Ending→mA,Exit→m7,FuncId→tG,method→L5,Oper→f9,Operand→H_,PanicEntry→vV,Program→il,RoundIn→Xb,TypeId→cY,Value→ac,World→O,YieldAt→o4,about_put→ahQ,callFunc→gM,execOp→kz,frozen→LN,loadVar→Xp,maxLen→ff,resolve→FE,results→gq,storeVar→Xq,underlying→aig,wpAnyH→gV,wpIn_region_any→aAp,wpOpIn→l_,yielded→k'
open Go.Act renaming eval→io
open Go.Addr renaming add→ym
open Go.Builtin renaming append_→qN
open Go.CallsIn renaming mono→aAk
open Go.Code renaming region→Ie
open Go.Ending renaming returned→au
open Go.Exit renaming thenS→Qv
open Go.Fence renaming list→lR,wide→dY
open Go.Frame renaming round→aAw
open Go.Instr renaming makeFunc→LY,makeSlice→FC
open Go.IntKind renaming i64→c,u64→j4,u8→aAX
open Go.Lit renaming int→vZ
open Go.Obj renaming cells→an
open Go.Oper renaming semAt_eq→aAu,upon→ahX,uponIn→zx,wp→Xf,wpIn→H9
open Go.Proofs.Tryz renaming func148→ah',func149→aAG,func150→aia,func151→aAJ,func152→aib,func153→aAH,func154→aid,func155→aic,func156→aAI,func242→aAF,func243→ah7,func244→ah6,func286→ah3,func82→aAR,func83→aAO,ntmps82→aAS,prog→aa,results33→aAV,results82→aAU,underlying151→aAZ
open Go.Region renaming binds→vW,free→uG,noSelect→uF,ready→lQ,wanted→k_
open Go.Result renaming andThen→o5,andThen_ok→aAn
open Go.RoundIn renaming mono→aAl
open Go.RowKit renaming Below→bQ,intOf→cu
open Go.Target renaming leads→ahR
open Go.Value renaming agg→aZ,bool→aA,int→r,nilIface→nj,pointer→a6,slice→E,tuple→b8,cells→P',int→kK,ownBlock→A9,slice→iB
open Go.World renaming cells?_some→aAy
open List renaming map_toArray→aAo,replicate→d5,take_zero→aAz
open Nat renaming reduceAdd→gA,reduceSub→g1
open Option renaming none→T,some→A
namespace Go.Proofs.YtnmliebconiefaaGreatDoor
open Go.RowKit Go.Shelf Go.Proofs.Tryz
set_option linter.all false
set_option maxRecDepth 100000
set_option maxHeartbeats 32000000
def ah1:=@Go.Addr.mk.injEq
def Xc:=@Array.any_eq_true
def FD:=@Array.ext'
def P_:=@Array.ext_getElem?
def LP:=@Array.getElem?_eq_none
def gU:=@Array.getElem?_eq_some_iff
def aAg:=@Array.getElem?_push
def Xd:=@Array.getElem_mem
def gI:=@Array.replicate_succ
def gJ:=@Array.replicate_zero
def ahU:=@Array.setIfInBounds_comm
def px:=@Go.RowKit.Below.heap_alloc
def bx:=@Go.RowKit.Below.refl
def tH:=@Bool.and_eq_true
def Xg:=@Bool.not_eq_true'
def aAN:=@Bool.or_eq_false_iff
def ahY:=@Bool.or_eq_true
def rZ:=@Int.le_refl
def H8:=@Int.natCast_mul
def LX:=@Go.Lib.run_eql_slice_nil
def aAA:=@List.IsPrefix.trans
def LQ:=@List.all_eq_true
def Di:=@List.append_assoc
def yn:=@List.append_nil
def gL:=@List.append_toArray
def fW:=@List.cons_append
def Xh:=@List.contains_eq_mem
def LS:=@List.drop_eq_getElem_cons
def ah2:=@List.eq_nil_of_length_eq_zero
def aie:=@List.find?_eq_none
def w8:=@List.flatMap_append
def uJ:=@List.flatMap_cons
def aAQ:=@List.getD_eq_getElem?_getD
def Ig:=@List.getElem?_append_left
def FK:=@List.getElem?_append_right
def eA:=@List.getElem?_eq_getElem
def yo:=@List.getElem?_eq_none
def r4:=@List.getElem?_eq_some_iff
def la:=@List.getElem?_toArray
def gW:=@List.length_append
def fV:=@List.length_cons
def gp:=@List.length_nil
def gN:=@List.length_set
def lS:=@List.length_take
def zy:=@List.map_cons
def LO:=@List.map_nil
def W8:=@List.map_set
def fJ:=@List.mem_append
def gg:=@List.mem_cons
def Xk:=@List.mem_flatMap
def jB:=@List.mem_map
def tI:=@List.mem_range
def f2:=@List.mem_singleton
def f1:=@List.nil_append
def iS:=@List.not_mem_nil
def LU:=@List.prefix_append
def aAB:=@List.prefix_append_right_inj
def ah5:=@List.prefix_refl
def gK:=@List.push_toArray
def bN:=@List.setIfInBounds_toArray
def ah_:=@List.set_append_right
def bO:=@List.set_cons_succ
def bM:=@List.set_cons_zero
def g0:=@List.size_toArray
def v3:=@List.take_length
def Qp:=@List.take_of_length_le
def Qn:=@List.take_prefix
def LZ:=@List.take_succ_cons
def uI:=@List.take_succ_eq_append_getElem
def uH:=@Nat.add_zero
def Qq:=@Nat.eq_zero_or_pos
def L0:=@Nat.le_of_lt
def bY:=@Nat.le_refl
def cM:=@Nat.le_trans
def jP:=@Nat.lt_of_lt_of_le
def sJ:=@Nat.lt_or_ge
def FH:=@Nat.mul_one
def Dh:=@Nat.not_lt_zero
def LW:=@Nat.succ_mul
def jC:=@Nat.zero_add
def cQ:=@Nat.zero_le
def Qo:=@Nat.zero_mul
def h8:=@Ne.symm
def w7:=@Go.Oper.semAt_none
def f':=@Go.Oper.semAt_some
def ah4:=@Go.Oper.uponIn_round
def eT:=@Option.some.inj
def ah0:=@Option.some.injEq
def ahW:=@Go.Region.free_spec
def ahV:=@Go.Region.noSelect_spec
def Qa:=@Go.Sem.run_bind
def ahS:=@Go.Sem.run_pure
def A6:=@Go.StepsIn.trans
def v5:=@Go.Proofs.Tryz.underlying28
def Xl:=@Go.Proofs.Tryz.underlying29
def FJ:=@Go.Value.slice.inj
def Ql:=@Go.Value.slice.injEq
def vY:=@Go.World.alloc_heap_new
def mO:=@Go.World.cell?_of_block
def oG:=@Go.World.ownsRow_nil
def jr:=@Go.World.putObj_heap_other
def A7:=@Go.World.putObj_heap_same
def d8:=@Go.World.size_alloc
def zA:=@Go.block_lt_of_cell
def L2:=@Go.callsD_of_wpS
def kL:=@Go.callsIn_of_wp
def sL:=@Go.callsIn_of_wp_marks
def im:=@Go.callsIn_wide
def mP:=@Go.cell_later
def fg:=@Go.Proofs.enters_of
def Qc:=@Go.fenced_calm
def vX:=@Go.getD_set_ne
def ahP:=@Go.heap_alloc_new
def d7:=@Go.heap_setCell_other
def m6:=@Go.info_parts
def Ii:=@Go.leaves_cons
def FF:=@Go.mem_ready
def Df:=@Go.ready_mono
def Qj:=@Go.run_beginRound
def Qm:=@Go.run_copy_row
def LR:=@Go.run_endLoop
def Qk:=@Go.run_endRound
def Qh:=@Go.run_enterLoop_outer
def W9:=@Go.run_make
def Xn:=@Go.run_takeDeferred
def v4:=@Go.run_underlying
def Qi:=@Go.run_yield
def P9:=@Go.setRow_heap
def Xa:=@Go.toList_madeCells_one
def Xo:=@Go.wpIn_loop
def Ia:=@Go.wpIn_mono
def Qf:=@Go.wpIn_rangeFunc
def FG:=@Go.wpIn_wide
def Ib:=@Go.wpOpIn_mono
def L3:=@Go.wpS_of_wp
def Qs:=@Go.wpS_region
def Qr:=@Go.wpS_seq
def ll:=@Go.wrap_small
variable {listed:Array Bool} {args cs lb tmps:Array ac} {aD:Ending} {F:Fence} {k:IntKind} {b7:List ac} {ds:List j2} {ai b b6 base cN cap d fuel g gf i id l m:Nat} {fr:Nat × Nat} {S:Nat → Prop} {D W W' ay w:O} {p:Prop} {ep:Type} {aN bV bW v:ac} {e t:cY} {a:eE} {aT:eE → O → Prop} {dg:f9} {P:il} {bT:m7 → eE → O → Prop} {aj:mA → O → Prop} {assign body:r3} {f:tG}
def aM (p:Prop):Prop:=p
theorem I (h:p):aM p:=h
theorem aM.o (h:aM p):p:=h
theorem al {ep:Sort _} (x:ep):∃y,y=x:=⟨x,rfl⟩
abbrev ae (Q ai:O):Prop:=bQ Q.heap.size Q ai
abbrev B (b o:Nat):cp:=⟨b,o,T⟩
abbrev J (b o:Nat):ac:=a6 (A ⟨b,o,T⟩)
abbrev V (w:O) (b:Nat) (cs:Array ac) (t:cY) (fr:Nat×Nat:=(0,0)):Prop:=w.heap[b]? =A (an cs t fr)
theorem V.cell (h:V w b cs t fr) (i:Nat):w.cell? ⟨b,i,T⟩=cs[i]? :=cell_of_row w b i cs t fr h
theorem V.free (h:V w b cs t fr) (i:Nat) (ag:i<fr.1\/fr.2<=i):w.frozen? ⟨b,i,T⟩=ao:=by
 unfold World.frozen?;simp only[show w.heap[b]? =A (an cs t fr) from h];simp;omega
theorem V.lt (h:V w b cs t fr):b<w.heap.size:=(gU.1 h).1
theorem V.set (h:V w b cs t fr) (i:Nat) (v:ac):V (w.setCell ⟨b,i,T⟩ v) b (cs.setIfInBounds i v) t fr:=by
 rw[setCell_eq_setRow w b i cs t fr v h];exact P9 w b cs _ t _ h
theorem V.gr (h:V w b cs t fr) (a:cp) (v:ac) (hb:b≠a.block):V (w.setCell a v) b cs t fr:=by
 unfold V;rw[d7 _ _ _ _ hb];exact h
theorem V.drew (h:V w b cs t fr):V w.drew b cs t fr:=h
theorem V.alloc (h:V w b cs t fr) (o:Obj):V (w.alloc o) b cs t fr:=by
 unfold V;rw[px _ _ _ h.lt];exact h
theorem V.below (h:V w b cs t fr) (hb:bQ ai w D) (a0:b<ai):V D b cs t fr:=(hb.block b a0).trans h
theorem V.new (w:O) (cs:Array ac) (t:cY) (fr:Nat×Nat):V (w.alloc (an cs t fr)) w.heap.size cs t fr:=ahP w _
theorem _root_.Go.RowKit.Below.next' {aJ:O} (h:bQ w.heap.size w ay) (k:bQ ay.heap.size ay aJ):bQ w.heap.size w aJ:=h.trans (k.mono h.size)
theorem aiZ (w:O) (R rm:Array ac) (t:cY):(w.alloc (an R t)).setRow w.heap.size rm=w.alloc (an rm t):=by
 have h:(w.heap.push (an R t)).modify w.heap.size (λ|an _ elem LN=>an rm elem LN|o=>o)=w.heap.push (an rm t):=by
  apply P_;intro i;rw[Array.getElem?_modify,aAg,aAg];by_cases e:w.heap.size=i
  ·subst e;simp
  ·have fm:i≠w.heap.size:=λh=>e h.symm;simp[e,fm]
 show({w with heap:=(w.heap.push (an R t)).modify w.heap.size (λ|an _ elem LN=>an rm elem LN|o=>o)}:O)={w with heap:=w.heap.push (an rm t)};rw[h]
def oH (l:List UInt8):Array ac:=(l.map λb=>kK .u8 (b.toNat:Int)).toArray
theorem X3 (l:List UInt8):(oH l).size=l.length:=by simp[oH]
theorem QV (l:List UInt8) (x:Array ac) (i:Nat) (ag:i<l.length):(oH l++x)[i]? =A (r .u8 (l[i].toNat:Int)):=by
 rw[Array.getElem?_append_left (by rw[X3];exact ag)];simp[oH,ag]
theorem X4 (l:List UInt8) (x:Array ac) (i:Nat) (ag:i<l.length) (b:UInt8):(oH l++x).setIfInBounds i (r .u8 (b.toNat:Int))=oH (l.set i b)++x:=by
 rw[Array.setIfInBounds_append_left (by rw[X3];exact ag)]
 congr 1
 unfold oH;rw[W8,bN]
def c6 (k:IntKind) (l:List Int):Array ac:=(l.map (kK k)).toArray
theorem QW (k:IntKind) (l:List Int):(c6 k l).size=l.length:=by simp[c6]
theorem kd (k:IntKind) (l:List Int) (i:Nat) (ag:i<l.length):(c6 k l)[i]? =A (r k l[i]):=by simp[c6,ag]
theorem tO (k:IntKind) (l:List Int) (i:Nat) (x:Int):(c6 k l).setIfInBounds i (r k x)=c6 k (l.set i x):=by
 unfold c6;rw[W8,bN]
theorem ys (t e:cY) (k:IntKind) (bytes:Nat) (ht:P.underlying t=A (.slice e)) (ag:(P.info? e).map (λi=>(i.zero,i.size,i.bytes))=A (A (r k 0),1,bytes)) (n:Nat) (aC:n*bytes<=281474976710656) (kA:n<=281474976710656) (u:O):
 (FC t (r c n) (r c n)).run P u= .ok (E (A ⟨u.heap.size,0,T⟩) n n) (u.alloc (an (c6 k (d5 n 0)) e)):=by
 obtain⟨eP,ag,fL,gi,gt⟩:=m6 ag;have ai0:∀m:Nat,m<=281474976710656->(m:Int)<=281474976710656:=λm h=>by omega
 have h0:=ai0 _ aC;rw[H8] at h0;have h:=W9 (P:=P) u t e eP (r k 0) ht ag fL c c (n:Int) (n:Int) (by omega) (rZ _) (by rw[gt];first|exact h0|(rw[Int.mul_comm];exact h0)) (by omega);have a4:madeCells #[kK k 0] n=c6 k (d5 n 0):=by
  apply FD;rw[Xa];simp[c6]
 simpa [gi,P',a4] using h
theorem ai1 (t e:cY) (ht:P.underlying t=A (.slice e)) (ag:(P.info? e).map (λi=>(i.zero,i.size,i.bytes))=A (A (r .u8 0),1,1)) (n:Nat) (aC:n<=281474976710656) (u:O):
 (FC t (r c n) (r c n)).run P u= .ok (E (A ⟨u.heap.size,0,T⟩) n n) (u.alloc (an (oH (d5 n 0)) e)):=by
 obtain⟨eP,ag,fL,gi,gt⟩:=m6 ag;have h:=W9 (P:=P) u t e eP (r .u8 0) ht ag fL c c (n:Int) (n:Int) (by omega) (rZ _) (by rw[gt];omega) (by omega);have a4:madeCells #[kK .u8 0] n=oH (d5 n 0):=by
  apply FD;rw[Xa];simp[oH]
 simpa [gi,P',a4] using h
theorem G (h:p:=by omega):p:=h
theorem bj (h:p:=by decide):p:=h
theorem a3 (h:p:=by simp):p:=h
theorem bq (h:p:=by kernel_rfl):p:=h
theorem bI {a:Prop} (x:a) (h:a->p:=by intro _;omega):p:=h x
theorem g3 {a b:Prop} (x:a) (y:b) (h:a->b->p:=by intro _ _;omega):p:=h x y
theorem gj {a:Prop} (h:¬a:=by intro h;cases h):a->p:=λx=>absurd x h
theorem V.aq {w u:World} {cs:Array Value} {t:TypeId} (h:V w b cs t fr) (k:Below w.heap.size w u):V u b cs t fr:=h.below k h.lt
theorem pD {n:Nat} {be:Prop} {P:Program} {f:FuncId} {args:Array Value} {w:World} {aj aT:Ending->World->Prop} (h:Calls P f args w aj) (k:∀e D,aj e D->aT e D) (t:be:=by trivial):be/\CallsIn Fence.wide n P f args w aT:=⟨t,(callsIn_wide.2 h).mono k⟩
theorem dl {P:Program} {f:FuncId} {args:Array Value} {w:World} {aj:World->Prop} {aT:Ending->World->Prop} (h:Calls P f args w λe u=>e=aD/\aj u) (k:∀u,aj u->aT aD u):Calls P f args w aT:=h.mono (by rintro _ u ⟨rfl,Z⟩;exact k u Z)
theorem xj {n:Nat} {P:Program} {f:FuncId} {args:Array Value} {w:World} {aj:World->Prop} {aT:Ending->World->Prop} (h:CallsIn F n P f args w λe u=>e=aD/\aj u) (k:∀u,aj u->aT aD u):CallsIn F n P f args w aT:=h.mono (by rintro _ u ⟨rfl,Z⟩;exact k u Z)
theorem jb {n:Nat} {be:Prop} {P:Program} {f:FuncId} {args:Array Value} {w:World} {aj:World->Prop} {aT:Ending->World->Prop} (h:Calls P f args w λe u=>e=aD/\aj u) (k:∀u,aj u->aT aD u) (t:be:=by trivial):be/\CallsIn Fence.wide n P f args w aT:=⟨t,xj (callsIn_wide.2 h) k⟩
section
section
variable {F:Fence} {n:Nat} {P:il} {ops:Array f9} {bT:m7->eE->O->Prop} {S:O->Prop}
def uQ (P:il) (ops:Array f9) (S:O->Prop) (o:f9) (v:ac) (a:eE):Prop:=
 k_ o (k' ops a.tmps)=ad/\∀w,S w->o.about P w a.eval=T/\(kz a.eval o).run P w= .ok (.value v) w
theorem uQ.op {o:f9} (gO:F.round=T) (ag:ops[i]? =A o) (az:uQ P ops S o v a) (cb:S w) (h:aT (a.put o.dst v) w):
 l_ F n P ops bT i aT a w:=by
 obtain⟨bU,aK⟩:=az;obtain⟨h1,h2⟩:=aK w cb;unfold l_;simp only[ag,bU,if_true,H9,gO,w7,h2,zx];exact⟨λf hf=>(by rw[h1] at hf;cases hf),h⟩
theorem uQ.uR {o:f9} {fM:eE} (az:uQ P ops S o v a) (he:kz fM.eval o=kz a.eval o) (bU:k_ o (k' ops fM.tmps)=k_ o (k' ops a.tmps)) (hb:∀w,o.about P w fM.eval=o.about P w a.eval):uQ P ops S o v fM:=by
 unfold uQ at*;rw[bU];exact⟨az.1,λw cb=>⟨by rw[hb];exact(az.2 w cb).1,by rw[he];exact(az.2 w cb).2⟩⟩
theorem QX {j:Nat} {jt:f9} (gO:F.round=T) (av:ops[j]? =A jt) (mR:dg.apart ops jt=ad) (uS:∀cs b,dg.op≠ .select cs b) (QY:∀cs b,jt.op≠ .select cs b)
 (hU:∀R a w,bT (.panic R) (a.put dg.dst v) w->bT (.panic R) a w) (az:uQ P ops S dg v a) (h:l_ F n P ops bT j aT (a.put dg.dst v) w):
 l_ F n P ops bT j (λfM D=>uQ P ops S dg v fM/\aT (fM.put dg.dst v) D) a w:=by
 obtain⟨h1,h2,ap⟩:=Oper.apart_spec mR;have a_:∀b:eE,uQ P ops S dg v b->∀u,uQ P ops S dg v (b.put jt.dst u):=λb hb u=>hb.uR (execOp_put dg uS b jt.dst u ap) (wanted_put dg b jt.dst u ap) (λw=>ahQ dg w b jt.dst u ap);have Ds:∀(b:eE) u,aT ((b.put dg.dst v).put jt.dst u)=aT ((b.put jt.dst u).put dg.dst v):=λb u=>by rw[Act.put_comm b v u h2]
 unfold l_ at*;simp only[av] at*;rw[wanted_put jt a dg.dst v h1,ahQ jt w a dg.dst v h1] at h;by_cases bU:k_ jt (k' ops a.tmps)=ad
 ·rw[if_pos bU] at h⊢;unfold H9 at*;rw[ahQ jt w a dg.dst v h1,gO,w7,execOp_put jt QY a dg.dst v h1] at h;rw[gO,w7];refine⟨h.1,?_⟩
  replace h:=h.2
  cases ar:(kz a.eval jt).run P w with
  |halt x D=>
   rw[ar] at h;cases x<;>simp only[zx] at h⊢;exact hU _ _ _ h
  |ok x D=>
   rw[ar] at h;cases x with
   |value u=>exact⟨a_ a az u,by have:=h;simp only[zx] at this;rwa[Ds] at this⟩
   |skip=>exact⟨a_ a az _,by have:=h;simp only[zx] at this;rwa[Ds] at this⟩
   |defer d=>
    simp only[zx] at h⊢;refine⟨a_ {a with defers:=d::a.defers} (az.uR rfl rfl (λ_=>rfl)) _,?_⟩;rw[<-Ds,<-Act.put_defers];exact h
   |enter f args=>
    refine⟨h.1,aAk h.2 λe fo he=>?_⟩;cases e with
    |returned u=>exact⟨a_ a az u,by have:=he;(try simp only at this);rwa[Ds] at this⟩
    |panicked R=>exact hU _ _ _ he
    |outgrown=>exact he
   |row U args=>exact⟨h.1,RowsIn.mono h.2 λu fo he=>⟨a_ a az u,by have:=he;(try simp only at this);rwa[Ds] at this⟩⟩
   |round l f tmps assign body=>
    refine⟨h.1,aAl h.2 λe fo he=>?_⟩;cases e with
    |returned u=>exact⟨a_ a az u,by have:=he;(try simp only at this);rwa[Ds] at this⟩
    |panicked R=>exact hU _ _ _ he
    |outgrown=>exact he
   |_=>simp only[zx] at h
 ·rw[if_neg bU] at h⊢;exact⟨h.1,a_ a az _,by have:=h.2;rwa[Ds] at this⟩
theorem X5 {o:f9} (ag:ops[i]? =A o) (a9:o.dst=A d) (bU:k_ o (k' ops tmps)=ad)
 (he:(kz (io {tmps:=tmps,defers:=ds}) o).run P w= .ok (.enter f args) D) (h1:1<=n) (ah:ge dY (n-1) P f args D aj) (K:∀v fo,aj (au v) fo->aT {tmps:=tmps.setIfInBounds d v,defers:=ds} fo) (aP:∀fp fo,aj (.panicked fp) fo->bT (.panic fp) {tmps:=tmps,defers:=ds} fo) (aQ:∀fo,aj .outgrown fo->False):
 l_ dY n P ops bT i aT {tmps:=tmps,defers:=ds} w:=by
 unfold l_;have gO:Fence.wide.round=T:=rfl;simp only[ag,bU,if_true,H9,gO,w7,he,zx];refine⟨λ_ _=>trivial,λ_=>h1,aAk ah λe fo ar=>?_⟩;cases e with
 |returned v=>dsimp only;rw[a9];exact K v fo ar
 |panicked fp=>exact aP fp fo ar
 |outgrown=>exact(aQ fo ar).elim
theorem Mr {o:f9} (gO:F.round=T) (ag:ops[i]? =A o) (a9:o.dst=A d) (bU:k_ o (k' ops tmps)=ad)
 (hb:o.about P w (io {tmps:=tmps,defers:=ds})=T) (he:(kz (io {tmps:=tmps,defers:=ds}) o).run P w= .ok (.value v) D) (K:aT {tmps:=tmps.setIfInBounds d v,defers:=ds} D):l_ F n P ops bT i aT {tmps:=tmps,defers:=ds} w:=by
 unfold l_;simp only[ag,bU,if_true,H9,gO,w7,he,zx];refine⟨λf hf=>(by rw[hb] at hf;cases hf),?_⟩;rw[a9];exact K
theorem tP {o:f9} {ca:ac} (gO:F.round=T) (ag:ops[i]? =A o) (a9:o.dst=A d) (bU:k_ o (k' ops tmps)=ad)
 (s x:H_) (t tx:cY) (aQ:o.op= .call {callee:= .builtin .append,args:=#[s,x],argTypes:=#[t,tx]}) (hE:(qN #[t,tx] o.type #[io {tmps:=tmps,defers:=ds} s,io {tmps:=tmps,defers:=ds} x]).run P w= .ok ca D)
 (K:aT {tmps:=tmps.setIfInBounds d ca,defers:=ds} D):l_ F n P ops bT i aT {tmps:=tmps,defers:=ds} w:=by
 refine Mr gO ag a9 bU (by simp[Oper.about,aQ,FE,ahR,ahS]) ?_ K;unfold kz;simp only[aQ,FE,invoke,builtin,Qa,ahS,aAn,aAo,zy,LO,hE]
theorem ai2 {o:f9} {zB:Array ac} (ag:ops[i]? =A o) (a9:o.dst=A d) (bU:k_ o (k' ops tmps)=ad)
 (he:(kz (io {tmps:=tmps,defers:=ds}) o).run P w= .ok (.round l f zB assign body) D) (h1:1<=n) (ah:Xb dY (n-1) P l f zB assign body D aj) (K:∀v fo,aj (au v) fo->aT {tmps:=tmps.setIfInBounds d v,defers:=ds} fo) (aP:∀fp fo,aj (.panicked fp) fo->bT (.panic fp) {tmps:=tmps,defers:=ds} fo) (aQ:∀fo,aj .outgrown fo->False):
 l_ dY n P ops bT i aT {tmps:=tmps,defers:=ds} w:=by
 unfold l_;have gO:Fence.wide.round=T:=rfl;simp only[ag,bU,if_true,H9,gO,w7,he,zx];refine⟨λ_ _=>trivial,λ_=>h1,aAl ah λe fo ar=>?_⟩;cases e with
 |returned v=>dsimp only;rw[a9];exact K v fo ar
 |panicked fp=>exact aP fp fo ar
 |outgrown=>exact(aQ fo ar).elim
def tQ (ds:List j2) (Q:List vV->O->Prop) (bT:m7->eE->O->Prop):m7->eE->O->Prop
 | .panic R,a,w=>a.defers=ds/\Q R w
 |e,a,w=>bT e a w
theorem tQ.normal {Q:List vV->O->Prop} (h:bT .normal a w):tQ ds Q bT .normal a w:=h
theorem Dt {R:r3} (ds:List j2) (Q:List vV->O->Prop) (hA:∀fp a w,a.defers=ds->Q fp w->bT (.panic fp) a w) (h:R.wpIn F n P (tQ ds Q bT) a w):R.wpIn F n P bT a w:=by
 refine Ia h λe a w aP=>?_;cases e with
 |panic fp=>exact hA fp a w aP.1 aP.2
 |normal=>exact aP
 |ret=>exact aP
 |exit _=>exact aP
 |goto _=>exact aP
 |outgrown=>exact aP
end
end
section
section
variable {F:Fence} {n:Nat} {P:il} {ops:Array f9} {bT:m7->eE->O->Prop} {S:O->Prop} {aF:Nat}
def ej (F:Fence) (n:Nat) (P:il) (ops:Array f9) (bT:m7->eE->O->Prop) (S:O->Prop) (aF:Nat):Nat->Array Bool->eE->O->Prop
 |0,listed,a,w=>lQ .any ops listed=[]/\bT .normal a w
 |fuel+1,listed,a,w=>(lQ .any ops listed=[]->bT .normal a w)/\∀i∈lQ .any ops listed,l_ F n P ops bT i (λfM D=>((listed.setIfInBounds i ad).getD aF ad=ao->S D)/\ej F n P ops bT S aF fuel (listed.setIfInBounds i ad) fM D) a w
theorem QZ:∀(fuel:Nat) (listed:Array Bool) (a:eE) (w:O),ej F n P ops bT S aF fuel listed a w->wpAnyIn F n P .any ops bT fuel listed a w
 |0,_,_,_,h=>h
 |fuel+1,_,_,_,h=>⟨h.1,λi ag=>Ib (λfM D fx=>QZ fuel _ fM D fx.2) (h.2 i ag)⟩
theorem ai3 {l:Array Bool}:(l.setIfInBounds i ad).getD i ad=ad:=by
 rcases sJ i l.size with h|h
 ·simp[h]
 ·simp
theorem ai4 (gO:F.round=T) (ag:ops[i]? =A dg) (Bf:∀(j:Nat) (o:f9) cs b,ops[j]? =A o->o.op≠ .select cs b) (hU:∀R a w,bT (.panic R) (a.put dg.dst v) w->bT (.panic R) a w)
 (qe:aF≠i) (Bg:∀Q0,ops[aF]? =A Q0->∃e∈Q0.after,vW .any e=ad/\e.on=i):
 ∀(fuel:Nat) (listed:Array Bool) (a:eE) (w:O),(∀j jt,ops[j]? =A jt->j≠i->listed.getD j ad=ao->(∀e∈jt.after,vW .any e=ad->e.on≠i)->dg.apart ops jt=ad)->
  i∈lQ .any ops listed->uQ P ops S dg v a->listed.getD aF ad=ao->S w->ej F n P ops bT S aF fuel (listed.setIfInBounds i ad) (a.put dg.dst v) w->ej F n P ops bT S aF (fuel+1) listed a w:=by
 intro fuel
 induction fuel with
 |zero=>
  intro listed a w _ ar az fh cb H;refine⟨λh=>(by rw[h] at ar;cases ar),λj av=>?_⟩;by_cases ma:j=i
  ·subst ma;exact az.op gO ag cb ⟨λ_=>cb,H⟩
  ·have:=Df av ma;rw[H.1] at this;cases this
 |succ fuel d4=>
  intro listed a w zC ar az fh cb H;refine⟨λh=>(by rw[h] at ar;cases ar),λj av=>?_⟩;by_cases ma:j=i
  ·subst ma;exact az.op gO ag cb ⟨λ_=>cb,H⟩
  obtain⟨Bh,jt,uT,sO⟩:=FF.1 av;have Du:∀e∈jt.after,vW .any e=ad->e.on≠i:=λe he hb heq=>by
   have h1:=sO e he hb;have h0:=(FF.1 ar).1;rw[heq] at h1;rcases sJ i listed.size with fx|fx
   ·simp[fx] at h0 h1;rw[h0] at h1;cases h1
   ·simp[LP fx] at h1
  have Bi:j≠aF:=λe=>by
   subst e;obtain⟨e,he,hb,heq⟩:=Bg jt uT;exact Du e he hb heq
  refine Ib (λfM D ap=>?_)
   (QX gO uT (zC j jt uT ma Bh Du) (λcs b=>Bf i dg cs b ag) (λcs b=>Bf j jt cs b uT) hU az (H.2 j (Df av ma)))
  have Bj:S D:=ap.2.1 (by rw[vX ad Bi,vX ad (h8 qe)];exact fh);refine⟨λ_=>Bj,d4 _ fM D (λk ok K Iw yt nH=>zC k ok K Iw ?_ nH) (Df ar (h8 ma)) ap.1 (by rw[vX ad Bi];exact fh) Bj ?_⟩
  ·by_cases yu:j=k
   ·subst yu;exact Bh
   ·rwa[vX ad yu] at yt
  ·rw[ahU _ _ ma];exact ap.2.2
def waits (ops:Array f9) (aF i:Nat):Bool:=match ops[aF]? with
 |some o=>o.after.any λe=>vW .any e&&e.on==i
 |none=>ad
theorem ai5 (gO:F.round=T) (ag:ops[i]? =A dg) (a9:dg.dst=A d) (aB:uF ops=ad) (hf:uG .any ops listed i=ad)
 (ar:(lQ .any ops listed).contains i=ad) (qe:(aF !=i)=ad) (Bg:waits ops aF i=ad) (fh:listed.getD aF ad=ao) (hU:∀R a w,bT (.panic R) (a.put dg.dst v) w->bT (.panic R) a w) (bU:k_ dg (k' ops tmps)=ad)
 (az:∀w,S w->dg.about P w (io {tmps:=tmps,defers:=ds})=T/\(kz (io {tmps:=tmps,defers:=ds}) dg).run P w= .ok (.value v) w) (cb:S w)
 (h:ej F n P ops bT S aF fuel (listed.setIfInBounds i ad) {tmps:=tmps.setIfInBounds d v,defers:=ds} w):ej F n P ops bT S aF (fuel+1) listed {tmps:=tmps,defers:=ds} w:=
 ai4 gO ag (ahV aB) hU (by simpa using qe) (λQ0 ai6=>by
  unfold waits at Bg;rw[ai6] at Bg;simp only[Xc,tH,beq_iff_eq] at Bg;obtain⟨k,K,h1,h2⟩:=Bg;exact⟨_,Xd K,h1,h2⟩) fuel listed _ w (ahW ag hf) (by simpa using ar) ⟨bU,az⟩ fh cb (by rw[a9];exact h)
theorem ai7 (gO:F.round=T) (ag:ops[i]? =A dg) (Bf:∀(j:Nat) (o:f9) cs b,ops[j]? =A o->o.op≠ .select cs b) (hU:∀R a w,bT (.panic R) (a.put dg.dst v) w->bT (.panic R) a w)
 (qe:aF≠i):
 ∀(fuel:Nat) (listed:Array Bool) (a:eE) (w:O),(∀j jt,ops[j]? =A jt->j≠i->listed.getD j ad=ao->(∀e∈jt.after,vW .any e=ad->e.on≠i)->dg.apart ops jt=ad)->
  i∈lQ .any ops listed->uQ P ops (λ_=>True) dg v a->(listed.getD aF ad=ao->S w)->ej F n P ops bT S aF fuel (listed.setIfInBounds i ad) (a.put dg.dst v) w->ej F n P ops bT S aF (fuel+1) listed a w:=by
 intro fuel
 induction fuel with
 |zero=>
  intro listed a w _ ar az cb H;refine⟨λh=>(by rw[h] at ar;cases ar),λj av=>?_⟩;by_cases ma:j=i
  ·subst ma;exact az.op gO ag trivial ⟨λh=>cb (by rwa[vX ad (h8 qe)] at h),H⟩
  ·have:=Df av ma;rw[H.1] at this;cases this
 |succ fuel d4=>
  intro listed a w zC ar az cb H;refine⟨λh=>(by rw[h] at ar;cases ar),λj av=>?_⟩;by_cases ma:j=i
  ·subst ma;exact az.op gO ag trivial ⟨λh=>cb (by rwa[vX ad (h8 qe)] at h),H⟩
  obtain⟨Bh,jt,uT,sO⟩:=FF.1 av;have Du:∀e∈jt.after,vW .any e=ad->e.on≠i:=λe he hb heq=>by
   have h1:=sO e he hb;have h0:=(FF.1 ar).1;rw[heq] at h1;rcases sJ i listed.size with fx|fx
   ·simp[fx] at h0 h1;rw[h0] at h1;cases h1
   ·simp[LP fx] at h1
  refine Ib (λfM D ap=>?_)
   (QX gO uT (zC j jt uT ma Bh Du) (λcs b=>Bf i dg cs b ag) (λcs b=>Bf j jt cs b uT) hU az (H.2 j (Df av ma)))
  have Bj:(listed.setIfInBounds j ad).getD aF ad=ao->S D:=λh=>ap.2.1 (by
   by_cases Bi:j=aF
   ·subst Bi;rw[ai3] at h;cases h
   ·rw[vX ad Bi,vX ad (h8 qe)]
    rwa[vX ad Bi] at h)
  refine⟨Bj,d4 _ fM D (λk ok K Iw yt nH=>zC k ok K Iw ?_ nH) (Df ar (h8 ma)) ap.1 Bj ?_⟩
  ·by_cases yu:j=k
   ·subst yu;exact Bh
   ·rwa[vX ad yu] at yt
  ·rw[ahU _ _ ma];exact ap.2.2
theorem Q1 (gO:F.round=T) (ag:ops[i]? =A dg) (a9:dg.dst=A d) (aB:uF ops=ad) (hf:uG .any ops listed i=ad)
 (ar:(lQ .any ops listed).contains i=ad) (qe:(aF !=i)=ad) (hU:∀R a w,bT (.panic R) (a.put dg.dst v) w->bT (.panic R) a w) (bU:k_ dg (k' ops tmps)=ad)
 (az:∀w,dg.about P w (io {tmps:=tmps,defers:=ds})=T/\(kz (io {tmps:=tmps,defers:=ds}) dg).run P w= .ok (.value v) w) (cb:listed.getD aF ad=ao->S w)
 (h:ej F n P ops bT S aF fuel (listed.setIfInBounds i ad) {tmps:=tmps.setIfInBounds d v,defers:=ds} w):ej F n P ops bT S aF (fuel+1) listed {tmps:=tmps,defers:=ds} w:=
 ai7 gO ag (ahV aB) hU (by simpa using qe) fuel listed _ w (ahW ag hf) (by simpa using ar) ⟨bU,λw _=>az w⟩ cb (by rw[a9];exact h)
theorem Q2 (ar:lQ .any ops listed=[i])
 (h:l_ F n P ops bT i (λfM D=>((listed.setIfInBounds i ad).getD aF ad=ao->S D)/\ej F n P ops bT S aF fuel (listed.setIfInBounds i ad) fM D) a w):ej F n P ops bT S aF (fuel+1) listed a w:=
 ⟨λh0=>(by rw[ar] at h0;cases h0),λj av=>by rw[ar] at av;obtain rfl:j=i:=(by simpa using av);exact h⟩
theorem Bk {k:Nat} (ar:lQ .any ops listed=[i,k])
 (h1:l_ F n P ops bT i (λfM D=>((listed.setIfInBounds i ad).getD aF ad=ao->S D)/\ej F n P ops bT S aF fuel (listed.setIfInBounds i ad) fM D) a w)
 (h2:l_ F n P ops bT k (λfM D=>((listed.setIfInBounds k ad).getD aF ad=ao->S D)/\ej F n P ops bT S aF fuel (listed.setIfInBounds k ad) fM D) a w):ej F n P ops bT S aF (fuel+1) listed a w:=
 ⟨λh0=>(by rw[ar] at h0;cases h0),λj av=>by
  rw[ar] at av;rcases gg.1 av with rfl|av
  ·exact h1
  ·obtain rfl:j=k:=by simpa using av
   exact h2⟩
theorem ai8 (ar:lQ .any ops listed=[]) (h:bT .normal a w):∀fuel,ej F n P ops bT S aF fuel listed a w
 |0=>⟨ar,h⟩
 |_+1=>⟨λ_=>h,by rw[ar];simp⟩
theorem Dv (S:O->Prop) (aF:Nat) (hm:P.follows .mixedOrders=ad) (h:ej F n P ops bT S aF ops.size (Ic ops.size ao) a {w with drawn:=w.drawn+1}):(Ie id ops ad).wpIn F n P bT a w:=
 aAp hm (QZ _ _ _ _ h)
theorem jQ (S:O->Prop) (aF:Nat) (hm:P.follows .mixedOrders=ad) (h:ej dY 9 P ops bT S aF ops.size (Ic ops.size ao) a {w with drawn:=w.drawn+1}):(Ie id ops ad).wp P bT a w:=
 FG.1 (Dv (F:=dY) (n:=9) S aF hm h)
theorem F1 {o:f9} (ag:ops[i]? =A o) (a9:o.dst=A d) (bU:k_ o (k' ops tmps)=ad)
 (he:(kz (io {tmps:=tmps,defers:=ds}) o).run P w= .ok (.enter f args) D) (ah:aE P f args D aj) (K:∀e fo,aj e fo->∃v,e=au v/\aT {tmps:=tmps.setIfInBounds d v,defers:=ds} fo):
 l_ dY 9 P ops bT i aT {tmps:=tmps,defers:=ds} w:=
 X5 (aj:=aj) ag a9 bU he bj (im.2 ah) (λv fo ar=>by obtain⟨_,e,h⟩:=K _ _ ar;cases e;exact h) (λ_ _ ar=>by obtain⟨_,e,_⟩:=K _ _ ar;cases e) (λ_ ar=>by obtain⟨_,e,_⟩:=K _ _ ar;cases e)
theorem X6 {o:f9} (gO:F.round=T) (ag:ops[i]? =A o) (a9:o.dst=T) (bU:k_ o (k' ops tmps)=ad)
 (hb:o.about P w (io {tmps:=tmps,defers:=ds})=T) (he:(kz (io {tmps:=tmps,defers:=ds}) o).run P w= .ok .skip D) (K:aT {tmps:=tmps,defers:=ds} D):l_ F n P ops bT i aT {tmps:=tmps,defers:=ds} w:=by
 unfold l_;simp only[ag,bU,if_true,H9,gO,w7,he,zx];refine⟨λf hf=>(by rw[hb] at hf;cases hf),?_⟩;rw[a9];exact K
end
end
section
section
variable {P:il} {ops:Array f9} {bT:m7->eE->O->Prop} {S aCJ:O->Prop}
theorem Q3 (ag:ops[i]? =A dg) (a9:dg.dst=A d) (aB:uF ops=ad) (hf:uG .any ops listed i=ad)
 (ar:(lQ .any ops listed).contains i=ad) (hU:∀R a w,bT (.panic R) (a.put dg.dst v) w->bT (.panic R) a w) (bU:k_ dg (k' ops tmps)=ad) (az:∀w,S w->(kz (io {tmps:=tmps,defers:=ds}) dg).run P w= .ok (.value v) w) (cb:S w)
 (h:gV P .any ops bT S fuel (listed.setIfInBounds i ad) {tmps:=tmps.setIfInBounds d v,defers:=ds} w):gV P .any ops bT S (fuel+1) listed {tmps:=tmps,defers:=ds} w:=
 wpAnyH_take ag aB hf ar hU (Or.inl ⟨bU,az⟩) cb (by rw[a9];exact h)
theorem ai9 (ar:lQ .any ops listed=[i])
 (h:wpOp P ops bT i (λfM D=>S D/\gV P .any ops bT S fuel (listed.setIfInBounds i ad) fM D) a w):gV P .any ops bT S (fuel+1) listed a w:=
 ⟨λh0=>(by rw[ar] at h0;cases h0),λj av=>by rw[ar] at av;obtain rfl:j=i:=(by simpa using av);exact h⟩
theorem ai_ {o:f9} (ag:ops[i]? =A o) (a9:o.dst=A d) (bU:k_ o (k' ops tmps)=ad)
 (he:(kz (io {tmps:=tmps,defers:=ds}) o).run P w= .ok (.enter f args) D) (ah:aE P f args D aj) (K:∀v fo,aj (au v) fo->aT {tmps:=tmps.setIfInBounds d v,defers:=ds} fo) (aP:∀fp fo,aj (.panicked fp) fo->False) (aQ:∀fo,aj .outgrown fo->False):
 wpOp P ops bT i aT {tmps:=tmps,defers:=ds} w:=by
 unfold wpOp;rw[ag];simp only[bU,if_true];refine .inl ?_;unfold Xf;rw[he];simp only[ahX];refine ah.mono λe fo ar=>?_;cases e with
 |returned v=>dsimp only;rw[a9];exact K v fo ar
 |panicked fp=>exact(aP fp fo ar).elim
 |outgrown=>exact(aQ fo ar).elim
end
end
section
section
variable {F:Fence} {n:Nat} {P:il} {ops:Array f9} {bT:m7->eE->O->Prop} {S:O->Prop} {aF:Nat}
theorem ai' (C:List Nat) (gO:F.round=T) (ag:ops[i]? =A dg) (Bf:∀(j:Nat) (o:f9) cs b,ops[j]? =A o->o.op≠ .select cs b) (hU:∀R a w,bT (.panic R) (a.put dg.dst v) w->bT (.panic R) a w)
 (xk:aF∈C) (aja:i∉C) (hW:∀R∈C,∀c2,ops[R]? =A c2->∃e∈c2.after,vW .any e=ad/\(e.on=i\/e.on∈C)):
 ∀(fuel:Nat) (listed:Array Bool) (a:eE) (w:O),(∀j jt,ops[j]? =A jt->j≠i->listed.getD j ad=ao->(∀e∈jt.after,vW .any e=ad->e.on≠i)->dg.apart ops jt=ad)->
  i∈lQ .any ops listed->uQ P ops S dg v a->(∀R∈C,listed.getD R ad=ao)->S w->ej F n P ops bT S aF fuel (listed.setIfInBounds i ad) (a.put dg.dst v) w->ej F n P ops bT S aF (fuel+1) listed a w:=by
 intro fuel
 induction fuel with
 |zero=>
  intro listed a w _ ar az _ cb H;refine⟨λh=>(by rw[h] at ar;cases ar),λj av=>?_⟩;by_cases ma:j=i
  ·subst ma;exact az.op gO ag cb ⟨λ_=>cb,H⟩
  ·have:=Df av ma;rw[H.1] at this;cases this
 |succ fuel d4=>
  intro listed a w zC ar az bJ cb H;refine⟨λh=>(by rw[h] at ar;cases ar),λj av=>?_⟩;by_cases ma:j=i
  ·subst ma;exact az.op gO ag cb ⟨λ_=>cb,H⟩
  obtain⟨Bh,jt,uT,sO⟩:=FF.1 av;have Du:∀e∈jt.after,vW .any e=ad->e.on≠i:=λe he hb heq=>by
   have h1:=sO e he hb;have h0:=(FF.1 ar).1;rw[heq] at h1;rcases sJ i listed.size with fx|fx
   ·simp[fx] at h0 h1;rw[h0] at h1;cases h1
   ·simp[LP fx] at h1
  have X7:j∉C:=λah=>by
   obtain⟨e,he,hb,h|h⟩:=hW j ah jt uT
   ·exact Du e he hb h
   ·have h1:=sO e he hb;have h0:=bJ _ h;rcases sJ e.on listed.size with fx|fx
    ·simp[fx] at h0 h1;rw[h0] at h1;cases h1
    ·simp[LP fx] at h1
  have Bi:j≠aF:=λe=>X7 (e▸xk);have qe:aF≠i:=λe=>aja (e▸xk);refine Ib (λfM D ap=>?_)
   (QX gO uT (zC j jt uT ma Bh Du) (λcs b=>Bf i dg cs b ag) (λcs b=>Bf j jt cs b uT) hU az (H.2 j (Df av ma)))
  have Bj:S D:=ap.2.1 (by rw[vX ad Bi,vX ad (h8 qe)];exact bJ aF xk);refine⟨λ_=>Bj,d4 _ fM D (λk ok K Iw yt nH=>zC k ok K Iw ?_ nH) (Df ar (h8 ma)) ap.1 (λR ah=>by rw[vX ad (λe:j=R=>X7 (by rw[e];exact ah))];exact bJ R ah) Bj ?_⟩
  ·by_cases yu:j=k
   ·subst yu;exact Bh
   ·rwa[vX ad yu] at yt
  ·rw[ahU _ _ ma];exact ap.2.2
def Q4 (ops:Array f9) (C:List Nat) (i:Nat):Bool:=C.all λR=>match ops[R]? with
 |some o=>o.after.any λe=>vW .any e&&(e.on==i||C.contains e.on)
 |none=>ad
theorem Q5 (C:List Nat) (gO:F.round=T) (ag:ops[i]? =A dg) (a9:dg.dst=A d) (aB:uF ops=ad) (hf:uG .any ops listed i=ad)
 (ar:(lQ .any ops listed).contains i=ad) (xk:(C.contains aF&&!C.contains i)=ad) (hW:Q4 ops C i=ad) (bJ:C.all (λR=>!listed.getD R ad)=ad) (hU:∀R a w,bT (.panic R) (a.put dg.dst v) w->bT (.panic R) a w) (bU:k_ dg (k' ops tmps)=ad)
 (az:∀w,S w->dg.about P w (io {tmps:=tmps,defers:=ds})=T/\(kz (io {tmps:=tmps,defers:=ds}) dg).run P w= .ok (.value v) w) (cb:S w)
 (h:ej F n P ops bT S aF fuel (listed.setIfInBounds i ad) {tmps:=tmps.setIfInBounds d v,defers:=ds} w):ej F n P ops bT S aF (fuel+1) listed {tmps:=tmps,defers:=ds} w:=by
 simp only[tH,Xg,Xh,decide_eq_true_eq,decide_eq_false_iff_not] at xk;refine ai' C gO ag (ahV aB) hU xk.1 xk.2 (λR ah c2 Ms=>?_) fuel listed _ w (ahW ag hf) (by simpa using ar) ⟨bU,az⟩ (λR ah=>?_) cb (by rw[a9];exact h)
 ·have aO:=LQ.1 hW R ah;rw[Ms] at aO;simp only[Xc,tH,ahY,beq_iff_eq,Xh,decide_eq_true_eq] at aO;obtain⟨k,K,h1,h2⟩:=aO;exact⟨_,Xd K,h1,h2⟩
 ·have aO:=LQ.1 bJ R ah;simpa using aO
theorem Dw {o:f9} (ag:ops[i]? =A o) (a9:o.dst=A d) (bU:k_ o (k' ops tmps)=ad)
 (he:(kz (io {tmps:=tmps,defers:=ds}) o).run P w= .ok (.value v) D) (K:aT {tmps:=tmps.setIfInBounds d v,defers:=ds} D):wpOp P ops bT i aT {tmps:=tmps,defers:=ds} w:=by
 unfold wpOp;rw[ag];simp only[bU,if_true];refine .inl ?_;unfold Xf;rw[he];simp only[ahX];rw[a9];exact K
end
end
section
section
variable {F:Fence} {n:Nat} {P:il} {ops:Array f9} {bT:m7->eE->O->Prop} {S:O->Prop} {aF:Nat}
theorem Bl (h:∀H:Nat->Array Bool->eE->O->Prop,H=ej F n P ops bT S aF->∀be:Array ac,be=tmps->H fuel listed {tmps:=be,defers:=ds} w):ej F n P ops bT S aF fuel listed {tmps:=tmps,defers:=ds} w:=h _ rfl _ rfl
end
end
section
section
variable {F:Fence} {n:Nat} {P:Program} {ops:Array Oper} {bT:Exit->Act->World->Prop} {S:World->Prop} {aF:Nat}
theorem X8 (i:Nat) (v:Value) {dg:Oper} {tmps:Array Value} {ds:List Deferred} {w:World} (ag:ops[i]? =some dg:=by rfl) (a9:dg.dst=some d:=by rfl) (aB:Region.noSelect ops=true:=by kernel_rfl) (hf:Region.free .any ops listed i=true:=by kernel_rfl)
 (ar:(Region.ready .any ops listed).contains i=true:=by kernel_rfl) (hU:∀R a w,bT (.panic R) (a.put dg.dst v) w->bT (.panic R) a w:=by exactλ_ _ _ h=>h) (bU:Region.wanted dg (yielded ops tmps)=true:=by rfl)
 (az:∀w,S w->(execOp (Act.eval {tmps:=tmps,defers:=ds}) dg).run P w= .ok (.value v) w:=by intro w cb;go_simp) (cb:S w)
 (h:wpAnyH P .any ops bT S fuel (listed.setIfInBounds i true) {tmps:=tmps.setIfInBounds d v,defers:=ds} w):wpAnyH P .any ops bT S (fuel+1) listed {tmps:=tmps,defers:=ds} w:=
 Q3 ag a9 aB hf ar hU bU az cb h
theorem r8 (i:Nat) (v:Value) (C:List Nat) {dg:Oper} {tmps:Array Value} {ds:List Deferred} {w:World} (gO:F.round=none:=by rfl) (ag:ops[i]? =some dg:=by rfl) (a9:dg.dst=some d:=by rfl) (aB:Region.noSelect ops=true:=by kernel_rfl) (hf:Region.free .any ops listed i=true:=by kernel_rfl)
 (ar:(Region.ready .any ops listed).contains i=true:=by kernel_rfl) (xk:(C.contains aF&&!C.contains i)=true:=by kernel_rfl) (hW:Q4 ops C i=true:=by kernel_rfl) (bJ:C.all (λR=>!listed.getD R true)=true:=by kernel_rfl) (hU:∀R a w,bT (.panic R) (a.put dg.dst v) w->bT (.panic R) a w:=by exactλ_ _ _ h=>h) (bU:Region.wanted dg (yielded ops tmps)=true:=by rfl)
 (az:∀w,S w->dg.about P w (Act.eval {tmps:=tmps,defers:=ds})=none/\(execOp (Act.eval {tmps:=tmps,defers:=ds}) dg).run P w= .ok (.value v) w:=by exactλw cb=>⟨by rfl,by go_simp⟩) (cb:S w)
 (h:ej F n P ops bT S aF fuel (listed.setIfInBounds i true) {tmps:=tmps.setIfInBounds d v,defers:=ds} w):ej F n P ops bT S aF (fuel+1) listed {tmps:=tmps,defers:=ds} w:=
 Q5 C gO ag a9 aB hf ar xk hW bJ hU bU az cb h
theorem ajb {o:Oper} {tmps:Array Value} {ds:List Deferred} {w D:World} {v:Value} {aT:Act->World->Prop} (gO:F.round=none) (ag:ops[i]? =some o) (a9:o.dst=none) (bU:Region.wanted o (yielded ops tmps)=true)
 (hb:o.about P w (Act.eval {tmps:=tmps,defers:=ds})=none) (he:(execOp (Act.eval {tmps:=tmps,defers:=ds}) o).run P w= .ok (.value v) D) (K:aT {tmps:=tmps,defers:=ds} D):wpOpIn F n P ops bT i aT {tmps:=tmps,defers:=ds} w:=by
 unfold wpOpIn;simp only[ag,bU,if_true,Oper.wpIn,gO,Oper.semAt_none,he,Oper.uponIn];refine⟨λf hf=>(by rw[hb] at hf;cases hf),?_⟩;rw[a9];exact K
end
end
section
section
variable {P:il} {ops:Array f9} {bT:m7->eE->O->Prop} {S:O->Prop} {aF:Nat}
theorem ajc {n:Nat} (h:ge dY n P f args w aj):ge dY m P f args w aj:=im.2 (im.1 h)
theorem ajd {n:Nat} {U:String} {aj:ac->O->Prop} (h:RowsIn dY n P U args w aj):RowsIn dY m P U args w aj:=λR cs _=>h R cs (room_wide _)
theorem X9 {n:Nat} {t:Array ac} {a b:r3} (h:Xb dY n P l f t a b w aj):Xb dY m P l f t a b w aj:=⟨trivial,λR cs _=>h.2 R cs (room_wide _)⟩
def Mt (ops:Array f9):Bool:=ops.all λo=>match o.op with| .defer _=>ao|_=>ad
theorem uponIn_round {n:Nat} {o:f9} {U:Result Next} (h:o.uponIn dY n P a aT bT U):o.uponIn (Fence.wide.inRound l) m P a aT bT U:=by
 cases U with
 |ok x D=>
  cases x with
  |enter f args=>exact⟨λh=>(by cases h),(ajc (n:=n-1) (m:=m-1) h.2).inRound l⟩
  |row U args=>exact⟨λh=>(by cases h),ajd (m:=m-1) h.2⟩
  |round i3 f t xl Bm=>exact⟨λh=>(by cases h),X9 (m:=m-1) h.2⟩
  |_=>exact h
 |halt x D=>cases x<;>exact h
theorem aje {n:Nat} (a9:Mt ops=ad) (h:l_ dY n P ops bT i aT a w):l_ (Fence.wide.inRound l) m P ops bT i aT a w:=by
 unfold l_ at*;cases aQ:ops[i]? with
 |none=>simp only[aQ] at h⊢;exact h
 |some o=>
  simp only[aQ] at h⊢;have hnd:∀R,o.op≠ .defer R:=λR e=>by
   obtain⟨ag,a4⟩:=gU.1 aQ;have:=Array.all_eq_true.1 a9 i ag;rw[a4,e] at this;cases this
  split
  ·rename_i bU;rw[if_pos bU] at h;refine⟨λ_ _=>trivial,?_⟩;have h2:=h.2;rw[aAu _ _ _ hnd] at h2;rw[aAu _ _ _ hnd];exact uponIn_round h2
  ·rename_i bU;rw[if_neg bU] at h;exact⟨λ_ _=>trivial,h.2⟩
theorem X_ {n:Nat} (a9:Mt ops=ad):∀(fuel:Nat) (listed:Array Bool) (a:eE) (w:O),wpAnyIn dY n P .any ops bT fuel listed a w->wpAnyIn (Fence.wide.inRound l) m P .any ops bT fuel listed a w
 |0,_,_,_,h=>h
 |fuel+1,_,_,_,h=>⟨h.1,λi ag=>aje a9 (Ib (λfM D fx=>X_ a9 fuel _ fM D fx) (h.2 i ag))⟩
theorem ajf (S:O->Prop) (aF:Nat) (hm:P.follows .mixedOrders=ad) (a9:Mt ops=ad) (h:ej dY 9 P ops bT S aF ops.size (Ic ops.size ao) a {w with drawn:=w.drawn+1}):(Ie id ops ad).wpIn (Fence.wide.inRound l) m P bT a w:=
 aAp hm (X_ a9 _ _ _ _ (QZ _ _ _ _ h))
theorem ajg (S:O->Prop) (aF:Nat) (hm:P.follows .mixedOrders=ad) (h:ej dY 9 P ops bT S aF ops.size (Ic ops.size ao) a {w with drawn:=w.drawn+1}):(Ie id ops ad).wpIn dY m P bT a w:=
 FG.2 (jQ S aF hm h)
end
end
section
def Q6 (ajh:Bool):Op->Bool
 | .move ..| .assign ..| .pick ..| .nilCheck ..| .binOp ..| .unOp ..| .fieldAddr ..| .field ..| .indexAddr ..| .index ..| .extract ..| .slice ..| .makeFunc ..=>true
 | .load ..| .lookup ..=>ajh
 | .call R=>match R.callee with
  | .builtin .len| .builtin .min| .builtin .max| .builtin .cap=>true
  |_=>false
 |_=>false
def X' (ok:Nat->Oper->Bool) (all:List Bool):List Oper->List Bool->Nat->Option Nat
 |o::os,b::pE,k=>bif !b&&(ok k o&&o.after.toList.all λe=>!Region.binds .any e||all.getD e.on false) then some k else X' ok all os pE (k+1)
 |_,_,_=>none
def Q7 (ok:Nat->Oper->Bool) (ops:Array Oper) (listed:Array Bool):Option Nat:=X' ok listed.toList ops.toList listed.toList 0
def Ya (i:Nat):List Oper->Nat->List Nat->List Nat
 |o::os,k,C=>Ya i os (k+1) (bif o.after.toList.any λe=>Region.binds .any e&&(e.on==i||C.contains e.on) then k::C else C)
 |[],_,C=>C
def F2 (ops:Array Oper) (i:Nat):List Nat:=Ya i ops.toList 0 []
section
variable {F:Fence} {n:Nat} {P:Program} {ops:Array Oper} {bT:Exit->Act->World->Prop} {S:World->Prop} {aF:Nat} {i:Nat} {v:Value} {d:Nat} {dg:Oper} {fuel:Nat} {listed mE:Array Bool} {tmps nI:Array Value} {ds:List Deferred} {w:World}
theorem fA (h:wpAnyH P .any ops bT S fuel mE {tmps:=nI,defers:=ds} w) (Yb:Q7 (λ_ o=>Q6 true o.op) ops listed=some i:=by rfl)
 (ag:ops[i]? =some dg:=by rfl) (a9:dg.dst=some d:=by rfl) (aB:Region.noSelect ops=true:=by kernel_rfl) (hf:Region.free .any ops listed i=true:=by kernel_rfl)
 (ar:(Region.ready .any ops listed).contains i=true:=by kernel_rfl)
 (az:∀w,S w->(execOp (Act.eval {tmps:=tmps,defers:=ds}) dg).run P w= .ok (.value v) w:=by intro w cb;go_simp;rfl)
 (hU:∀R a w,bT (.panic R) (a.put dg.dst v) w->bT (.panic R) a w:=by exactλ_ _ _ h=>h) (bU:Region.wanted dg (yielded ops tmps)=true:=by rfl) (cb:S w:=by assumption)
 (aw:listed.setIfInBounds i true=mE:=by(try simp only[List.setIfInBounds_toArray,List.set_cons_zero,List.set_cons_succ]);rfl)
 (ht:tmps.setIfInBounds d v=nI:=by(try simp only[List.setIfInBounds_toArray,List.set_cons_zero,List.set_cons_succ]);rfl):
 wpAnyH P .any ops bT S (fuel+1) listed {tmps:=tmps,defers:=ds} w:=
 Q3 ag a9 aB hf ar hU bU az cb (by rw[aw,ht];exact h)
theorem fS (h:ej F n P ops bT S aF fuel mE {tmps:=nI,defers:=ds} w) (Yb:Q7 (λk o=>Q6 true o.op&&(F2 ops k).contains aF) ops listed=some i:=by rfl)
 (gO:F.round=none:=by rfl) (ag:ops[i]? =some dg:=by rfl) (a9:dg.dst=some d:=by rfl) (aB:Region.noSelect ops=true:=by kernel_rfl) (hf:Region.free .any ops listed i=true:=by kernel_rfl)
 (ar:(Region.ready .any ops listed).contains i=true:=by kernel_rfl) (xk:((F2 ops i).contains aF&&!(F2 ops i).contains i)=true:=by kernel_rfl) (hW:Q4 ops (F2 ops i) i=true:=by kernel_rfl) (bJ:(F2 ops i).all (λR=>!listed.getD R true)=true:=by kernel_rfl)
 (az:∀w,S w->dg.about P w (Act.eval {tmps:=tmps,defers:=ds})=none/\(execOp (Act.eval {tmps:=tmps,defers:=ds}) dg).run P w= .ok (.value v) w:=by exactλw cb=>⟨by rfl,by go_simp;rfl⟩)
 (hU:∀R a w,bT (.panic R) (a.put dg.dst v) w->bT (.panic R) a w:=by exactλ_ _ _ h=>h) (bU:Region.wanted dg (yielded ops tmps)=true:=by rfl) (cb:S w:=by assumption)
 (aw:listed.setIfInBounds i true=mE:=by(try simp only[List.setIfInBounds_toArray,List.set_cons_zero,List.set_cons_succ]);rfl)
 (ht:tmps.setIfInBounds d v=nI:=by(try simp only[List.setIfInBounds_toArray,List.set_cons_zero,List.set_cons_succ]);rfl):
 ej F n P ops bT S aF (fuel+1) listed {tmps:=tmps,defers:=ds} w:=
 Q5 (F2 ops i) gO ag a9 aB hf ar xk hW bJ hU bU az cb (by rw[aw,ht];exact h)
theorem ea (h:ej F n P ops bT S aF fuel mE {tmps:=nI,defers:=ds} w) (Yb:Q7 (λk o=>Q6 false o.op&&!(k==aF)) ops listed=some i:=by rfl)
 (gO:F.round=none:=by rfl) (ag:ops[i]? =some dg:=by rfl) (a9:dg.dst=some d:=by rfl) (aB:Region.noSelect ops=true:=by kernel_rfl) (hf:Region.free .any ops listed i=true:=by kernel_rfl)
 (ar:(Region.ready .any ops listed).contains i=true:=by kernel_rfl) (qe:(aF !=i)=true:=by kernel_rfl)
 (az:∀w,dg.about P w (Act.eval {tmps:=tmps,defers:=ds})=none/\(execOp (Act.eval {tmps:=tmps,defers:=ds}) dg).run P w= .ok (.value v) w:=by exactλw=>⟨by rfl,by go_simp;rfl⟩)
 (hU:∀R a w,bT (.panic R) (a.put dg.dst v) w->bT (.panic R) a w:=by exactλ_ _ _ h=>h) (bU:Region.wanted dg (yielded ops tmps)=true:=by rfl) (cb:listed.getD aF true=false->S w:=by first|exactλ_=>by assumption|exactλh=>by cases h)
 (aw:listed.setIfInBounds i true=mE:=by(try simp only[List.setIfInBounds_toArray,List.set_cons_zero,List.set_cons_succ]);rfl)
 (ht:tmps.setIfInBounds d v=nI:=by(try simp only[List.setIfInBounds_toArray,List.set_cons_zero,List.set_cons_succ]);rfl):
 ej F n P ops bT S aF (fuel+1) listed {tmps:=tmps,defers:=ds} w:=
 Q1 gO ag a9 aB hf ar qe hU bU az cb (by rw[aw,ht];exact h)
theorem aji {yr:Fence} {R:Code} {a:Act} {aT:Act->World->Prop} (aj:Act->World->Prop) (h:R.wpIn yr n P (Exit.then aj bT) a w) (K:∀a w,aj a w->aT a w):R.wpIn yr n P (Exit.then aT bT) a w:=
 wpIn_mono h λe a w q=>by cases e with
  |normal=>exact K a w q
  |_=>exact q
theorem pF {a:Act} (aF:Nat) (cb:∀u,Go.RowKit.Below w.heap.size w u->S u) (h:∀u,Go.RowKit.Below w.heap.size w u->S u->ej Fence.wide 9 P ops bT S aF fuel listed a u) (hm:P.follows .mixedOrders=true:=by rfl) (hf:ops.size=fuel:=by simp only[List.size_toArray,List.length_cons,List.length_nil,Nat.reduceAdd];rfl)
 (aw:Array.replicate fuel false=listed:=by simp only[Array.replicate_succ,Array.replicate_zero,Nat.reduceAdd,Nat.reduceSub,List.push_toArray,List.append_toArray,List.nil_append,List.cons_append];rfl):(Code.region id ops true).wp P bT a w:=by
 subst hf;subst aw;have hb:Go.RowKit.Below w.heap.size w w.drew:=(Go.RowKit.Below.refl _ _).drew;exact jQ S aF hm (h _ hb (cb _ hb))
theorem Mu (aF:Nat) (cb:∀u,Go.RowKit.Below w.heap.size w u->S u) (h:∀u,Go.RowKit.Below w.heap.size w u->S u->ej Fence.wide 9 P ops (tQ ds (λ_ _=>False) bT) S aF fuel listed {tmps:=tmps,defers:=ds} u) (hm:P.follows .mixedOrders=true:=by rfl) (hf:ops.size=fuel:=by simp only[List.size_toArray,List.length_cons,List.length_nil,Nat.reduceAdd];rfl)
 (aw:Array.replicate fuel false=listed:=by simp only[Array.replicate_succ,Array.replicate_zero,Nat.reduceAdd,Nat.reduceSub,List.push_toArray,List.append_toArray,List.nil_append,List.cons_append];rfl):(Code.region id ops true).wpIn Fence.wide m P bT {tmps:=tmps,defers:=ds} w:=by
 subst hf;subst aw;have hb:Go.RowKit.Below w.heap.size w w.drew:=(Go.RowKit.Below.refl _ _).drew;exact Dt ds (λ_ _=>False) (λ_ _ _ _ h=>h.elim) (ajg S aF hm (h _ hb (cb _ hb)))
theorem F3 {a:Act} (aF:Nat) (cb:∀u,Go.RowKit.Below w.heap.size w u->S u) (h:∀u,Go.RowKit.Below w.heap.size w u->S u->ej Fence.wide 9 P ops bT S aF fuel listed a u) (hm:P.follows .mixedOrders=true:=by rfl) (a9:Mt ops=true:=by kernel_rfl) (hf:ops.size=fuel:=by simp only[List.size_toArray,List.length_cons,List.length_nil,Nat.reduceAdd];rfl)
 (aw:Array.replicate fuel false=listed:=by simp only[Array.replicate_succ,Array.replicate_zero,Nat.reduceAdd,Nat.reduceSub,List.push_toArray,List.append_toArray,List.nil_append,List.cons_append];rfl):(Code.region id ops true).wpIn (Fence.wide.inRound l) m P bT a w:=by
 subst hf;subst aw;have hb:Go.RowKit.Below w.heap.size w w.drew:=(Go.RowKit.Below.refl _ _).drew;exact ajf S aF hm a9 (h _ hb (cb _ hb))
end
end
section
variable {F:Fence} {n:Nat} {P:il}
def ajj (P:il) (l:Nat) (aj:mA->O->Prop):m7->eE->O->Prop
 | .panic fp,a,w=>a.defers=[]/\aj (.panicked fp) w
 |e,a,w=>roundPost P l aj e a w
theorem ajk (hF:F.fn f) (hfn:∃fn,P.funcs[f]? =A fn)
 (h:assign.wpIn (F.inRound l) n P (Exit.then (λtR Q8=>∃Mv,(Instr.beginRound l).run P Q8= .ok () Mv/\body.wpIn (F.inRound l) n P (ajj P l aj) tR Mv) (λ_ _ _=>False))
  {tmps:=tmps,defers:=[]} w):
 Xb F n P l f tmps assign body w aj:=by
 refine⟨hF,λR cs ar=>?_⟩
 let b:Frame:={(default:Frame) with fn:=f,kind:= .normal,roundOf:=A l}
 have hl:aAw l f tmps assign body .normal=b.atR {tmps:=tmps,defers:=[]} [.code assign,.beginRound,.code body]:=by
  simp[aAw,Frame.atR,b]
 have Bn:(F.inRound l).room ((R::cs).length+1+n):=ar;have Bo:(F.inRound l).fn b.fn:=hF;obtain⟨e,tR,Q8,aO,F4⟩:=h b [.beginRound,.code body] (R::cs) rfl Bo Bn;rw[<-hl] at F4;cases e with
 |normal=>
  obtain⟨Mv,oI,hbody⟩:=aO;have s1:StepsIn (Machine.fenced P (F.inRound l)) P (lone (b.atR tR [.beginRound,.code body]) (R::cs) Q8) (lone (b.atR tR [.code body]) (R::cs) Mv):=
   .one (Qc (fr:=b.atR tR [.beginRound,.code body]) Bo Bn rfl) (stepR_beginRound rfl oI)
  obtain⟨ajl,F5,Yc,F6,Ix⟩:=hbody b [] (R::cs) rfl Bo Bn;cases ajl with
  |normal=>
   obtain⟨v,Dx,o8,cf⟩:=F6;exact⟨au v,Dx,cf,(A6 F4 s1).trans (A6 Ix (.one (Qc (fr:=b.atR F5 []) Bo Bn rfl) (stepR_round_end rfl rfl o8)))⟩
  |ret=>
   obtain⟨v,Dx,o8,cf⟩:=F6;obtain⟨Mk,aB⟩:=Ix.2 rfl;exact⟨au v,Dx,cf,(A6 F4 s1).trans (A6 aB (.one (Qc (fr:=b.atR F5 (.code .ret::Mk)) Bo Bn rfl) (stepR_round_ret rfl rfl o8)))⟩
  |exit id=>
   obtain⟨v,Dx,o8,cf⟩:=F6;obtain⟨Mk,K,aB⟩:=Ix.2 rfl rfl;exact⟨au v,Dx,cf,(A6 F4 s1).trans (A6 aB (.one (Qc (fr:=b.atR F5 (.code (.exit id)::Mk)) Bo Bn rfl) (stepR_round_exit rfl rfl K o8)))⟩
  |goto t=>
   obtain⟨v,Dx,o8,cf⟩:=F6;obtain⟨Mk,K,aB⟩:=Ix.2 rfl rfl;exact⟨au v,Dx,cf,(A6 F4 s1).trans (A6 aB (.one (Qc (fr:=b.atR F5 (.code (.goto t)::Mk)) Bo Bn rfl) (stepR_round_goto rfl rfl K o8)))⟩
  |panic chain=>
   obtain⟨a9,cf⟩:=F6;obtain⟨todo,aB⟩:=Ix;have aw:Frame.leaving P {b.atR F5 todo with mode:= .panicking chain} Yc (.panicked chain):=⟨rfl,a9,hfn⟩;exact⟨.panicked chain,Yc,cf,(A6 F4 s1).trans (A6 aB (.one (fenced_leaving (fr:={b.atR F5 todo with mode:= .panicking chain}) Bo Bn aw) (step_leave_panicked aw)))⟩
  |outgrown=>exact(F6:False).elim
 |exit id=>exact aO.elim
 |goto t=>exact aO.elim
 |ret=>exact aO.elim
 |panic chain=>exact aO.elim
 |outgrown=>exact aO.elim
end
def ajm {ep:Type} (ai:Nat) (eb:O->O->Prop) (dp:List ep->O->Prop) (be:List vV->List ep->O->Prop) (b7:List ep) (W:O):m7->eE->O->Prop
 | .normal,_,W'=>KeepsFrom ai W W'/\eb W W'/\dp b7 W'
 | .panic fp,a,W'=>a.defers=[]/\KeepsFrom ai W W'/\be fp b7 W'
 |_,_,_=>False
theorem ajn {n:Nat} {g:H_} {c7:Array Tmp}
 (gO:F.round=T) (hex:∀fn,F.fn fn->∃f,P.funcs[fn]? =A f) (h1:1<=n) (hg:a.eval g= .func (.func gf) #[] lb) (Q9:F.fn gf) (jR:∀args w,(gM gf args).run P w= .ok (.enter gf args) w)
 (jk:ep->Array ac) (lc:∀x,(jk x).size=c7.size) (ln eb:O->O->Prop) (S:List ep->O->Prop) (be:List vV->List ep->O->Prop) (Yd:List ep->Prop) (N:Nat)
 (hit:∀(l:Nat) (bG:List ep->O->Prop) (mS:List vV->List ep->O->Prop) (W:O),bQ w.heap.size w W->(∀s Q ai,bG s Q->ln Q ai->bG s ai)->
  (∀pre x d9,bG pre d9->pre.length<N->o4 F (n-1-1) P l (jk x) d9 λe W'=>(e=au (aA ad)/\bG (pre++[x]) W'/\eb d9 W')\/(∃fp,e= .panicked fp/\mS fp (pre++[x]) W'))->bG [] W->
  ge F (n-1) P gf (#[.func (.yield l) #[] #[]]++lb) W λe W'=>(∃v b7,e=au v/\S b7 W'/\bG b7 W')\/(∃fp b7,e= .panicked fp/\Yd b7/\mS fp b7 W'))
 (hSt:∀Q ai k o,ln Q ai->w.heap.size<=k->Q.heap[k]? =A o->o.isCells=ao->ai.heap[k]? =A o)
 (dp:List ep->O->Prop) (hIs:∀s Q ai,dp s Q->ln Q ai->dp s ai) (hIp:∀s Q l o dt,dp s Q->w.heap.size<=l->Q.heap[l]? =A o->o.isCells=ao->dp s (Q.putObj l dt)) (hIa:∀s Q o,dp s Q->dp s (Q.alloc o))
 (hSp:∀s Q l o dt,S s Q->w.heap.size<=l->Q.heap[l]? =A o->o.isCells=ao->S s (Q.putObj l dt))
 (lD:∀{Q ai C:O},eb Q ai->eb ai C->eb Q C) (hKb:∀(W:O) (l:Nat) (o dt:Obj),w.heap.size<=l->W.heap[l]? =A o->o.isCells=ao->eb W (W.putObj l dt))
 (h0:dp [] w) (Q:List ep->ep->eE->O->Prop) (hAp:∀pre x a1 W l o dt,Q pre x a1 W->w.heap.size<=l->W.heap[l]? =A o->o.isCells=ao->Q pre x a1 (W.putObj l dt))
 (hassign:∀(l:Nat) (pre:List ep) (x:ep) (W:O) (aT:eE->O->Prop),dp pre W->pre.length<N->(∀a1 d9,Q pre x a1 d9->KeepsFrom w.heap.size W d9->eb W d9->aT a1 d9)->
  assign.wpIn (F.inRound l) (n-1-1) P (Exit.then aT (λ_ _ _=>False)) {tmps:=(c7.zip (jk x)).foldl (λt (p,v)=>t.setIfInBounds p v) a.tmps,defers:=[]} W)
 (hbody:∀(l:Nat) (pre:List ep) (x:ep) (a1:eE) (W:O),Q pre x a1 W->pre.length<N->body.wpIn (F.inRound l) (n-1-1) P (ajm w.heap.size eb dp be (pre++[x]) W) a1 W)
 (hdone:∀(aF:Nat) (b7:List ep) (W:O),w.heap.size<=aF->S b7 W->dp b7 W->W.heap[aF]? =A (.deferred (A []))->bT .normal {a with defers:={target:= .collected aF,args:=#[]}::a.defers} W)
 (hthrow:∀(aF:Nat) (fp:List vV) (b7:List ep) (W:O),w.heap.size<=aF->Yd b7->be fp b7 W->W.heap[aF]? =A (.deferred (A []))->bT (.panic fp) {a with defers:={target:= .collected aF,args:=#[]}::a.defers} W):
 (Code.rangeFunc g c7 assign body).wpIn F n P bT a w:=by
 refine Qf ?_;intro fn hfn;rw[gO];obtain⟨rec,pG⟩:∃rec:LoopState->Option r3->Loop,rec=λst Q_=>{state:=st,pending:=Q_,fn,tmps:=a.tmps,params:=c7,assign,body,defers:=w.heap.size}:=⟨_,rfl⟩;obtain⟨d9,mb⟩:∃d9,(w.alloc (.deferred (A []))).alloc (.loop (rec .ready T))=d9:=⟨_,rfl⟩;have Q':d9.heap[w.heap.size+1]? =A (.loop (rec .ready T)):=by
  rw[<-mb];have:=vY (w.alloc (.deferred (A []))) (.loop (rec .ready T));rwa[d8] at this
 have Ra:d9.heap[w.heap.size]? =A (.deferred (A [])):=by
  rw[<-mb];exact(px _ _ _ a3).trans (vY w _)
 have aX:bQ w.heap.size w d9:=by rw[<-mb];exact((bx _ w).alloc (bY _) _).alloc a3 _
 have j6:dp [] d9:=by rw[<-mb];exact hIa _ _ _ (hIa _ _ _ h0)
 refine⟨w.heap.size+1,[{target:= .collected w.heap.size,args:=#[]}],d9,{target:= .fn (.func gf) lb,args:=#[.func (.yield (w.heap.size+1)) #[] #[]]},d9,gf,
  #[.func (.yield (w.heap.size+1)) #[] #[]]++lb,d9,?_,?_,?_,?_,λ_=>h1,?_⟩
 ·rw[<-mb,pG];exact Qh _ _ _ _ _
 ·simp only[FE,hg];simp[go_sem]
 ·intro Iy Iz;simp[ahR] at Iz;subst Iz;exact Q9
 ·simp[invoke,go_sem,jR]
 refine(hit (w.heap.size+1) (λpre W=>dp pre W/\W.heap[w.heap.size+1]? =A (.loop (rec .ready T))/\W.heap[w.heap.size]? =A (.deferred (A []))) (λfp b7 W=>be fp b7 W/\W.heap[w.heap.size]? =A (.deferred (A []))) d9 aX
  (λs Q ai aB hst=>⟨hIs s Q ai aB.1 hst,hSt Q ai _ _ hst G aB.2.1 rfl,hSt Q ai _ _ hst (bY _) aB.2.2 rfl⟩) ?_ ⟨j6,Q',Ra⟩).mono ?_
 ·rintro pre x W ⟨ag,aw,K⟩ hlen;have a0:w.heap.size+1<W.heap.size:=(gU.1 aw).1;have az:=Qi (P:=P) (args:=jk x) aw (by rw[pG];exact lc x);rw[pG] at az;refine⟨fn,_,assign,body,az,ajk hfn (hex fn hfn) (hassign _ pre x W _ ag hlen ?_)⟩;intro a1 IA hA uU Rb;have nk:=uU.same _ _ G aw rfl;have Rc:w.heap.size+1<IA.heap.size:=(gU.1 nk).1;refine⟨_,Qj nk (by rw[pG]),?_⟩;obtain⟨tS,qQ⟩:∃tS,IA.putObj (w.heap.size+1) (.loop {rec .ready T with state:= .busy})=tS:=⟨_,rfl⟩;have o9:tS.heap[w.heap.size+1]? =A (.loop {rec .ready T with state:= .busy}):=by rw[<-qQ];exact A7 Rc
  have e6:tS.heap[w.heap.size]? =A (.deferred (A [])):=by rw[<-qQ];exact(jr G).trans (uU.same _ _ (bY _) K rfl)
  have cK:eb W tS:=by rw[<-qQ];exact lD Rb (hKb _ _ _ _ G nk rfl)
  have uV:Q pre x a1 tS:=by rw[<-qQ];exact hAp _ _ _ _ _ _ _ hA G nk rfl
  rw[qQ];refine Ia (hbody _ pre x a1 _ uV hlen) ?_;rintro e dX dI aP;cases e with
  |normal=>
   obtain⟨dv,zD,sP⟩:=aP;have kB:=dv.same _ _ G o9 rfl;have ar:=Qk (P:=P) T kB;rw[pG] at ar kB;refine⟨_,_,ar,.inl ⟨rfl,⟨hIp _ _ _ _ _ sP G kB rfl,?_,?_⟩,lD (lD cK zD) (hKb _ _ _ _ G kB rfl)⟩⟩
   ·rw[pG];exact A7 (gU.1 kB).1
   ·exact(jr G).trans (dv.same _ _ (bY _) e6 rfl)
  |ret=>exact aP.elim
  |exit id=>exact aP.elim
  |goto t=>exact aP.elim
  |panic fp=>
   obtain⟨a9,dv,ht⟩:=aP;exact⟨a9,.inr ⟨fp,rfl,ht,dv.same _ _ (bY _) e6 rfl⟩⟩
  |outgrown=>exact aP.elim
 ·rintro e fK (⟨v,b7,rfl,cb,ag,aw,K⟩|⟨fp,b7,rfl,nJ,b3,K⟩)
  ·exact⟨T,_,by have:=LR (P:=P) aw (by rw[pG];simp);rw[pG] at this;exact this,hdone _ b7 _ (bY _) (hSp _ _ _ _ _ cb G aw rfl) (hIp _ _ _ _ _ ag G aw rfl) ((jr G).trans K)⟩
  ·exact hthrow _ fp b7 _ (bY _) nJ b3 K
section
open Go.RowKit Go.Deep
def Rd (P:il) (w:O) (t:cY) (cs:List ac):Prop:=
 ∃(H:Type) (enc:cY×ac->H) (spare:Nat->Bool) (held:Bool) (fuel:Nat) (x:DataW H×List MemPlace),DataW.trod enc P w 0 spare held fuel t cs=A x
theorem Rd.of_trod {H:Type} {enc:cY×ac->H} {spare:Nat->Bool} {held:Bool} {d:DataW H} {c7:List MemPlace}
 (h:DataW.Trod enc P w 0 spare held t v d c7):Rd P w t v.cells.toList:=by
 obtain⟨fuel,h⟩:=h;exact⟨H,enc,spare,held,fuel,_,h⟩
section
variable {P:il} {w:O} {t e:cY} {cs:List ac}
theorem Rd.int (ht:P.underlying t=A (.int k)) (h:Rd P w t cs):∃n,cs=[.int k n]/\(vZ k n).wf=ad:=by
 obtain⟨H,enc,v8,he,fuel,x,h⟩:=h;obtain⟨n,h1,_,h2⟩:=DataW.trod_int ht h;exact⟨n,h1,h2⟩
theorem Rd.bool (ht:P.underlying t=A .bool) (h:Rd P w t cs):∃b,cs=[.bool b]:=by
 obtain⟨H,enc,v8,he,fuel,x,h⟩:=h;obtain⟨n,h1,_⟩:=DataW.trod_bool ht h;exact⟨n,h1⟩
theorem Rd.struct {qf:Array Field} (ht:P.underlying t=A (.struct qf)) (h:Rd P w t cs):
 cs.length=P.cellsOf t/\∀(i:Nat) (f:Field),qf[i]? =A f->Rd P w f.type ((cs.drop f.offset).take (P.cellsOf f.type)):=by
 obtain⟨H,enc,v8,he,fuel,x,h⟩:=h;obtain⟨b7,n,_,_,aw,hlen,hf⟩:=DataW.trod_struct ht h;refine⟨aw,λi f ag=>?_⟩;have a0:i<b7.length:=by rw[hlen];exact(gU.1 ag).1
 exact⟨H,enc,v8,he,n,b7[i],(hf i f ag).trans (eA a0)⟩
theorem Rd.array {n:Nat} (ht:P.underlying t=A (.array n e)) (h:Rd P w t cs):
 cs.length=P.cellsOf t/\∀i,i<n->Rd P w e ((cs.drop (i*P.cellsOf e)).take (P.cellsOf e)):=by
 obtain⟨H,enc,v8,he,fuel,x,h⟩:=h;obtain⟨b7,m,_,_,aw,hlen,hf⟩:=DataW.trod_array ht h;refine⟨aw,λi ag=>?_⟩;have a0:i<b7.length:=by rw[hlen];exact ag
 exact⟨H,enc,v8,he,m,b7[i],(hf i ag).trans (eA a0)⟩
theorem Rd.field {qf:Array Field} {R:ac} (ht:P.underlying t=A (.struct qf)) (h:Rd P w t cs) (i:Nat) (hf:(qf[i]?).map (λf=>(f.offset,f.type))=A (i,e)) (ah:P.cellsOf e=1) (ag:cs[i]? =A R):Rd P w e [R]:=by
 cases yv:qf[i]? with
 |none=>rw[yv] at hf;cases hf
 |some f=>
  rw[yv] at hf;obtain⟨h1,h2⟩:f.offset=i/\f.type=e:=by simpa using hf
  have:=(Rd.struct ht h).2 i f yv;rw[h1,h2,ah] at this;obtain⟨a0,Re⟩:=r4.1 ag;rw[LS a0,Re] at this;exact this
theorem Rd.elem {n:Nat} {R:ac} (ht:P.underlying t=A (.array n e)) (h:Rd P w t cs) (i:Nat) (aC:i<n) (ah:P.cellsOf e=1) (ag:cs[i]? =A R):Rd P w e [R]:=by
 have:=(Rd.array ht h).2 i aC;rw[ah,FH] at this;obtain⟨a0,Re⟩:=r4.1 ag;rw[LS a0,Re] at this;exact this
theorem Rd.slice (ht:P.underlying t=A (.slice e)) (ah:0<P.cellsOf e) (h:Rd P w t cs):
 ∃(a:Option cp) (len cap:Nat),cs=[E a len cap]/\len<=cap/\cap<=ff/\∀i,i<len->∃b off,a=A ⟨b,off,T⟩/\
  ∃eJ:List ac,eJ.length=P.cellsOf e/\(∀j,j<P.cellsOf e->w.cell? ⟨b,off+(i*P.cellsOf e+j),T⟩=eJ[j]?)/\Rd P w e eJ:=by
 obtain⟨H,enc,v8,he,fuel,x,h⟩:=h;rcases open_slice ht h with⟨h1,_⟩|⟨a,len,cap,m,n,aF,fN,h1,_,aw,hm,lo,_,Mw⟩
 ·exact⟨T,0,0,h1,bY _,cQ _,λi ag=>absurd ag (Dh i)⟩
 refine⟨A a,len,cap,h1,aw,hm,λi ag=>?_⟩;have v9:len<=m:=by rw[lo];split<;>omega
 obtain⟨eJ,Mx,Bp⟩:=Mw i G;obtain⟨_,hlen,sQ⟩:=aAy Mx;have Ye:a.spot=T:=by
  obtain⟨aCK,ajo,_⟩:=Mw 0 G;obtain⟨_,aCL,ajp⟩:=aAy ajo;have h0:=ajp 0 ah;rw[eA G] at h0;have e:(a.add (0*P.cellsOf e)).add 0=a:=by simp[ym]
  rw[e] at h0;cases aB:a.spot with
  |none=>rfl
  |some s=>
   unfold World.cell? at h0;split at h0
   ·simp[aB] at h0
   ·cases h0
 obtain⟨b,off,s⟩:=a;simp only at Ye;subst Ye;refine⟨b,off,rfl,eJ,hlen,λj av=>?_,⟨H,enc,v8,he,n,_,Bp⟩⟩;have:=sQ j av;rw[add_add] at this;have e:(⟨b,off,T⟩:cp).add (i*P.cellsOf e+j)=⟨b,off+(i*P.cellsOf e+j),T⟩:=by
  unfold ym;split<;>simp_all
 rwa[e] at this
end
def ip (w:O) (v:ac) (k:IntKind) (l:List Int):Prop:=
 ∃(a:Option cp) (cap:Nat),v=E a l.length cap/\l.length<=cap/\cap<=ff/\∀i (h:i<l.length),∃b off,a=A ⟨b,off,T⟩/\w.cell? ⟨b,off+i,T⟩=A (.int k l[i])
theorem ip.dy {l:List Int} (h:ip w v k l) (hb:∀b,v.ownBlock=A b->D.heap[b]? =w.heap[b]?):ip D v k l:=by
 obtain⟨a,cap,rfl,h1,h2,ap⟩:=h;refine⟨a,cap,rfl,h1,h2,λi ag=>?_⟩;obtain⟨b,off,rfl,ah⟩:=ap i ag;exact⟨b,off,rfl,(mO (hb b rfl)).trans ah⟩
theorem ip.lt {l:List Int} (h:ip w v k l) (aw:0<l.length):∀b,v.ownBlock=A b->b<w.heap.size:=by
 obtain⟨a,cap,rfl,h1,h2,ap⟩:=h;intro b hb;obtain⟨qR,off,rfl,ah⟩:=ap 0 aw;have:qR=b:=by simpa [A9] using hb
 subst this;exact zA ah
theorem ip.alloc {l:List Int} (h:ip w v k l) (o:Obj):ip (w.alloc o) v k l:=by
 by_cases aw:0<l.length
 ·exact h.dy (λb hb=>px _ _ _ (h.lt aw b hb))
 ·obtain⟨a,cap,rfl,h1,h2,ap⟩:=h;exact⟨a,cap,rfl,h1,h2,λi ag=>absurd ag G⟩
theorem ip.cells {off:Nat} {l:List Int} {n:Nat} (h:ip w (E (A ⟨b,off,T⟩) n cap) k l):∀i (ag:i<l.length),w.cell? ⟨b,off+i,T⟩=A (.int k l[i]):=by
 intro i ag;obtain⟨a,nl,e,h1,h2,ap⟩:=h;obtain⟨qR,My,a4,ah⟩:=ap i ag;rw[a4] at e;simp only[Ql,ah0,ah1,and_true] at e;obtain⟨⟨rfl,rfl⟩,_,_⟩:=e;exact ah
theorem ip.below {l:List Int} (h:ip w v k l) (hb:bQ w.heap.size w D):ip D v k l:=by
 by_cases aw:0<l.length
 ·exact h.dy (λb aK=>hb.block b (h.lt aw b aK))
 ·obtain⟨a,cap,rfl,h1,h2,ap⟩:=h;exact⟨a,cap,rfl,h1,h2,λi ag=>absurd ag G⟩
theorem ajq (w:O) (Mz Rf kp e:cY) (k:IntKind) (Z:P.underlying Mz=A (.slice e)) (aB:(P.info? e).map (·.size)=A 1) (a:Option cp) (cap:Nat) (l:List Int)
 (h:ip w (E a l.length cap) k l):
 (Builtin.copy_ #[Mz,Rf] kp #[E (A ⟨w.heap.size,0,T⟩) l.length l.length,E a l.length cap]).run P (w.alloc (an (c6 k (d5 l.length 0)) e))= .ok (goInt l.length) (w.alloc (an (c6 k l) e)):=by
 by_cases aw:l.length=0
 ·have ar:=run_copy_none (P:=P) (w.alloc (an (c6 k (d5 l.length 0)) e)) Mz Rf kp e (A ⟨w.heap.size,0,T⟩) a l.length l.length l.length cap Z aB (by simp[aw]);rw[ar];obtain rfl:l=[]:=ah2 aw;rfl
 ·have hh:=h;obtain⟨fM,nl,fm,_,_,ap⟩:=hh;obtain⟨b,off,a4,_⟩:=ap 0 G;obtain rfl:a=fM:=by simpa using(FJ fm).1
  clear ap fm;subst a4;have ah:=(ip.alloc h (an (c6 k (d5 l.length 0)) e)).cells;have ar:=Qm (P:=P) (w.alloc (an (c6 k (d5 l.length 0)) e)) Mz Rf kp e w.heap.size 0 l.length l.length ⟨b,off,T⟩ l.length cap (c6 k (d5 l.length 0)) e (l.map (kK k)) Z aB
   (ahP _ _) a3 (λj v av=>by
    have yw:j<l.length:=by simpa using(r4.1 av).1
    have a8:(⟨b,off,T⟩:cp).add j=⟨b,off+j,T⟩:=by unfold ym;split<;>simp_all
    rw[a8,ah j yw];simpa [eA yw] using av) (by simp[c6]) (λv aK=>by obtain⟨x,_,rfl⟩:=jB.1 aK;rfl)
  rw[ar,aiZ];simp[c6]
theorem Rd.ints (ht:P.underlying t=A (.slice e)) (he:P.underlying e=A (.int k)) (ah:P.cellsOf e=1) (h:Rd P w t [v]):
 ∃l:List Int,ip w v k l/\∀x∈l,(vZ k x).wf=ad:=by
 obtain⟨a,len,cap,h1,aw,hm,Mw⟩:=Rd.slice ht G h;have hex:∀i,i<len->∃n:Int,(vZ k n).wf=ad/\∃b off,a=A ⟨b,off,T⟩/\w.cell? ⟨b,off+i,T⟩=A (.int k n):=λi ag=>by
  obtain⟨b,off,ha,eJ,Mx,sQ,Bp⟩:=Mw i ag;obtain⟨n,rfl,bU⟩:=Rd.int he Bp;have:=sQ 0 G;rw[ah,FH,uH] at this;exact⟨n,bU,b,off,ha,this⟩
 obtain⟨f,hf⟩:=choose_lt hex;have aK:v=E a len cap:=by simpa using h1
 refine⟨(List.range len).map f,⟨a,cap,by rw[aK];simp,by simpa using aw,hm,λi ag=>?_⟩,λx ak=>?_⟩
 ·have ia:i<len:=by simpa using ag
  obtain⟨_,b,off,ha,sQ⟩:=hf i ia;exact⟨b,off,ha,by simpa using sQ⟩
 ·obtain⟨i,ag,rfl⟩:=jB.1 ak;exact(hf i (tI.1 ag)).1
end
structure fN where
 dO:Int
 aG:Int
 co:Int
 n:Int
 am:Int
 ag:Int
deriving DecidableEq
def fN.cells (p:fN):List ac:=[r c p.dO,r c p.aG,r c p.co,r c p.n,r c p.am,r c p.ag]
def Dy (p:fN):Array ac:=#[aZ #[r c p.dO,r c p.aG,r c p.co,r c p.n,r c p.am,r c p.ag]]
def fN.bad (p:fN):Bool:=decide (p.n<p.am)||decide (p.ag<=p.n)
abbrev bd:=Int×Int×Int
structure Raw where
 nodes:Int
 X:List Int
 Y:List Int
 arcs:List bd
def sR (i:Nat) (IB:Int×Int):List fN:=[⟨i,0,7,IB.1,-2147483648,2147483648⟩,⟨i,1,7,IB.2,-2147483648,2147483648⟩]
def r9 (nodes:Int) (i:Nat) (a:bd):List fN:=[⟨i,0,9,a.1,0,nodes⟩,⟨i,1,9,a.2.1,0,nodes⟩,⟨i,2,10,a.2.2,0,2147483648⟩]
structure bu (W W':O):Prop where
 size:W.heap.size<=W'.heap.size
 block:∀(k:Nat) (cs:Array ac) (t:cY) (fr:Nat×Nat),W.heap[k]? =A (Obj.cells cs t fr)->W'.heap[k]? =W.heap[k]?
theorem bu.trans {Q ai C:O} (h:bu Q ai) (k:bu ai C):bu Q C:=
 ⟨cM h.size k.size,λi cs t fr ag=>by have e:=h.block i cs t fr ag;exact(k.block i cs t fr (e.trans ag)).trans e⟩
theorem bu.refl (W:O):bu W W:=⟨bY _,λ_ _ _ _ _=>rfl⟩
theorem bu.aH (h:bu W W') (hb:V W b cs t fr):V W' b cs t fr:=(h.block b cs t fr hb).trans hb
theorem bu.bg (h:bQ W.heap.size W W'):bu W W':=⟨h.size,λk _ _ _ K=>h.block k (gU.1 K).1⟩
def v_ (w:O) (v:ac) (L:List fN):Prop:=
 ∃(a:Option cp) (cap:Nat),v=E a L.length cap/\L.length<=cap/\cap<=ff/\∀i (h:i<L.length),∃b off cs t fr,a=A ⟨b,off,T⟩/\V w b cs t fr/\∀j u,L[i].cells[j]? =A u->cs[off+i*6+j]? =A u
theorem Ro (t e:cY) (a:Option cp) (n cap m:Nat) (ht:P.underlying t=A (.slice e)) (aB:(P.info? e).isSome=ad) (hm:m<=cap) (u:O):
 (Instr.slice t (E a n cap) T (A (r c m)) T).run P u= .ok (E a m cap) u:=by
 have he:P.elem t=e:=by unfold Program.elem;rw[ht]
 have ajF:P.underlying t=A (.slice (P.elem t)):=by rw[he];exact ht
 rw[run_slice_h u t a n cap ajF c (m:Int) G G];rw[he];cases aO:P.info? e with
 |none=>simp[aO] at aB
 |some i=>
  cases a<;>simp[sizeOf,typeInfo,aO,sliced,ym]
theorem uX {ops:Array f9} {rest:List f9} {o:f9} (uY:o.guard=T) (s x:H_) (t u:cY)
 (aQ:o.op= .call {callee:= .builtin .append,args:=#[s,x],argTypes:=#[t,u]}) {ca:ac} (hE:(qN #[t,u] o.type #[a.eval s,a.eval x]).run P w= .ok ca D)
 (h:wpList P ops bT rest (a.put o.dst ca) D):wpList P ops bT (o::rest) a w:=by
 refine wpList_plain uY λaT dQ=>?_;unfold Xf kz;simp only[aQ,FE,invoke,builtin,Qa,ahS,aAn,aAo,zy,LO,hE];exact dQ _ _ h
structure Kept (S:Nat->Prop) (w D:O):Prop where
 os:D.os=w.os
 tape:D.tape=w.tape
 output:D.output=w.output
 size:w.heap.size<=D.heap.size
 block:∀k,k<w.heap.size->¬S k->D.heap[k]? =w.heap[k]?
theorem Kept.refl (S:Nat->Prop) (w:O):Kept S w w:=⟨rfl,rfl,rfl,bY _,λ_ _ _=>rfl⟩
theorem Kept.trans {a b R:O} (h:Kept S a b) (k:Kept S b R):Kept S a R:=
 ⟨k.os.trans h.os,k.tape.trans h.tape,k.output.trans h.output,cM h.size k.size,λi ag aB=>(k.block i (jP ag h.size) aB).trans (h.block i ag aB)⟩
theorem Kept.drew {a:O} (h:Kept S a w):Kept S a w.drew:=⟨h.os,h.tape,h.output,h.size,h.block⟩
theorem Kept.setCell {a:O} (h:Kept S a w) {p:cp} (aP:S p.block) (u:ac):Kept S a (w.setCell p u):=
 ⟨h.os,h.tape,h.output,by simpa [World.setCell] using h.size,λk K aB=>(d7 _ _ _ _ (λe=>aB (by rw[e];exact aP))).trans (h.block k K aB)⟩
theorem Kept.below {a:O} (h:Kept S a w) (cd:ai<=a.heap.size) (cb:∀k,S k->ai<=k):bQ ai a w:=
 ⟨h.os,h.tape,h.output,h.size,λk K=>h.block k G (λaB=>by have:=cb k aB;omega)⟩
theorem Kept.bg {a:O} (h:bQ a.heap.size a w):Kept S a w:=⟨h.os,h.tape,h.output,h.size,λk K _=>h.block k K⟩
theorem Kept.aH {a:O} (h:Kept S a w) (hb:V a b cs t fr) (aB:¬S b):V w b cs t fr:=(h.block b hb.lt aB).trans hb
theorem Kept.alloc {a:O} (h:Kept S a w) (o:Obj):Kept S a (w.alloc o):=
 ⟨h.os,h.tape,h.output,by simp;have:=h.size;omega,λk K aB=>(px _ _ _ (jP K h.size)).trans (h.block k K aB)⟩
theorem Kept.mono {be:Nat->Prop} {a:O} (h:Kept S a w) (ag:∀k,S k->be k):Kept be a w:=⟨h.os,h.tape,h.output,h.size,λk K aB=>h.block k K (λe=>aB (ag k e))⟩
theorem Kept.new {a:O} (h:Kept (λk=>S k\/a.heap.size<=k) a w):Kept S a w:=⟨h.os,h.tape,h.output,h.size,λk K aB=>h.block k K (λe=>e.elim aB (λg=>by omega))⟩
theorem Kept.next {p:Nat} {bH:O} (hb:bQ ai bH w) (cd:ai<=w.heap.size) (aP:ai<=p) (h:Kept (·=p) w D):bQ ai bH D:=hb.trans (h.below cd (λk K=>by omega))
theorem ajW {c7 pre:List fN} {x:fN} (h:pre++[x]<+:c7) (aC:∀p∈pre,p.bad=ao) (hb:x.bad=ad):c7.find? fN.bad=A x:=by
 obtain⟨t,rfl⟩:=h;rw[Di,List.find?_append];have e:pre.find? fN.bad=T:=by
  rw[aie];intro p aP;rw[aC p aP];decide
 rw[e];simp[hb]
theorem Yu {c7:List fN} (aC:∀p∈c7,p.bad=ao):c7.find? fN.bad=T:=by
 rw[aie];intro p aP;rw[aC p aP];decide
def n6:List (List fN)->Nat->Option (Nat×fN)
 |[],_=>T
 |c7::rest,k=>match c7.find? fN.bad with
  |some p=>A (k,p)
  |none=>n6 rest (k+1)
section
open Go.RowKit Go.Extern.Stop Go.Stop Go.Extern
theorem aj' (t:ac) (w:O):
 aE aa 84 #[nj,t] w λe D=>e=au (aA ao)/\D=w:=by
 go_in;go_wp2;go_ret;exact⟨rfl,rfl⟩
theorem YB (t:cp) (w:O):(ReflectliteValue.unpack (.iface 151 (a6 (A t)))).run aa w
 = .ok (aZ #[a6 (A ⟨1,151,T⟩),a6 (A ⟨w.heap.size,0,T⟩),r j4 150]) (w.alloc (an #[a6 (A t)] 151)):=bq
theorem YC (a:cp) (w:O):(ReflectliteValue.methodAny (ReflectliteValue.valueError "reflectlite.Value.Type" 0) (λt _ _ _=>ReflectliteType.toType t) #[aZ #[a6 (A ⟨1,151,T⟩),a6 (A a),r j4 150]]).run aa w
 = .ok (.iface 339 (aZ #[a6 (A ⟨1,151,T⟩)])) w:=bq
theorem YD (n:Nat) (h:ac) (w:O):(L5 (n+1) 339 (aZ #[h]) "Kind").run aa w= .ok (347,h) w:=bq
theorem YE (w:O):((ReflectliteType.abiMethod λt=>aAW (λa:Nat=>kK aAX (a:Int)) (Rtype.kind t)) #[a6 (A ⟨1,151,T⟩)]).run aa w= .ok (r .u8 22) w:=bq
theorem YF (w:O):((ReflectliteType.abiMethod λt=>aAW (λa:Nat=>kK aAX (a:Int)) (Rtype.kind t)) #[a6 (A ⟨1,107,T⟩)]).run aa w= .ok (r .u8 22) w:=bq
theorem YG (z:Sem ac) (f:cY->cp->Nat->Nat->Sem ac) (v:ac):
 ReflectliteValue.method z f #[v]=(do match<-ReflectliteValue.parts v with|none=>z|some (t,a,aG)=>f t a aG (aG%32)):=rfl
theorem YH (a:cp) (w:O):(ReflectliteValue.parts (aZ #[a6 (A ⟨1,151,T⟩),a6 (A a),r j4 150])).run aa w= .ok (A (151,a,150)) w:=bq
theorem YI (a p:cp) (W:O) (ha:W.cell? a=A (a6 (A p))):
 (ReflectliteValue.method (ReflectliteValue.valueError "reflectlite.Value.IsNil" 0) ReflectliteValue.isNil #[aZ #[a6 (A ⟨1,151,T⟩),a6 (A a),r j4 150]]).run aa W= .ok (aA ao) W:=by
 rw[YG];simp only[Qa,YH,o5];simp[ReflectliteValue.isNil,Xp,isAgg,aig,aAZ,ha,o5]
theorem YJ (n:Nat) (h:ac) (w:O):(L5 (n+1) 339 (aZ #[h]) "Elem").run aa w= .ok (363,aZ #[h]) w:=bq
theorem YK (n:Nat) (h:ac) (w:O):(L5 (n+1) 339 (aZ #[h]) "Implements").run aa w= .ok (364,aZ #[h]) w:=bq
theorem YL (n:Nat) (h:ac) (w:O):(L5 (n+1) 339 (aZ #[h]) "AssignableTo").run aa w= .ok (361,aZ #[h]) w:=bq
theorem YM (w:O):(ReflectliteType.method ReflectliteType.elem #[aZ #[a6 (A ⟨1,151,T⟩)]]).run aa w= .ok (.iface 339 (aZ #[a6 (A ⟨1,107,T⟩)])) w:=bq
theorem YN (w:O):(ReflectliteType.relation "Implements" ReflectliteType.implements_ #[aZ #[a6 (A ⟨1,107,T⟩)],.iface 339 (aZ #[a6 (A ⟨1,35,T⟩)])]).run aa w= .ok (aA ad) w:=bq
theorem YO (v:ac) (w:O):(ReflectliteType.typeOf #[.iface 107 v]).run aa w= .ok (.iface 339 (aZ #[a6 (A ⟨1,107,T⟩)])) w:=bq
theorem YP (w:O):(ReflectliteType.relation "AssignableTo" ReflectliteType.assignableTo #[aZ #[a6 (A ⟨1,107,T⟩)],.iface 339 (aZ #[a6 (A ⟨1,107,T⟩)])]).run aa w= .ok (aA ad) w:=bq
theorem YQ (e:cp) (w:O):(ReflectliteValue.unpack (.iface 107 (a6 (A e)))).run aa w
 = .ok (aZ #[a6 (A ⟨1,107,T⟩),a6 (A ⟨w.heap.size,0,T⟩),r j4 150]) (w.alloc (an #[a6 (A e)] 107)):=bq
theorem aka (w:O):(Rtype.elem? 151).run aa w= .ok (A 107) w:=bq
theorem akb (p:cp) (w:O):(ReflectliteValue.mk 107 p ReflectliteValue.flagAddr).run aa w= .ok (aZ #[a6 (A ⟨1,107,T⟩),a6 (A p),r j4 406]) w:=bq
theorem YR (a p:cp) (W:O) (ha:W.cell? a=A (a6 (A p))):
 (ReflectliteValue.method (ReflectliteValue.valueError "reflectlite.Value.Elem" 0) ReflectliteValue.elem #[aZ #[a6 (A ⟨1,151,T⟩),a6 (A a),r j4 150]]).run aa W
  = .ok (aZ #[a6 (A ⟨1,107,T⟩),a6 (A p),r j4 406]) W:=by
 rw[YG];simp only[Qa,YH,o5];simp[ReflectliteValue.elem,Xp,isAgg,aig,aAZ,ha,o5,aka,akb]
theorem akc (v x:ac):∃s1 fX oM u3 Ry:String,ReflectliteValue.set #[v,x]=(do
 let(A (dst,a,aG),A (src,b,_)):=(<-ReflectliteValue.parts v,<-ReflectliteValue.parts x)
  |unsupported (.noEntry s1)
 if aG/ReflectliteValue.flagAddr%2==0 then unsupported (.noEntry fX)
 let val<-Xp src b
 if<-Rtype.directlyAssignable dst src then Xq dst a val
 else if<-Rtype.implements dst src then
  if(<-Rtype.kind src)==20 then
   match val with
   |nj=>unsupported (.noEntry oM)
   |_=>Xq dst a val
  else Xq dst a (.iface src val)
 else panicString (u3++(<-Rtype.spelt src)++Ry++(<-Rtype.spelt dst))
 pure (b8 #[])):=⟨_,_,_,_,_,rfl⟩
theorem akd (a:cp) (w:O):(ReflectliteValue.parts (aZ #[a6 (A ⟨1,107,T⟩),a6 (A a),r j4 406])).run aa w= .ok (A (107,a,406)) w:=bq
theorem ake (a:cp) (w:O):(ReflectliteValue.parts (aZ #[a6 (A ⟨1,107,T⟩),a6 (A a),r j4 150])).run aa w= .ok (A (107,a,150)) w:=bq
theorem akf (w:O):(Rtype.directlyAssignable 107 107).run aa w= .ok ad w:=bq
theorem YS (gv b e:cp) (rs:ac) (W:O) (hb:W.cell? b=A (a6 (A e))) (ht:W.cell? gv=A rs) (hf:W.frozen? gv=ao):
 (ReflectliteValue.set #[aZ #[a6 (A ⟨1,107,T⟩),a6 (A gv),r j4 406],aZ #[a6 (A ⟨1,107,T⟩),a6 (A b),r j4 150]]).run aa W
  = .ok (b8 #[]) (W.setCell gv (a6 (A e))):=by
 obtain⟨s1,fX,oM,u3,Ry,aB⟩:=akc (aZ #[a6 (A ⟨1,107,T⟩),a6 (A gv),r j4 406]) (aZ #[a6 (A ⟨1,107,T⟩),a6 (A b),r j4 150]);rw[aB];simp only[Qa,akd,ake,o5];simp[ReflectliteValue.flagAddr,Xp,isAgg,aig,underlying107,hb,o5,akf,Xq,P',storeCells,ym];rw[run_store aa W gv _ _ (by rfl)];simp[ht,hf]
end
section
open Go.RowKit Go.Extern.Stop Go.Stop Go.Extern
end
section
attribute [local go_sem] f'
section
def hn:Fence:=lR [83,148,149,150,151,152,153,154,155,156,242,243,244,286] T
theorem F7:hn.round=T:=rfl
theorem IC:hn.depth=T:=rfl
attribute [local go_sem] F7 IC w7
theorem v_.a_ {L:List fN} (h:v_ w v L) (K:bu w D):v_ D v L:=by
 obtain⟨a,cap,e,h1,h2,ap⟩:=h;refine⟨a,cap,e,h1,h2,λi ag=>?_⟩;obtain⟨b,off,cs,t,fr,a8,hb,ah⟩:=ap i ag;exact⟨b,off,cs,t,fr,a8,K.aH hb,ah⟩
theorem ajr (m:Nat) (L e1:Nat) (c7:List fN) (v:ac) (bG:List fN->O->Prop) (mS:List vV->List fN->O->Prop) (sS:∀s W W',bG s W->bQ W.heap.size W W'->bG s W')
 (ei:∀pre x W,bG pre W->pre.length<c7.length->o4 hn (m-1) aa L (Dy x) W λe W'=>
  (e=au (aA ad)/\bG (pre++[x]) W'/\bu W W')\/(∃fp,e= .panicked fp/\mS fp (pre++[x]) W'))
 (W:O) (qg:V W e1 #[v] 336) (qS:v_ W v c7) (h0:bG [] W):
 ge hn m aa 286 #[.func (.yield L) #[] #[],a6 (A ⟨e1,0,T⟩)] W λe W'=>
  (∃v,e=au v/\bG c7 W')\/(∃fp b7,e= .panicked fp/\b7<+:c7/\mS fp b7 W'):=by
 obtain⟨a,cap,rfl,yx,xm,_⟩:=id qS;unfold ff at xm;have aV:=qg.cell 0;change W.cell? ⟨e1,0,T⟩=A (E a c7.length cap) at aV;refine kL ah3 rfl (by simp[hn,lR]) ?_ rfl;simp only[ntmps286,g0,fV,gp,gA,g1,gI,gJ,gK,gL,f1,fW];gi_wp2_with fail;gi_loopw [7] (λi wr=>∃(k:Nat),k<=c7.length/\i=r c k/\v_ wr (E a c7.length cap) c7/\bG (c7.take k) wr) (λi _=>c7.length-(cu i).toNat)
 ·exact⟨0,cQ _,rfl,qS,h0⟩
 ·obtain⟨k,K,rfl,v',ee⟩:=hrel;by_cases a0:k<c7.length
  ·obtain⟨b,off,ha,d0,d1,d2,qd,FV,FW⟩:∃b off,a=A ⟨b,off,T⟩/\wr.cell? ⟨b,off+k*6,T⟩=A (r c c7[k].dO)/\wr.cell? ⟨b,off+k*6+1,T⟩=A (r c c7[k].aG)/\wr.cell? ⟨b,off+k*6+2,T⟩=A (r c c7[k].co)/\wr.cell? ⟨b,off+k*6+3,T⟩=A (r c c7[k].n)/\wr.cell? ⟨b,off+k*6+4,T⟩=A (r c c7[k].am)/\wr.cell? ⟨b,off+k*6+5,T⟩=A (r c c7[k].ag):=by
    obtain⟨fM,nl,e,_,_,ap⟩:=id v';obtain⟨b,off,cs,t,fr,a8,hb,ah⟩:=ap k a0;have en:=(FJ e).1;refine⟨b,off,by rw[en,a8],?_,?_,?_,?_,?_,?_⟩
    ·rw[hb.cell];exact ah 0 _ rfl
    ·rw[hb.cell];exact ah 1 _ rfl
    ·rw[hb.cell];exact ah 2 _ rfl
    ·rw[hb.cell];exact ah 3 _ rfl
    ·rw[hb.cell];exact ah 4 _ rfl
    ·rw[hb.cell];exact ah 5 _ rfl
   subst ha;have fY:c7.take (k+1)=c7.take k++[c7[k]]:=uI a0;have nm:(c7.take k).length<c7.length:=by rw[lS];omega
   have lT:c7.take k++[c7[k]]<+:c7:=by rw[<-fY];exact Qn _ _
   have js:(0:Int)<=k:=G;have mC:(k:Int)<c7.length:=G;obtain⟨x,ak⟩:∃x,x=c7[k]:=⟨_,rfl⟩;rw[<-ak] at d0 d1 d2 qd FV FW fY lT;have zE:=λo=>sS _ _ (wr.alloc o) ee ((bx _ _).alloc (bY _) o);have ID:=λo=>v'.a_ (bu.bg ((bx wr.heap.size wr).alloc (bY _) o));have ju:=I ei;have ld:=I zE;have cj:=I ID;have oJ:=I fY;have zF:=I lT;clear ei zE ID fY lT ak v' ee;gi_wp2_with fail;obtain⟨fn,tmps,assign,body,az,cf⟩:=ju.o _ x _ (ld.o (an #[r c x.dO,r c x.aG,r c x.co,r c x.n,r c x.am,r c x.ag] 240)) nm;unfold Dy at az;rw[az];rw[ah4];refine⟨λh=>(by cases h),?_⟩;refine cf.mono ?_;rintro e dI (⟨rfl,ho,dv⟩|⟨fp,rfl,tT⟩)
   ·have oK:=(cj.o _).a_ dv;have sT:=I oK;have lf:=I ho;clear oK ho dv az cf;gi_wp2_with fail;go_roundw
    ·exact⟨k+1,G,by go_num,sT.o,by rw[oJ.o];exact lf.o⟩
    ·simp[cu];omega
   ·exact⟨rfl,.inr ⟨fp,_,rfl,zF.o,tT⟩⟩
  ·obtain rfl:k=c7.length:=G;rw[v3] at ee;gi_wp2_with fail;go_end0;exact .inl ⟨_,rfl,ee⟩
end
end
section
attribute [local go_sem] f' F7 IC w7
theorem Yf:∀(L:List fN) (i:Nat) (ag:i<L.length) (j:Nat) (u:ac),L[i].cells[j]? =A u->(L.flatMap fN.cells)[i*6+j]? =A u
 |x::L,0,_,j,u,h=>by
  rw[uJ,Qo,jC,Ig]
  ·exact h
  ·have:=(r4.1 h).1;exact this
 |x::L,i+1,ag,j,u,h=>by
  rw[uJ,FK (by show 6<=(i+1)*6+j;omega),show(i+1)*6+j-x.cells.length=i*6+j by show(i+1)*6+j-6=_;omega];exact Yf L i (by simpa using ag) j u h
theorem Rg {L:List fN} (hb:V w g cs t fr) (m9:cs=(L.flatMap fN.cells).toArray) (aw:L.length<=1000):v_ w (E (A ⟨g,0,T⟩) L.length L.length) L:=
 ⟨_,_,rfl,bY _,by unfold ff;omega,λi ag=>⟨g,0,cs,t,fr,rfl,hb,λj u h=>by rw[m9,jC,la];exact Yf L i ag j u h⟩⟩
def mF (w:O) (v:ac) (L:List bd):Prop:=
 ∃(a:Option cp) (cap:Nat),v=E a L.length cap/\L.length<=cap/\cap<=ff/\∀i (h:i<L.length),∃b off cs t fr,a=A ⟨b,off,T⟩/\V w b cs t fr/\cs[off+i*3]? =A (r c L[i].1)/\cs[off+i*3+1]? =A (r c L[i].2.1)/\cs[off+i*3+2]? =A (r c L[i].2.2)
theorem mF.a_ {L:List bd} (h:mF w v L) (K:bu w D):mF D v L:=by
 obtain⟨a,cap,e,h1,h2,ap⟩:=h;refine⟨a,cap,e,h1,h2,λi ag=>?_⟩;obtain⟨b,off,cs,t,fr,a8,hb,ah⟩:=ap i ag;exact⟨b,off,cs,t,fr,a8,K.aH hb,ah⟩
def nn (nodes:Int) (L:List bd):Nat->List fN
 |0=>[]
 |k+1=>nn nodes L k++r9 nodes k (L[k]?.getD (0,0,0))
theorem ajs (nodes:Int) (L:List bd) (k:Nat) (K:k<L.length):nn nodes L (k+1)=nn nodes L k++r9 nodes k L[k]:=by
 show _++r9 nodes k (L[k]?.getD (0,0,0))=_;rw[eA K];rfl
theorem Yg (nodes:Int) (L:List bd) (k:Nat):(nn nodes L k).length=3*k:=by
 induction k with
 |zero=>rfl
 |succ k d4=>show(nn nodes L k++r9 nodes k (L[k]?.getD (0,0,0))).length=_;rw[gW,d4];show 3*k+3=_;omega
theorem ajt (nodes:Int) (L:List bd) (k d:Nat):nn nodes L k<+:nn nodes L (k+d):=by
 induction d with
 |zero=>exact ah5 _
 |succ d d4=>exact d4.trans (LU _ _)
theorem aju (m:Nat) (L cN:Nat) (nodes:Int) (bW bV aN:ac) (c8:List bd) (bG:List fN->O->Prop) (mS:List vV->List fN->O->Prop) (sS:∀s W W',bG s W->bQ W.heap.size W W'->bG s W')
 (ei:∀pre x W,bG pre W->pre.length<3*c8.length->o4 hn (m-1) aa L (Dy x) W λe W'=>
  (e=au (aA ad)/\bG (pre++[x]) W'/\bu W W')\/(∃fp,e= .panicked fp/\mS fp (pre++[x]) W'))
 (W:O) (n3:V W cN #[r c nodes,bW,bV,aN] 31) (qS:mF W aN c8) (h0:bG [] W):
 ge hn m aa 244 #[.func (.yield L) #[] #[],a6 (A ⟨cN,0,T⟩)] W λe W'=>
  (∃v,e=au v/\bG (nn nodes c8 c8.length) W')\/(∃fp b7,e= .panicked fp/\b7<+:nn nodes c8 c8.length/\mS fp b7 W'):=by
 obtain⟨a,cap,rfl,yx,xm,_⟩:=id qS;unfold ff at xm;have bR:=n3.cell 0;have ch:=n3.cell 3;change W.cell? ⟨cN,0,T⟩=A (r c nodes) at bR;change W.cell? ⟨cN,3,T⟩=A (E a c8.length cap) at ch;refine kL ah6 rfl (by simp[hn,lR]) ?_ rfl;simp only[ntmps244,g0,fV,gp,gA,g1,gI,gJ,gK,gL,f1,fW];gi_wp2_with fail;gi_loopw [13] (λi wr=>∃(k:Nat),k<=c8.length/\i=r c k/\mF wr (E a c8.length cap) c8/\bG (nn nodes c8 k) wr) (λi _=>c8.length-(cu i).toNat)
 ·exact⟨0,cQ _,rfl,qS,h0⟩
 ·obtain⟨k,K,rfl,v',ee⟩:=hrel;by_cases a0:k<c8.length
  ·obtain⟨b,off,ha,d0,d1,d2⟩:∃b off,a=A ⟨b,off,T⟩/\wr.cell? ⟨b,off+k*3,T⟩=A (r c c8[k].1)/\wr.cell? ⟨b,off+k*3+1,T⟩=A (r c c8[k].2.1)/\wr.cell? ⟨b,off+k*3+2,T⟩=A (r c c8[k].2.2):=by
    obtain⟨fM,nl,e,_,_,ap⟩:=id v';obtain⟨b,off,cs,t,fr,a8,hb,h0,h1,h2⟩:=ap k a0;have en:=(FJ e).1;refine⟨b,off,by rw[en,a8],?_,?_,?_⟩
    ·rw[hb.cell];exact h0
    ·rw[hb.cell];exact h1
    ·rw[hb.cell];exact h2
   subst ha;have fY:=ajs nodes c8 k a0;have lT:nn nodes c8 (k+1)<+:nn nodes c8 c8.length:=by
    have h:=ajt nodes c8 (k+1) (c8.length-(k+1))
    rwa[show k+1+(c8.length-(k+1))=c8.length by omega] at h
   have hlen:=Yg nodes c8 k;have js:(0:Int)<=k:=G;have mC:(k:Int)<c8.length:=G;obtain⟨x,ak⟩:∃x,x=c8[k]:=⟨_,rfl⟩;rw[<-ak] at d0 d1 d2 fY;obtain⟨cI,dB,hX⟩:=x;simp only at d0 d1 d2;obtain⟨aJ,cK⟩:∃aJ,aJ=(wr.alloc (an #[r c cI,r c dB,r c hX] 57)).alloc (an ((r9 nodes k (cI,dB,hX)).flatMap fN.cells).toArray 240):=⟨_,rfl⟩;have a5:bQ wr.heap.size wr aJ:=by rw[cK];exact((bx _ _).alloc (bY _) _).alloc a3 _
   have oL:v_ aJ (E (A ⟨wr.heap.size+1,0,T⟩) 3 3) (r9 nodes k (cI,dB,hX)):=by
    have hb:V aJ (wr.heap.size+1) ((r9 nodes k (cI,dB,hX)).flatMap fN.cells).toArray 240:=by
     rw[cK];have h:=V.new (wr.alloc (an #[r c cI,r c dB,r c hX] 57)) ((r9 nodes k (cI,dB,hX)).flatMap fN.cells).toArray 240 (0,0)
     rwa[d8] at h
    exact Rg hb rfl (by show 3<=1000;omega)
   have yy:=sS _ _ _ ee a5;have uV:=v'.a_ (bu.bg a5);have ju:=I ei;have ld:=I yy;have cj:=I oL;have dM:=I uV;have oJ:=I fY;have zF:=I lT;have IE:=I hlen;have mc:=I cK;have Rh:=I sS;clear ei yy oL uV fY lT ak v' ee hlen cK a5 sS;gi_wp2_with fail;rw[show((wr.alloc (an #[r c cI,r c dB,r c hX] 57)).alloc (an #[r c k,r c 0,r c 9,r c cI,r c 0,r c nodes,r c k,r c 1,r c 9,r c dB,r c 0,r c nodes,r c k,r c 2,r c 10,r c hX,r c 0,r c 2147483648] 240))=aJ from by rw[mc.o];rfl];obtain⟨g,hg⟩:∃g,g=wr.heap.size:=⟨_,rfl⟩;obtain⟨c7,lc⟩:∃c7,c7=r9 nodes k (cI,dB,hX):=⟨_,rfl⟩;have kB:c7.length=3:=by rw[lc];rfl
   rw[<-lc] at cj oJ;rw[<-hg] at cj;rw[<-hg];clear lc mc d0 d1 d2 hg;gi_loopw [34] (λi wr=>∃(j:Nat),j<=3/\i=r c j/\v_ wr (E (A ⟨g+1,0,T⟩) 3 3) c7/\mF wr (E (A ⟨b,off,T⟩) c8.length cap) c8/\bG (nn nodes c8 k++c7.take j) wr) (λi _=>3-(cu i).toNat)
   ·exact⟨0,cQ _,rfl,cj.o,dM.o,by rw[aAz,yn];exact ld.o⟩
   ·clear cj dM ld;obtain⟨j,av,rfl,v',Dz,ee⟩:=hrel;by_cases Yh:j<3
    ·have Yi:j<c7.length:=G;obtain⟨d0,d1,d2,qd,FV,FW⟩:wr.cell? ⟨g+1,j*6,T⟩=A (r c c7[j].dO)/\wr.cell? ⟨g+1,j*6+1,T⟩=A (r c c7[j].aG)/\wr.cell? ⟨g+1,j*6+2,T⟩=A (r c c7[j].co)/\wr.cell? ⟨g+1,j*6+3,T⟩=A (r c c7[j].n)/\wr.cell? ⟨g+1,j*6+4,T⟩=A (r c c7[j].am)/\wr.cell? ⟨g+1,j*6+5,T⟩=A (r c c7[j].ag):=by
      obtain⟨fM,nl,e,_,_,ap⟩:=id v';obtain⟨qR,My,cs,t,fr,a8,hb,ah⟩:=ap j Yi;have en:=(FJ e).1;rw[a8] at en;simp only[ah0,ah1] at en;obtain⟨rfl,rfl,_⟩:=en;rw[jC] at ah;refine⟨?_,?_,?_,?_,?_,?_⟩
      ·rw[hb.cell];exact ah 0 _ rfl
      ·rw[hb.cell];exact ah 1 _ rfl
      ·rw[hb.cell];exact ah 2 _ rfl
      ·rw[hb.cell];exact ah 3 _ rfl
      ·rw[hb.cell];exact ah 4 _ rfl
      ·rw[hb.cell];exact ah 5 _ rfl
     have hst:c7.take (j+1)=c7.take j++[c7[j]]:=uI Yi;have nm:(nn nodes c8 k++c7.take j).length<3*c8.length:=by rw[gW,IE.o,lS];omega
     have md:(nn nodes c8 k++c7.take j)++[c7[j]]<+:nn nodes c8 c8.length:=by
      rw[Di,<-hst];refine aAA ?_ zF.o;rw[oJ.o];exact(aAB _).2 (Qn _ _)
     have n4:(0:Int)<=j:=G;have rn:(j:Int)<3:=G;obtain⟨x,ak⟩:∃x,x=c7[j]:=⟨_,rfl⟩;rw[<-ak] at d0 d1 d2 qd FV FW hst md;have zE:=λo=>Rh.o _ _ (wr.alloc o) ee ((bx _ _).alloc (bY _) o);have ID:=λo=>v'.a_ (bu.bg ((bx wr.heap.size wr).alloc (bY _) o));have Yj:=λo=>Dz.a_ (bu.bg ((bx wr.heap.size wr).alloc (bY _) o));have ld:=I zE;have cj:=I ID;have dM:=I Yj;have lp:=I hst;have Ri:=I md;clear zE ID Yj hst md ak v' Dz ee;gi_wp2_with fail;obtain⟨fn,tmps,assign,body,az,cf⟩:=ju.o _ x _ (ld.o (an #[r c x.dO,r c x.aG,r c x.co,r c x.n,r c x.am,r c x.ag] 240)) nm;unfold Dy at az;rw[az];rw[ah4];refine⟨λh=>(by cases h),?_⟩;refine cf.mono ?_;rintro e dI (⟨rfl,ho,dv⟩|⟨fp,rfl,tT⟩)
     ·have sT:=I ((cj.o _).a_ dv);have Rj:=I ((dM.o _).a_ dv);have lf:=I ho;clear ho dv az cf;gi_wp2_with fail;go_roundw
      ·exact⟨j+1,G,by go_num,sT.o,Rj.o,by rw[lp.o,<-Di];exact lf.o⟩
      ·simp[cu];omega
     ·exact⟨rfl,.inr ⟨fp,_,rfl,Ri.o,tT⟩⟩
    ·obtain rfl:j=3:=G;have IF:bG (nn nodes c8 (k+1)) wr:=by
      rw[oJ.o];rw[Qp G] at ee;exact ee
     have F8:=I IF;have ajv:=I Dz;clear ee IF Dz v';gi_wp2_with fail;go_roundw
     ·exact⟨k+1,G,by go_num,ajv.o,F8.o⟩
     ·simp[cu];omega
  ·obtain rfl:k=c8.length:=G;gi_wp2_with fail;go_end0;exact .inl ⟨_,rfl,ee⟩
end
section
attribute [local go_sem] f' F7 IC w7
def cR (w:O) (v:ac) (L:List Int):Prop:=
 ∃(a:Option cp) (cap:Nat),v=E a L.length cap/\L.length<=cap/\cap<=ff/\∀i (h:i<L.length),∃b off cs t fr,a=A ⟨b,off,T⟩/\V w b cs t fr/\cs[off+i]? =A (r c L[i])
theorem cR.a_ {L:List Int} (h:cR w v L) (K:bu w D):cR D v L:=by
 obtain⟨a,cap,e,h1,h2,ap⟩:=h;refine⟨a,cap,e,h1,h2,λi ag=>?_⟩;obtain⟨b,off,cs,t,fr,a8,hb,ah⟩:=ap i ag;exact⟨b,off,cs,t,fr,a8,K.aH hb,ah⟩
theorem cR.at {a:Option cp} {n:Nat} {L:List Int} (h:cR w (E a n cap) L) (k:Nat) (K:k<L.length):∃b off,a=A ⟨b,off,T⟩/\w.cell? ⟨b,off+k,T⟩=A (r c L[k]):=by
 obtain⟨fM,nl,e,_,_,ap⟩:=h;obtain⟨b,off,cs,t,fr,a8,hb,ah⟩:=ap k K;have en:=(FJ e).1;exact⟨b,off,by rw[en,a8],by rw[hb.cell];exact ah⟩
def no (X Y:List Int):Nat->List fN
 |0=>[]
 |k+1=>no X Y k++sR k (X[k]?.getD 0,Y[k]?.getD 0)
theorem ajw (X Y:List Int) (k:Nat) (ak:k<X.length) (az:k<Y.length):no X Y (k+1)=no X Y k++sR k (X[k],Y[k]):=by
 show _++sR k (X[k]?.getD 0,Y[k]?.getD 0)=_;rw[eA ak,eA az];rfl
theorem Yk (X Y:List Int) (k:Nat):(no X Y k).length=2*k:=by
 induction k with
 |zero=>rfl
 |succ k d4=>show(no X Y k++sR k (X[k]?.getD 0,Y[k]?.getD 0)).length=_;rw[gW,d4];show 2*k+2=_;omega
theorem ajx (X Y:List Int) (k d:Nat):no X Y k<+:no X Y (k+d):=by
 induction d with
 |zero=>exact ah5 _
 |succ d d4=>exact d4.trans (LU _ _)
theorem ajy (m:Nat) (L cN:Nat) (nodes:Int) (bW bV aN:ac) (X Y:List Int) (bG:List fN->O->Prop) (mS:List vV->List fN->O->Prop) (sS:∀s W W',bG s W->bQ W.heap.size W W'->bG s W')
 (ei:∀pre x W,bG pre W->pre.length<2*X.length->o4 hn (m-1) aa L (Dy x) W λe W'=>
  (e=au (aA ad)/\bG (pre++[x]) W'/\bu W W')\/(∃fp,e= .panicked fp/\mS fp (pre++[x]) W'))
 (W:O) (n3:V W cN #[r c nodes,bW,bV,aN] 31) (zG:cR W bW X) (ro:cR W bV Y) (aw:X.length=Y.length) (h0:bG [] W):
 ge hn m aa 243 #[.func (.yield L) #[] #[],a6 (A ⟨cN,0,T⟩)] W λe W'=>
  (∃v,e=au v/\bG (no X Y X.length) W')\/(∃fp b7,e= .panicked fp/\b7<+:no X Y X.length/\mS fp b7 W'):=by
 obtain⟨jE,jF,rfl,MA,xm,_⟩:=id zG;obtain⟨jS,lU,rfl,sU,ajz,_⟩:=id ro;unfold ff at xm ajz;have fG:=I aw;clear aw;have aV:=n3.cell 1;change W.cell? ⟨cN,1,T⟩=A (E jE X.length jF) at aV;refine kL ah7 rfl (by simp[hn,lR]) ?_ rfl;simp only[ntmps243,g0,fV,gp,gA,g1,gI,gJ,gK,gL,f1,fW];gi_wp2_with fail;gi_loopw [9] (λi wr=>∃(k:Nat),k<=X.length/\i=r c k/\V wr cN #[r c nodes,E jE X.length jF,E jS Y.length lU,aN] 31 (0,0)/\cR wr (E jE X.length jF) X/\cR wr (E jS Y.length lU) Y/\bG (no X Y k) wr) (λi _=>X.length-(cu i).toNat)
 ·exact⟨0,cQ _,rfl,n3,zG,ro,h0⟩
 ·obtain⟨k,K,rfl,o_,Bq,Br,ee⟩:=hrel;by_cases a0:k<X.length
  ·have Rk:k<Y.length:=bI fG.o;obtain⟨ib,m_,rfl,MB⟩:=Bq.at k a0;obtain⟨Rl,nK,rfl,IG⟩:=Br.at k Rk;have br:=o_.cell 1;have a4:=o_.cell 2;change wr.cell? ⟨cN,1,T⟩=A (E (A ⟨ib,m_,T⟩) X.length jF) at br;change wr.cell? ⟨cN,2,T⟩=A (E (A ⟨Rl,nK,T⟩) Y.length lU) at a4;have fY:=ajw X Y k a0 Rk;have lT:no X Y (k+1)<+:no X Y X.length:=by
    have h:=ajx X Y (k+1) (X.length-(k+1))
    rwa[show k+1+(X.length-(k+1))=X.length by omega] at h
   have hlen:=Yk X Y k;have js:(0:Int)<=k:=G;have mC:(k:Int)<X.length:=G;have xc:(k:Int)<Y.length:=G;obtain⟨x,ak⟩:∃x,x=X[k]:=⟨_,rfl⟩;obtain⟨y,az⟩:∃y,y=Y[k]:=⟨_,rfl⟩;rw[<-ak] at MB fY;rw[<-az] at IG fY;clear ak az;have uW:=I o_;have Yl:=I Bq;have Ym:=I Br;have Yn:=I ee;have oJ:=I fY;have zF:=I lT;have IE:=I hlen;have ju:=I ei;have Rh:=I sS;clear o_ Bq Br ee fY lT hlen ei sS;gi_wp2_with fail
   gi_region
   obtain⟨aJ,cK⟩:∃aJ,aJ=(wr.alloc (an #[r c x,r c y] 2)).drew:=⟨_,rfl⟩;rw[<-cK];obtain⟨g,hg⟩:∃g,g=wr.heap.size:=⟨_,rfl⟩;rw[<-hg];have a5:bQ wr.heap.size wr aJ:=by rw[cK];exact((bx _ _).alloc (bY _) _).drew
   have Rm:V aJ g #[r c x,r c y] 2:=by rw[cK,hg];exact(V.new _ _ _ _:V (wr.alloc (an #[r c x,r c y] 2)) wr.heap.size _ _ _)
   have bP:=I ((bu.bg a5).aH uW.o);have e7:=I (Yl.o.a_ (bu.bg a5));have MC:=I (Ym.o.a_ (bu.bg a5));have ld:=I (Rh.o _ _ _ Yn.o a5);have HG:=I Rm;clear a5 Rm cK hg uW Yl Ym Yn MB IG br a4;gi_wp2_with fail;gi_loopw [24] (λi wr=>∃(j:Nat),j<=2/\i=r c j/\V wr g #[r c x,r c y] 2 (0,0)/\V wr cN #[r c nodes,E (A ⟨ib,m_,T⟩) X.length jF,E (A ⟨Rl,nK,T⟩) Y.length lU,aN] 31 (0,0)/\cR wr (E (A ⟨ib,m_,T⟩) X.length jF) X/\cR wr (E (A ⟨Rl,nK,T⟩) Y.length lU) Y/\bG (no X Y k++(sR k (x,y)).take j) wr) (λi _=>2-(cu i).toNat)
   ·exact⟨0,cQ _,rfl,HG.o,bP.o,e7.o,MC.o,by rw[aAz,yn];exact ld.o⟩
   ·clear HG bP e7 MC ld;obtain⟨j,av,rfl,yz,o_,Bq,Br,ee⟩:=hrel;by_cases rp:j<2
    ·obtain⟨z,b5,hst⟩:∃z,wr.cell? ⟨g,j,T⟩=A (r c z)/\(sR k (x,y)).take (j+1)=(sR k (x,y)).take j++[(⟨k,j,7,z,-2147483648,2147483648⟩:fN)]:=by
      have ajA:j=0\/j=1:=G;rcases ajA with rfl|rfl
      ·exact⟨x,by rw[yz.cell];rfl,rfl⟩
      ·exact⟨y,by rw[yz.cell];rfl,rfl⟩
     have nm:(no X Y k++(sR k (x,y)).take j).length<2*X.length:=by
      rw[gW,IE.o,lS];omega
     have md:(no X Y k++(sR k (x,y)).take j)++[(⟨k,j,7,z,-2147483648,2147483648⟩:fN)]<+:no X Y X.length:=by
      rw[Di,<-hst];refine aAA ?_ zF.o;rw[oJ.o];exact(aAB _).2 (Qn _ _)
     have n4:(0:Int)<=j:=G;have rn:(j:Int)<2:=G;have HG:=I yz;have bP:=I o_;have e7:=I Bq;have MC:=I Br;have ld:=I ee;have lp:=I hst;have Ri:=I md;clear yz o_ Bq Br ee hst md;gi_wp2_with fail;obtain⟨fn,tmps,assign,body,az,cf⟩:=ju.o _ ⟨k,j,7,z,-2147483648,2147483648⟩ _ ld.o nm;unfold Dy at az;rw[az];rw[ah4];refine⟨λh=>(by cases h),?_⟩;refine cf.mono ?_;rintro e dI (⟨rfl,ho,dv⟩|⟨fp,rfl,tT⟩)
     ·have ajB:=I (dv.aH HG.o);have dh:=I (dv.aH bP.o);have MD:=I (e7.o.a_ dv);have ajC:=I (MC.o.a_ dv);have lf:=I ho;clear ho dv az cf b5;gi_wp2_with fail;go_roundw
      ·exact⟨j+1,G,by go_num,ajB.o,dh.o,MD.o,ajC.o,by rw[lp.o,<-Di];exact lf.o⟩
      ·simp[cu];omega
     ·exact⟨rfl,.inr ⟨fp,_,rfl,Ri.o,tT⟩⟩
    ·obtain rfl:j=2:=G;have IF:bG (no X Y (k+1)) wr:=by
      rw[oJ.o];exact ee
     have F8:=I IF;have ajD:=I o_;have Rn:=I Bq;have ajE:=I Br;clear ee IF yz o_ Bq Br;gi_wp2_with fail;go_roundw
     ·exact⟨k+1,G,by go_num,ajD.o,Rn.o,ajE.o,F8.o⟩
     ·simp[cu];omega
  ·obtain rfl:k=X.length:=G;gi_wp2_with fail;go_end0;exact .inl ⟨_,rfl,ee⟩
end
def nL (a:bd):List ac:=[r c a.1,r c a.2.1,r c a.2.2]
def ec (x:Int):List ac:=[r c x]
theorem IH (m:Nat) (f:ep->List ac) (hf:∀x,(f x).length=m):∀(l:List ep) (i d:Nat),d<m->(l.flatMap f)[i*m+d]? =(l[i]?).bind λx=>(f x)[d]? :=by
 intro l
 induction l with
 |nil=>intro i d _;simp
 |cons x l d4=>
  intro i d a9;rw[uJ];cases i with
  |zero=>rw[Qo,jC,Ig (by rw[hf];exact a9)];rfl
  |succ i=>
   rw[FK (by rw[hf,LW];omega),hf,show(i+1)*m+d-m=i*m+d by rw[LW];omega,d4 i d a9];simp
theorem F9 (m:Nat) (f:ep->List ac) (hf:∀x,(f x).length=m) (l:List ep):(l.flatMap f).length=l.length*m:=by
 induction l with
 |nil=>simp
 |cons x l d4=>rw[uJ,gW,hf,d4,fV,LW];omega
theorem Bs (x:Int):(ec x).length=1:=rfl
theorem F_ (x:bd):(nL x).length=3:=rfl
def r_ (k:Nat) (w:O) (v:ac) (n:Nat) (b7:List ac):Prop:=
 b7.length=n*k/\(∀u∈b7,u.oneCell'=ad)/\∃a cap,v=E a n cap/\n<=cap/\cap<=ff/\∀j u,b7[j]? =A u->∃b off,a=A ⟨b,off,T⟩/\w.cell? ⟨b,off+j,T⟩=A u
theorem cR.row {L:List Int} (h:cR w v L):r_ 1 w v L.length (L.flatMap ec):=by
 obtain⟨a,cap,rfl,h1,h2,ap⟩:=h;refine⟨F9 1 ec Bs L,λu Z=>?_,a,cap,rfl,h1,h2,λj u Z=>?_⟩
 ·obtain⟨x,_,ak⟩:=Xk.1 Z;obtain rfl:=f2.1 ak;rfl
 ·have e:=IH 1 ec Bs L j 0 G;rw[FH,uH,Z] at e;have av:j<L.length:=by
   rcases sJ j L.length with h|h
   ·exact h
   ·rw[yo h] at e;cases e
  rw[eA av] at e;obtain rfl:u=r c L[j]:=eT e;obtain⟨b,off,cs,t,fr,a8,hb,ah⟩:=ap j av;exact⟨b,off,a8,by rw[hb.cell];exact ah⟩
theorem mF.row {L:List bd} (h:mF w v L):r_ 3 w v L.length (L.flatMap nL):=by
 obtain⟨a,cap,rfl,h1,h2,ap⟩:=h;refine⟨F9 3 nL F_ L,λu Z=>?_,a,cap,rfl,h1,h2,λj u Z=>?_⟩
 ·obtain⟨x,_,ak⟩:=Xk.1 Z;simp only[nL,gg,iS,or_false] at ak;rcases ak with rfl|rfl|rfl<;>rfl
 ·have pH:=(r4.1 Z).1;rw[F9 3 nL F_ L] at pH;obtain⟨i,d,rfl,a9⟩:∃i d,j=i*3+d/\d<3:=⟨j/3,j%3,G,G⟩;have ag:i<L.length:=G;rw[IH 3 nL F_ L i d a9,eA ag] at Z;obtain⟨b,off,cs,t,fr,a8,hb,bR,aV,bb⟩:=ap i ag;refine⟨b,off,a8,?_⟩;rw[hb.cell,<-Z]
  match d,a9 with
  |0,_=>exact bR
  |1,_=>exact aV
  |2,_=>exact bb
theorem jv {n:Nat} {L:List Int} (aC:L.length=n) (h:w.ownsRow base e 1 v n (L.flatMap ec)):cR w v L:=by
 subst aC;rcases id h.2 with⟨aK,h0⟩|⟨g,cap,cur,aK,h1,h2,ap,bl,_⟩
 ·exact⟨T,0,by rw[aK,h0],G,cQ _,λi ag=>by omega⟩
 ·subst aK;refine⟨_,cap,rfl,ap,bl,λi ag=>⟨g,0,cur,_,_,rfl,h2,?_⟩⟩;have cL:=h.cellAt i (bI h.1);have e:=IH 1 ec Bs L i 0 G;rw[FH,uH] at e;rw[e,eA ag,(show V w g cur _ _ from h2).cell] at cL;rw[jC];exact cL
theorem II {n:Nat} {L:List bd} (aC:L.length=n) (h:w.ownsRow base e 3 v n (L.flatMap nL)):mF w v L:=by
 subst aC;rcases id h.2 with⟨aK,h0⟩|⟨g,cap,cur,aK,h1,h2,ap,bl,_⟩
 ·exact⟨T,0,by rw[aK,h0],G,cQ _,λi ag=>by omega⟩
 ·subst aK;have ah:∀i (ag:i<L.length) d,d<3->cur[0+i*3+d]? =(nL L[i])[d]? :=λi ag d a9=>by
   have cL:=h.cellAt (i*3+d) (bI h.1);rw[IH 3 nL F_ L i d a9,eA ag,(show V w g cur _ _ from h2).cell] at cL;rw[jC];exact cL
  exact⟨_,cap,rfl,ap,bl,λi ag=>⟨g,0,cur,_,_,rfl,h2,ah i ag 0 G,ah i ag 1 G,ah i ag 2 G⟩⟩
theorem tU (base:Nat) (t kp e:cY) (i:TypeInfo) (z:ac) (size bytes:Nat) (ht:P.underlying t=A (.slice e)) (ag:P.info? e=A i) (b5:i.zero=A z)
 (ajG:i.size=size) (xn:i.bytes=bytes) (ajH:z.cells.size=size) (hP:0<size) (v:ac) (n:Nat) (b7:List ac) (fZ:w.ownsRow base e size v n b7)
 (src:ac) (m:Nat) (news:List ac) (aB:r_ size w src m news) (ajI:n+m<=ff) (ajJ:(n+m)*bytes<=140737488355328) (qh:base<=w.heap.size):
 ∃ca D,(qN #[t,t] kp #[v,src]).run P w= .ok ca D/\D.ownsRow base e size ca (n+m) (b7++news)/\w.grownBy D v.ownBlock/\(ca.ownBlock=v.ownBlock\/ca.ownBlock=A w.heap.size)/\(v≠E T 0 0->ca≠E T 0 0):=by
 obtain⟨aw,h1,a,cap,rfl,pI,yA,sQ⟩:=aB;cases a with
 |some xl=>
  obtain⟨ca,D,ar,h2,ap,bl,cL⟩:=run_append_own_at (P:=P) w base t kp e i z size bytes ht ag b5 ajG xn ajH hP v n b7 fZ xl m cap news aw (λj u Z=>by
   obtain⟨b,off,a8,ah⟩:=sQ j u Z;obtain rfl:=eT a8;have:(⟨b,off,T⟩:cp).add j=⟨b,off+j,T⟩:=by unfold ym;split<;>simp_all
   rw[this];exact ah) h1 ajI ajJ qh
  exact⟨ca,D,ar,h2,ap,cL,λaK rq=>aK (bl.1 rq).1⟩
 |none=>
  have r':news=[]:=by
   cases news with
   |nil=>rfl
   |cons u aMq=>obtain⟨b,off,e,_⟩:=sQ 0 u rfl;cases e
  subst r';have hm:m=0:=by
   rcases Qq m with h|h
   ·exact h
   ·have:=Nat.mul_pos h hP;simp at aw;omega
  subst hm;rcases id fZ.2 with⟨aK,h0⟩|⟨g,R,cur,aK,Rm,hg,IJ,lq,m9,aCM⟩
  ·subst aK h0;refine⟨E T 0 0,w,?_,by simpa using fZ,⟨rfl,rfl,rfl,bY _,λ_ _ _=>rfl⟩,.inl rfl,λh=>(h rfl).elim⟩;have aB:=Src.ofNil (P:=P) w (size:=i.size) (tx:=t) ht cap;simp[qN,v4 ht,sizeOf,typeInfo,ag,aB.len,aB.cells]
  ·subst aK;have ar:=run_append_room_src (P:=P) w t t kp e i ht ag g 0 n R (E T 0 cap) 0 [] (Src.ofNil w ht cap) G (λj av=>by simp at av) (λj av=>by simp at av);exact⟨_,_,ar,by simpa [World.setCells] using fZ,⟨rfl,rfl,rfl,bY _,λ_ _ _=>rfl⟩,.inl rfl,λ_ h=>by cases h⟩
theorem Rp (w:O) (base:Nat) (e:cY) (size:Nat) (h:base<=w.heap.size):(w.alloc (an #[] e)).ownsRow base e size (E (A ⟨w.heap.size,0,T⟩) 0 0) 0 []:=
 ⟨a3,.inr ⟨_,0,_,rfl,h,ahP w _,bY _,cQ _,a3,a3⟩⟩
theorem Rq:(prog.info? 2).map (λi=>(i.zero,i.size,i.bytes))=A (A (r c 0),1,8):=bq
theorem Yo:(prog.info? 57).map (λi=>(i.zero,i.size,i.bytes))=A (A (aZ #[r c 0,r c 0,r c 0]),3,24):=bq
theorem ME (v:ac) (L:List Int) (w:O) (h:cR w v L) (aw:L.length<=1000000000000):aE aa 80 #[v] w λe D=>∃ca,e=au ca/\D.ownsRow w.heap.size 2 1 ca L.length (L.flatMap ec)/\bQ w.heap.size w D:=by
 obtain⟨eP,ag,fL,gi,gt⟩:=m6 Rq;have aB:=h.row;obtain⟨a,cap,rfl,pI,yA,ap⟩:=h;cases a with
 |none=>
  have h0:L=[]:=by
   cases L with
   |nil=>rfl
   |cons x L=>obtain⟨_,_,_,_,_,e,_⟩:=ap 0 a3;cases e
  subst h0;have aC:=λw=>LX (P:=aa) w 28 2 T 0 cap 0 0 v5;simp only[gp];clear aB ap;go_in;go_wp2;go_ret;exact⟨_,rfl,oG _ _ _ _,bx _ _⟩
 |some xl=>
  have aC:=λw=>LX (P:=aa) w 28 2 (A xl) L.length cap 0 0 v5;have hb:=(bx w.heap.size w).alloc (bY _) (an #[] 2);have g4:r_ 1 (w.alloc (an #[] 2)) (E (A xl) L.length cap) L.length (L.flatMap ec):=by
   obtain⟨q1,q2,a,R,e,bm,cZ,ek⟩:=aB;refine⟨q1,q2,a,R,e,bm,cZ,λj u Z=>?_⟩;obtain⟨b,off,a8,ah⟩:=ek j u Z;exact⟨b,off,a8,mP hb ah⟩
  obtain⟨ca,D,ar,fZ,hg,_⟩:=tU (P:=aa) w.heap.size 28 28 2 eP _ 1 8 v5 ag fL gi gt rfl G _ 0 [] (Rp w w.heap.size 2 1 (bY _)) _ L.length _ g4 (by unfold ff;omega) G a3;have fi:bQ w.heap.size w D:=⟨hg.os,hg.tape,hg.output,by have:=hg.size;simp at this;omega,λk K=>(hg.block k (by simp;omega) (by simp[A9];omega)).trans (px w _ k K)⟩;have bP:=I fi;have eH:=I fZ;have cW:=I ar;clear aB ap hb g4 fZ hg fi ar;go_in;go_wp2_with(at_builtin;refine uX rfl _ _ _ _ rfl cW.o ?_)
  go_ret;exact⟨_,rfl,by simpa using eH.o,bP.o⟩
theorem Yp (v:ac) (L:List bd) (w:O) (h:mF w v L) (aw:L.length<=1000000000000):aE aa 81 #[v] w λe D=>∃ca,e=au ca/\D.ownsRow w.heap.size 57 3 ca L.length (L.flatMap nL)/\bQ w.heap.size w D:=by
 obtain⟨eP,ag,fL,gi,gt⟩:=m6 Yo;have aB:=h.row;obtain⟨a,cap,rfl,pI,yA,ap⟩:=h;cases a with
 |none=>
  have h0:L=[]:=by
   cases L with
   |nil=>rfl
   |cons x L=>obtain⟨_,_,_,_,_,e,_⟩:=ap 0 a3;cases e
  subst h0;have aC:=λw=>LX (P:=aa) w 29 57 T 0 cap 0 0 Xl;simp only[gp];clear aB ap;go_in;go_wp2;go_ret;exact⟨_,rfl,oG _ _ _ _,bx _ _⟩
 |some xl=>
  have aC:=λw=>LX (P:=aa) w 29 57 (A xl) L.length cap 0 0 Xl;have hb:=(bx w.heap.size w).alloc (bY _) (an #[] 57);have g4:r_ 3 (w.alloc (an #[] 57)) (E (A xl) L.length cap) L.length (L.flatMap nL):=by
   obtain⟨q1,q2,a,R,e,bm,cZ,ek⟩:=aB;refine⟨q1,q2,a,R,e,bm,cZ,λj u Z=>?_⟩;obtain⟨b,off,a8,ah⟩:=ek j u Z;exact⟨b,off,a8,mP hb ah⟩
  obtain⟨ca,D,ar,fZ,hg,_⟩:=tU (P:=aa) w.heap.size 29 29 57 eP _ 3 24 Xl ag fL gi gt rfl G _ 0 [] (Rp w w.heap.size 57 3 (bY _)) _ L.length _ g4 (by unfold ff;omega) G a3;have fi:bQ w.heap.size w D:=⟨hg.os,hg.tape,hg.output,by have:=hg.size;simp at this;omega,λk K=>(hg.block k (by simp;omega) (by simp[A9];omega)).trans (px w _ k K)⟩;have bP:=I fi;have eH:=I fZ;have cW:=I ar;clear aB ap hb g4 fZ hg fi ar;go_in;go_wp2_with(at_builtin;refine uX rfl _ _ _ _ rfl cW.o ?_)
  go_ret;exact⟨_,rfl,by simpa using eH.o,bP.o⟩
theorem cR.form {L:List Int} (h:cR w v L):∃a n R,v=E a n R:=by obtain⟨a,R,e,_⟩:=h;exact⟨_,_,_,e⟩
theorem mF.form {L:List bd} (h:mF w v L):∃a n R,v=E a n R:=by obtain⟨a,R,e,_⟩:=h;exact⟨_,_,_,e⟩
theorem _root_.Go.World.ownsRow.ic {size:Nat} {n:Nat} (h:w.ownsRow base e size v n b7):∃a n R,v=E a n R:=by
 rcases h.2 with⟨h,_⟩|⟨g,cap,cur,h,_⟩
 ·exact⟨_,_,_,h⟩
 ·exact⟨_,_,_,h⟩
theorem n5 {Yq:Nat} {size:Nat} {n:Nat} (h:w.ownsRow Yq e size v n b7) (hb:base<=Yq):w.ownsRow base e size v n b7:=
 ⟨h.1,h.2.imp id λ⟨g,cap,cur,h1,h2,ap⟩=>⟨g,cap,cur,h1,cM hb h2,ap⟩⟩
theorem di {size:Nat} {n:Nat} (h:w.ownsRow base e size v n b7) (hg:v.ownBlock=A g):base<=g/\∃cur,V w g cur e:=by
 rcases h.2 with⟨rfl,_⟩|⟨qi,cap,cur,rfl,h1,h2,_⟩
 ·cases hg
 ·obtain rfl:qi=g:=by simpa [A9] using hg
  exact⟨h1,cur,h2⟩
theorem fB {size:Nat} {n:Nat} (h:w.ownsRow base e size v n b7) (hb:∀k,v.ownBlock=A k->D.heap[k]? =w.heap[k]?):D.ownsRow base e size v n b7:=by
 refine⟨h.1,?_⟩;rcases h.2 with h0|⟨g,cap,cur,rfl,h1,h2,ap⟩
 ·exact .inl h0
 ·exact .inr ⟨g,cap,cur,rfl,h1,(hb g (by simp[A9])).trans h2,ap⟩
theorem o' {size:Nat} {n:Nat} (h:w.ownsRow base e size v n b7) (hb:bQ w.heap.size w D):D.ownsRow base e size v n b7:=
 fB h λ_ K=>hb.block _ (di h K).2.choose_spec.lt
def uZ (w:O) (v:ac) (U:Raw):Prop:=∃bW bV aN,v=aZ #[r c U.nodes,bW,bV,aN]/\cR w bW U.X/\cR w bV U.Y/\mF w aN U.arcs
def qT (base:Nat) (w:O) (v:ac) (U:Raw):Prop:=
 ∃bW bV aN,v=aZ #[r c U.nodes,bW,bV,aN]/\w.ownsRow base 2 1 bW U.X.length (U.X.flatMap ec)/\w.ownsRow base 2 1 bV U.Y.length (U.Y.flatMap ec)/\w.ownsRow base 57 3 aN U.arcs.length (U.arcs.flatMap nL)/\(∀b,bW.ownBlock=A b->bV.ownBlock=A b->False)
theorem qT.raw {U:Raw} (h:qT base w v U):uZ w v U:=by
 obtain⟨bW,bV,aN,e,h1,h2,ap,_⟩:=h;exact⟨bW,bV,aN,e,jv rfl h1,jv rfl h2,II rfl ap⟩
theorem uZ.below {U:Raw} (h:uZ w v U) (hb:bQ w.heap.size w D):uZ D v U:=by
 obtain⟨bW,bV,aN,e,h1,h2,ap⟩:=h;have K:=bu.bg hb;exact⟨bW,bV,aN,e,h1.a_ K,h2.a_ K,ap.a_ K⟩
def Raw.dR (U:Raw):Prop:=U.X.length<=1000000000000/\U.Y.length<=1000000000000/\U.arcs.length<=1000000000000
def sV (base:Nat) (w:O) (bW bV aN:ac) (U:Raw):Prop:=w.ownsRow base 2 1 bW U.X.length (U.X.flatMap ec)/\w.ownsRow base 2 1 bV U.Y.length (U.Y.flatMap ec)/\w.ownsRow base 57 3 aN U.arcs.length (U.arcs.flatMap nL)/\(∀b,bW.ownBlock=A b->bV.ownBlock=A b->False)
theorem zH {size:Nat} {n:Nat} (h:w.ownsRow base e size v n b7) {p:cp} (hb:V w p.block cs t fr) (ht:t≠e) (x:ac):(w.setCell p x).ownsRow base e size v n b7:=
 fB h λk K=>d7 _ _ _ _ (λe=>by
  subst e;obtain⟨_,cur,ah⟩:=di h K;have a4:=(show w.heap[p.block]? =A _ from hb).symm.trans (show w.heap[p.block]? =A _ from ah);cases a4;exact ht rfl)
theorem sV.set {U:Raw} (h:sV base w bW bV aN U) {p:cp} (hb:V w p.block cs t fr) (h1:t≠2) (h2:t≠57) (x:ac):sV base (w.setCell p x) bW bV aN U:=
 ⟨zH h.1 hb h1 x,zH h.2.1 hb h1 x,zH h.2.2.1 hb h2 x,h.2.2.2⟩
theorem Yr {U:Raw} (h1:w.ownsRow base 2 1 bW U.X.length (U.X.flatMap ec)) (h2:w.ownsRow base 2 1 bV U.Y.length (U.Y.flatMap ec)) (ap:w.ownsRow base 57 3 aN U.arcs.length (U.arcs.flatMap nL)) (bl:∀b,bW.ownBlock=A b->bV.ownBlock=A b->False):sV base w bW bV aN U:=⟨h1,h2,ap,bl⟩
theorem mF.at {a:Option cp} {n:Nat} {L:List bd} (h:mF w (E a n cap) L) (k:Nat) (K:k<L.length):∃b off,a=A ⟨b,off,T⟩/\w.cell? ⟨b,off+k*3,T⟩=A (r c L[k].1)/\w.cell? ⟨b,off+k*3+1,T⟩=A (r c L[k].2.1)/\w.cell? ⟨b,off+k*3+2,T⟩=A (r c L[k].2.2):=by
 obtain⟨fM,nl,e,_,_,ap⟩:=h;obtain⟨b,off,cs,t,fr,a8,hb,bR,aV,bb⟩:=ap k K;have en:=(FJ e).1;exact⟨b,off,by rw[en,a8],by rw[hb.cell];exact bR,by rw[hb.cell];exact aV,by rw[hb.cell];exact bb⟩
structure lV (ay:O) (b6:Nat) (bW bV aN:ac) (U:Raw) (W:O):Prop where
 aH:V W b6 #[r c U.nodes,bW,bV,aN] 31
 own:sV ay.heap.size W bW bV aN U
 kept:Kept (·=b6) ay W
theorem sV.below {U:Raw} (h:sV base w bW bV aN U) (hb:bQ w.heap.size w D):sV base D bW bV aN U:=
 ⟨o' h.1 hb,o' h.2.1 hb,o' h.2.2.1 hb,h.2.2.2⟩
theorem lV.below {U:Raw} (h:lV ay b6 bW bV aN U W) (hb:bQ W.heap.size W W'):lV ay b6 bW bV aN U W':=
 ⟨h.aH.aq hb,h.own.below hb,⟨hb.os.trans h.kept.os,hb.tape.trans h.kept.tape,hb.output.trans h.kept.output,cM h.kept.size hb.size,λk K aB=>(hb.block k (jP K h.kept.size)).trans (h.kept.block k K aB)⟩⟩
theorem lV.ajK {U:Raw} {x:Int} (h:lV ay b6 bW bV aN U W) (cd:V W ai (ec x).toArray t fr) (aw:U.X.length<=1000000):
 ∃ca W',(qN #[28,28] 28 #[bW,E (A ⟨ai,0,T⟩) 1 1]).run aa W= .ok ca W'/\(∃a n R,ca=E a n R)/\V W' b6 #[r c U.nodes,bW,bV,aN] 31 (0,0)/\W.grownBy W' bW.ownBlock/\lV ay b6 ca bV aN {U with X:=U.X++[x]} (W'.setCell ⟨b6,1,T⟩ ca):=by
 obtain⟨eP,ag,fL,gi,gt⟩:=m6 Rq;have qh:=h.kept.size;have aB:r_ 1 W (E (A ⟨ai,0,T⟩) 1 1) 1 (ec x):=⟨Bs x,λu Z=>by simp only[ec,gg,iS,or_false] at Z;rw[Z];rfl,_,1,rfl,bY _,by unfold ff;omega,λj u Z=>⟨ai,0,rfl,by rw[jC,cd.cell,la];exact Z⟩⟩;obtain⟨ca,W',ar,fZ,hg,gP,_⟩:=tU (P:=aa) ay.heap.size 28 28 2 eP _ 1 8 v5 ag fL gi gt rfl G bW U.X.length _ h.own.1 _ 1 _ aB (by unfold ff;omega) G qh;have sa:A b6≠bW.ownBlock:=λe=>by
  obtain⟨_,bb,q2⟩:=di h.own.1 e.symm;have a4:=(show W.heap[b6]? =A _ from h.aH).symm.trans (show W.heap[b6]? =A _ from q2);cases a4
 have xo:V W' b6 #[r c U.nodes,bW,bV,aN] 31:=(hg.block b6 h.aH.lt sa).trans h.aH;have oth:∀{e:cY} {size:Nat} {v:ac} {n:Nat} {b7:List ac},W.ownsRow ay.heap.size e size v n b7->(∀b,v.ownBlock=A b->A b≠bW.ownBlock)->W'.ownsRow ay.heap.size e size v n b7:=λaQ a9=>
  fB aQ λk K=>hg.block k (di aQ K).2.choose_spec.lt (a9 k K)
 have nK:=oth h.own.2.1 (λb hb e=>h.own.2.2.2 b e.symm hb);have cx:=oth h.own.2.2.1 (λb hb e=>by
  obtain⟨_,aV,q1⟩:=di h.own.2.2.1 hb;obtain⟨_,bb,q2⟩:=di h.own.1 e.symm;have a4:=(show W.heap[b]? =A _ from q1).symm.trans (show W.heap[b]? =A _ from q2);cases a4)
 have me:W'.ownsRow ay.heap.size 2 1 ca (U.X++[x]).length ((U.X++[x]).flatMap ec):=by
  rw[gW,w8];simpa using fZ
 have dQ:Kept (·=b6) ay W':=⟨hg.os.trans h.kept.os,hg.tape.trans h.kept.tape,hg.output.trans h.kept.output,cM h.kept.size hg.size,λk K aB=>(hg.block k G (λe=>by have:=(di h.own.1 e.symm).1;omega)).trans (h.kept.block k K aB)⟩;have MF:∀b,ca.ownBlock=A b->∀{e:cY} {size:Nat} {v:ac} {n:Nat} {b7:List ac},W.ownsRow ay.heap.size e size v n b7->(∀b,v.ownBlock=A b->A b≠bW.ownBlock)->v.ownBlock=A b->False:=λb hb _ _ _ _ _ aQ a9 aK=>by
  rcases gP with gP|gP
  ·exact a9 b aK (by rw[<-gP,hb])
  ·have e:b=W.heap.size:=by rw[gP] at hb;exact(eT hb).symm
   have:=(di aQ aK).2.choose_spec.lt;omega
 obtain⟨fM,iC,rm,rq⟩:=fZ.ic;refine⟨ca,W',ar,⟨fM,iC,rm,rq⟩,xo,hg,⟨?_,?_,?_⟩⟩
 ·have h2:=xo.set 1 ca;exact h2
 ·exact sV.set (U:={U with X:=U.X++[x]}) (p:=⟨b6,1,T⟩) ⟨me,nK,cx,λb h1 h2=>MF b h1 h.own.2.1 (λb hb e=>h.own.2.2.2 b e.symm hb) h2⟩ xo bj bj ca
 ·exact dQ.setCell (p:=⟨b6,1,T⟩) rfl ca
theorem lV.ajL {U:Raw} {x:Int} (h:lV ay b6 bW bV aN U W) (cd:V W ai (ec x).toArray t fr) (aw:U.Y.length<=1000000):
 ∃ca W',(qN #[28,28] 28 #[bV,E (A ⟨ai,0,T⟩) 1 1]).run aa W= .ok ca W'/\(∃a n R,ca=E a n R)/\V W' b6 #[r c U.nodes,bW,bV,aN] 31 (0,0)/\W.grownBy W' bV.ownBlock/\lV ay b6 bW ca aN {U with Y:=U.Y++[x]} (W'.setCell ⟨b6,2,T⟩ ca):=by
 obtain⟨eP,ag,fL,gi,gt⟩:=m6 Rq;have qh:=h.kept.size;have aB:r_ 1 W (E (A ⟨ai,0,T⟩) 1 1) 1 (ec x):=⟨Bs x,λu Z=>by simp only[ec,gg,iS,or_false] at Z;rw[Z];rfl,_,1,rfl,bY _,by unfold ff;omega,λj u Z=>⟨ai,0,rfl,by rw[jC,cd.cell,la];exact Z⟩⟩;obtain⟨ca,W',ar,fZ,hg,gP,_⟩:=tU (P:=aa) ay.heap.size 28 28 2 eP _ 1 8 v5 ag fL gi gt rfl G bV U.Y.length _ h.own.2.1 _ 1 _ aB (by unfold ff;omega) G qh;have sa:A b6≠bV.ownBlock:=λe=>by
  obtain⟨_,bb,q2⟩:=di h.own.2.1 e.symm;have a4:=(show W.heap[b6]? =A _ from h.aH).symm.trans (show W.heap[b6]? =A _ from q2);cases a4
 have xo:V W' b6 #[r c U.nodes,bW,bV,aN] 31:=(hg.block b6 h.aH.lt sa).trans h.aH;have oth:∀{e:cY} {size:Nat} {v:ac} {n:Nat} {b7:List ac},W.ownsRow ay.heap.size e size v n b7->(∀b,v.ownBlock=A b->A b≠bV.ownBlock)->W'.ownsRow ay.heap.size e size v n b7:=λaQ a9=>
  fB aQ λk K=>hg.block k (di aQ K).2.choose_spec.lt (a9 k K)
 have m_:=oth h.own.1 (λb hb e=>h.own.2.2.2 b hb e.symm);have cx:=oth h.own.2.2.1 (λb hb e=>by
  obtain⟨_,aV,q1⟩:=di h.own.2.2.1 hb;obtain⟨_,bb,q2⟩:=di h.own.2.1 e.symm;have a4:=(show W.heap[b]? =A _ from q1).symm.trans (show W.heap[b]? =A _ from q2);cases a4)
 have me:W'.ownsRow ay.heap.size 2 1 ca (U.Y++[x]).length ((U.Y++[x]).flatMap ec):=by
  rw[gW,w8];simpa using fZ
 have dQ:Kept (·=b6) ay W':=⟨hg.os.trans h.kept.os,hg.tape.trans h.kept.tape,hg.output.trans h.kept.output,cM h.kept.size hg.size,λk K aB=>(hg.block k G (λe=>by have:=(di h.own.2.1 e.symm).1;omega)).trans (h.kept.block k K aB)⟩;have MF:∀b,ca.ownBlock=A b->∀{e:cY} {size:Nat} {v:ac} {n:Nat} {b7:List ac},W.ownsRow ay.heap.size e size v n b7->(∀b,v.ownBlock=A b->A b≠bV.ownBlock)->v.ownBlock=A b->False:=λb hb _ _ _ _ _ aQ a9 aK=>by
  rcases gP with gP|gP
  ·exact a9 b aK (by rw[<-gP,hb])
  ·have e:b=W.heap.size:=by rw[gP] at hb;exact(eT hb).symm
   have:=(di aQ aK).2.choose_spec.lt;omega
 obtain⟨fM,iC,rm,rq⟩:=fZ.ic;refine⟨ca,W',ar,⟨fM,iC,rm,rq⟩,xo,hg,⟨?_,?_,?_⟩⟩
 ·have h2:=xo.set 2 ca;exact h2
 ·exact sV.set (U:={U with Y:=U.Y++[x]}) (p:=⟨b6,2,T⟩) ⟨m_,me,cx,λb h1 h2=>MF b h2 h.own.1 (λb hb e=>h.own.2.2.2 b hb e.symm) h1⟩ xo bj bj ca
 ·exact dQ.setCell (p:=⟨b6,2,T⟩) rfl ca
theorem lV.Rr {U:Raw} {x:bd} (h:lV ay b6 bW bV aN U W) (cd:V W ai (nL x).toArray t fr) (aw:U.arcs.length<=1000000):
 ∃ca W',(qN #[29,29] 29 #[aN,E (A ⟨ai,0,T⟩) 1 1]).run aa W= .ok ca W'/\(∃a n R,ca=E a n R)/\V W' b6 #[r c U.nodes,bW,bV,aN] 31 (0,0)/\W.grownBy W' aN.ownBlock/\lV ay b6 bW bV ca {U with arcs:=U.arcs++[x]} (W'.setCell ⟨b6,3,T⟩ ca):=by
 obtain⟨eP,ag,fL,gi,gt⟩:=m6 Yo;have qh:=h.kept.size;have aB:r_ 3 W (E (A ⟨ai,0,T⟩) 1 1) 1 (nL x):=⟨F_ x,λu Z=>by simp only[nL,gg,iS,or_false] at Z;rcases Z with rfl|rfl|rfl<;>rfl,_,1,rfl,bY _,by unfold ff;omega,λj u Z=>⟨ai,0,rfl,by rw[jC,cd.cell,la];exact Z⟩⟩;obtain⟨ca,W',ar,fZ,hg,gP,_⟩:=tU (P:=aa) ay.heap.size 29 29 57 eP _ 3 24 Xl ag fL gi gt rfl G aN U.arcs.length _ h.own.2.2.1 _ 1 _ aB (by unfold ff;omega) G qh;have sa:A b6≠aN.ownBlock:=λe=>by
  obtain⟨_,bb,q2⟩:=di h.own.2.2.1 e.symm;have a4:=(show W.heap[b6]? =A _ from h.aH).symm.trans (show W.heap[b6]? =A _ from q2);cases a4
 have xo:V W' b6 #[r c U.nodes,bW,bV,aN] 31:=(hg.block b6 h.aH.lt sa).trans h.aH;have oth:∀{e:cY} {size:Nat} {v:ac} {n:Nat} {b7:List ac},W.ownsRow ay.heap.size e size v n b7->(∀b,v.ownBlock=A b->A b≠aN.ownBlock)->W'.ownsRow ay.heap.size e size v n b7:=λaQ a9=>
  fB aQ λk K=>hg.block k (di aQ K).2.choose_spec.lt (a9 k K)
 have m_:=oth h.own.1 (λb hb e=>by
  obtain⟨_,aV,q1⟩:=di h.own.1 hb;obtain⟨_,bb,q2⟩:=di h.own.2.2.1 e.symm;have a4:=(show W.heap[b]? =A _ from q1).symm.trans (show W.heap[b]? =A _ from q2);cases a4)
 have nK:=oth h.own.2.1 (λb hb e=>by
  obtain⟨_,aV,q1⟩:=di h.own.2.1 hb;obtain⟨_,bb,q2⟩:=di h.own.2.2.1 e.symm;have a4:=(show W.heap[b]? =A _ from q1).symm.trans (show W.heap[b]? =A _ from q2);cases a4)
 have me:W'.ownsRow ay.heap.size 57 3 ca (U.arcs++[x]).length ((U.arcs++[x]).flatMap nL):=by
  rw[gW,w8];simpa using fZ
 have dQ:Kept (·=b6) ay W':=⟨hg.os.trans h.kept.os,hg.tape.trans h.kept.tape,hg.output.trans h.kept.output,cM h.kept.size hg.size,λk K aB=>(hg.block k G (λe=>by have:=(di h.own.2.2.1 e.symm).1;omega)).trans (h.kept.block k K aB)⟩;have MF:∀b,ca.ownBlock=A b->∀{e:cY} {size:Nat} {v:ac} {n:Nat} {b7:List ac},W.ownsRow ay.heap.size e size v n b7->(∀b,v.ownBlock=A b->A b≠aN.ownBlock)->v.ownBlock=A b->False:=λb hb _ _ _ _ _ aQ a9 aK=>by
  rcases gP with gP|gP
  ·exact a9 b aK (by rw[<-gP,hb])
  ·have e:b=W.heap.size:=by rw[gP] at hb;exact(eT hb).symm
   have:=(di aQ aK).2.choose_spec.lt;omega
 obtain⟨fM,iC,rm,rq⟩:=fZ.ic;refine⟨ca,W',ar,⟨fM,iC,rm,rq⟩,xo,hg,⟨?_,?_,?_⟩⟩
 ·have h2:=xo.set 3 ca;exact h2
 ·exact sV.set (U:={U with arcs:=U.arcs++[x]}) (p:=⟨b6,3,T⟩) ⟨m_,nK,me,h.own.2.2.2⟩ xo bj bj ca
 ·exact dQ.setCell (p:=⟨b6,3,T⟩) rfl ca
def u64 (x:Int):Int:=x%18446744073709551616
theorem MG {wr:O} (hb:bQ w.heap.size w ay) (K:Kept (·=b6) ay wr) (cd:w.heap.size<=b6):bQ w.heap.size w wr:=
 ⟨K.os.trans hb.os,K.tape.trans hb.tape,K.output.trans hb.output,cM hb.size K.size,λk a0=>by
  have h1:=hb.size;exact(K.block k G G).trans (hb.block k a0)⟩
theorem Bt {size:Nat} {n:Nat} (h:w.ownsRow base e size (E (A ⟨g,0,T⟩) n cap) n b7) (j:Nat) (x:ac):
 (w.setCell ⟨g,j,T⟩ x).ownsRow base e size (E (A ⟨g,0,T⟩) n cap) n (b7.set j x):=by
 obtain⟨aw,h2⟩:=h;refine⟨by rw[gN];exact aw,?_⟩;rcases h2 with⟨e,_⟩|⟨qi,nl,cur,kM,ap,bl,cL,eI,gu,h9⟩
 ·cases e
 ·obtain⟨rfl,rfl⟩:g=qi/\cap=nl:=by simpa using kM
  refine .inr ⟨g,cap,cur.setIfInBounds j x,rfl,ap,(show V w g cur e (0,0) from bl).set j x,cL,eI,by simpa using gu,?_⟩;rw[Array.toList_setIfInBounds,List.take_set,h9]
theorem DA (m:Nat) (f:ep->List ac) (hf:∀x,(f x).length=m):∀(L:List ep) (k d:Nat) (y:ep) (u:ac),k<L.length->d<m->(∀x,L[k]? =A x->(f x).set d u=f y)->(L.flatMap f).set (k*m+d) u=(L.set k y).flatMap f
 |x::L,0,d,y,u,_,a9,h=>by
  rw[bM,uJ,uJ,Qo,jC,List.set_append_left _ _ (by rw[hf];exact a9),h x rfl]
 |x::L,k+1,d,y,u,K,a9,h=>by
  rw[bO,uJ,uJ,ah_ _ _ (by rw[hf,LW];omega),hf,show(k+1)*m+d-m=k*m+d by rw[LW];omega,DA m f hf L k d y u (by simpa using K) a9 (λDB u0=>h DB (by simpa using u0))]
section
attribute [local go_sem] f' F7 IC w7
structure u1 (w:O) (cN:Nat) (nodes:Int) (X Y:List Int) (c8:List bd):Prop where
 ex:∃bW bV aN,V w cN #[r c nodes,bW,bV,aN] 31 (0,0)/\cR w bW X/\cR w bV Y/\mF w aN c8
theorem u1.a_ {nodes:Int} {X Y:List Int} {c8:List bd} (h:u1 w cN nodes X Y c8) (K:bu w D):u1 D cN nodes X Y c8:=by
 obtain⟨bW,bV,aN,h1,h2,ap,bl⟩:=h;exact⟨bW,bV,aN,K.aH h1,h2.a_ K,ap.a_ K,bl.a_ K⟩
def pJ (w:O) (gf:Nat) (lb:Array ac) (c7:List fN):Prop:=
 (gf=286/\∃e1 v,lb=#[a6 (A ⟨e1,0,T⟩)]/\V w e1 #[v] 336 (0,0)/\v_ w v c7)\/
 (gf=243/\∃cN nodes X Y c8,lb=#[a6 (A ⟨cN,0,T⟩)]/\u1 w cN nodes X Y c8/\X.length=Y.length/\c7=no X Y X.length)\/
 (gf=244/\∃cN nodes X Y c8,lb=#[a6 (A ⟨cN,0,T⟩)]/\u1 w cN nodes X Y c8/\c7=nn nodes c8 c8.length)
theorem pJ.a_ {c7:List fN} (h:pJ w gf lb c7) (K:bu w D):pJ D gf lb c7:=by
 rcases h with⟨e,e1,v,h1,h2,ap⟩|⟨e,cN,nodes,X,Y,c8,h1,h2,ap,bl⟩|⟨e,cN,nodes,X,Y,c8,h1,h2,ap⟩
 ·exact .inl ⟨e,e1,v,h1,K.aH h2,ap.a_ K⟩
 ·exact .inr (.inl ⟨e,cN,nodes,X,Y,c8,h1,h2.a_ K,ap,bl⟩)
 ·exact .inr (.inr ⟨e,cN,nodes,X,Y,c8,h1,h2.a_ K,ap⟩)
theorem ajM (m:Nat) (L gf:Nat) (lb:Array ac) (c7:List fN) (bG:List fN->O->Prop) (mS:List vV->List fN->O->Prop) (sS:∀s W W',bG s W->bQ W.heap.size W W'->bG s W')
 (ei:∀pre x W,bG pre W->pre.length<c7.length->o4 hn (m-1) aa L (Dy x) W λe W'=>
  (e=au (aA ad)/\bG (pre++[x]) W'/\bu W W')\/(∃fp,e= .panicked fp/\mS fp (pre++[x]) W'))
 (W:O) (h:pJ W gf lb c7) (h0:bG [] W):
 ge hn m aa gf (#[.func (.yield L) #[] #[]]++lb) W λe W'=>(∃v,e=au v/\bG c7 W')\/(∃fp b7,e= .panicked fp/\b7<+:c7/\mS fp b7 W'):=by
 rcases h with⟨rfl,e1,v,rfl,h2,ap⟩|⟨rfl,cN,nodes,X,Y,c8,rfl,⟨bW,bV,aN,hb,ak,az,ha⟩,ap,rfl⟩|⟨rfl,cN,nodes,X,Y,c8,rfl,⟨bW,bV,aN,hb,ak,az,ha⟩,rfl⟩
 ·exact ajr m L e1 c7 v bG mS sS ei W h2 ap h0
 ·rw[Yk] at ei;exact ajy m L cN nodes bW bV aN X Y bG mS sS ei W hb ak az ap h0
 ·rw[Yg] at ei;exact aju m L cN nodes bW bV aN c8 bG mS sS ei W hb ha h0
theorem Ys (m:Nat) (u2:ac) (W:O) (c7:List fN) (h:v_ W u2 c7) (ajN:u2.oneCell'=ad):
 ge hn m aa 242 #[u2] W λe W'=>∃gf lb,e=au (.func (.func gf) #[] lb)/\pJ W' gf lb c7/\bQ W.heap.size W W':=by
 have hb:=(bx W.heap.size W).alloc (bY _) (an #[u2] 336);have H:aM (pJ (W.alloc (an #[u2] 336)) 286 #[a6 (A ⟨W.heap.size,0,T⟩)] c7/\bQ W.heap.size W (W.alloc (an #[u2] 336))):=I ⟨.inl ⟨rfl,_,_,rfl,V.new _ _ _ _,h.a_ (bu.bg hb)⟩,hb⟩;obtain⟨a,cap,rfl,_⟩:=h;clear hb ajN;have g_:∀(fn:Fn) (first cap:Array ac) (w:O),(LY fn first cap).run aa w= .ok (.func fn first cap) w:=λ_ _ _ _=>rfl;refine kL aAF rfl (by simp[hn,lR]) ?_ rfl;simp only[ntmps242,g0,fV,gp,gA,g1,gI,gJ,gK,gL,f1,fW];gi_wp2_with fail;go_ret;exact⟨_,_,rfl,H.o⟩
theorem Yt (m:Nat) (R n am ag:Int) (W:O):
 ge hn m aa 149 #[r c R,r c n,r c am,r c ag] W λe W'=>∃gf lb,e=au (.func (.func gf) #[] lb)/\pJ W' gf lb [⟨0,0,R,n,am,ag⟩]/\bQ W.heap.size W W':=by
 have hb:=(bx W.heap.size W).alloc (bY _) (an #[r c 0,r c 0,r c R,r c n,r c am,r c ag] 240);have cb:v_ (W.alloc (an #[r c 0,r c 0,r c R,r c n,r c am,r c ag] 240)) (E (A ⟨W.heap.size,0,T⟩) 1 1) [⟨0,0,R,n,am,ag⟩]:=Rg (L:=[⟨0,0,R,n,am,ag⟩]) (V.new _ _ _ _) rfl (by show 1<=1000;omega);have C:=I (Ys (m-1) _ _ _ cb rfl);have bP:=I hb;clear hb cb;refine kL aAG rfl (by simp[hn,lR]) ?_ rfl;simp only[ntmps149,g0,fV,gp,gA,g1,gI,gJ,gK,gL,f1,fW];gi_wp2_with fail;refine⟨by simp[hn,lR],?_⟩;refine C.o.mono ?_;rintro e fK ⟨gf,lb,rfl,h1,h2⟩;have gX:=I h1;have fC:=I (bP.o.next' h2);clear h1 h2;gi_wp2_with fail;go_ret;exact⟨_,_,rfl,gX.o,fC.o⟩
theorem ajO (m cN:Nat) (nodes:Int) (X Y:List Int) (c8:List bd) (W:O) (h:u1 W cN nodes X Y c8):
 ge hn m aa 148 #[a6 (A ⟨cN,0,T⟩)] W λe W'=>∃gf lb,e=au (.func (.func gf) #[] lb)/\pJ W' gf lb [⟨0,0,5,nodes,1,16777217⟩]/\bQ W.heap.size W W':=by
 obtain⟨bW,bV,aN,hb,_⟩:=h;have bR:=hb.cell 0;change W.cell? ⟨cN,0,T⟩=A (r c nodes) at bR;refine kL ah' rfl (by simp[hn,lR]) ?_ rfl;simp only[ntmps148,g0,fV,gp,gA,g1,gI,gJ,gK,gL,f1,fW];gi_wp2_with fail;refine⟨by simp[hn,lR],?_⟩;refine(Yt (m-1) 5 nodes 1 16777217 W).mono ?_;rintro e fK ⟨gf,lb,rfl,h1,h2⟩;have gX:=I h1;have fC:=I h2;clear h1 h2;gi_wp2_with fail;go_ret;exact⟨_,_,rfl,gX.o,fC.o⟩
theorem ajP (m:Nat) (bW bV aN:ac) (nodes:Int) (X Y:List Int) (c8:List bd) (W:O) (ak:cR W bW X) (az:cR W bV Y) (ha:mF W aN c8) (aw:X.length=Y.length):
 ge hn m aa 153 #[aZ #[r c nodes,bW,bV,aN]] W λe W'=>∃gf lb,e=au (.func (.func gf) #[] lb)/\pJ W' gf lb (no X Y X.length)/\bQ W.heap.size W W':=by
 have hb:=(bx W.heap.size W).alloc (bY _) (an #[r c nodes,bW,bV,aN] 31);have K:=bu.bg hb;have H:aM (pJ (W.alloc (an #[r c nodes,bW,bV,aN] 31)) 243 #[a6 (A ⟨W.heap.size,0,T⟩)] (no X Y X.length)/\bQ W.heap.size W (W.alloc (an #[r c nodes,bW,bV,aN] 31))):=I ⟨.inr (.inl ⟨rfl,_,nodes,X,Y,c8,rfl,⟨bW,bV,aN,V.new _ _ _ _,ak.a_ K,az.a_ K,ha.a_ K⟩,aw,rfl⟩),hb⟩;clear aw;obtain⟨jE,jF,rfl,_⟩:=ak;obtain⟨jS,lU,rfl,_⟩:=az;obtain⟨dG,ga,rfl,_⟩:=ha;clear hb K;have g_:∀(fn:Fn) (first cap:Array ac) (w:O),(LY fn first cap).run aa w= .ok (.func fn first cap) w:=λ_ _ _ _=>rfl;refine kL aAH rfl (by simp[hn,lR]) ?_ rfl;simp only[ntmps153,g0,fV,gp,gA,g1,gI,gJ,gK,gL,f1,fW];gi_wp2_with fail;go_ret;exact⟨_,_,rfl,H.o⟩
theorem ajQ (m:Nat) (bW bV aN:ac) (nodes:Int) (X Y:List Int) (c8:List bd) (W:O) (ak:cR W bW X) (az:cR W bV Y) (ha:mF W aN c8):
 ge hn m aa 156 #[aZ #[r c nodes,bW,bV,aN]] W λe W'=>∃gf lb,e=au (.func (.func gf) #[] lb)/\pJ W' gf lb (nn nodes c8 c8.length)/\bQ W.heap.size W W':=by
 have hb:=(bx W.heap.size W).alloc (bY _) (an #[r c nodes,bW,bV,aN] 31);have K:=bu.bg hb;have H:aM (pJ (W.alloc (an #[r c nodes,bW,bV,aN] 31)) 244 #[a6 (A ⟨W.heap.size,0,T⟩)] (nn nodes c8 c8.length)/\bQ W.heap.size W (W.alloc (an #[r c nodes,bW,bV,aN] 31))):=I ⟨.inr (.inr ⟨rfl,_,nodes,X,Y,c8,rfl,⟨bW,bV,aN,V.new _ _ _ _,ak.a_ K,az.a_ K,ha.a_ K⟩,rfl⟩),hb⟩;obtain⟨jE,jF,rfl,_⟩:=ak;obtain⟨jS,lU,rfl,_⟩:=az;obtain⟨dG,ga,rfl,_⟩:=ha;clear hb K;have g_:∀(fn:Fn) (first cap:Array ac) (w:O),(LY fn first cap).run aa w= .ok (.func fn first cap) w:=λ_ _ _ _=>rfl;refine kL aAI rfl (by simp[hn,lR]) ?_ rfl;simp only[ntmps156,g0,fV,gp,gA,g1,gI,gJ,gK,gL,f1,fW];gi_wp2_with fail;go_ret;exact⟨_,_,rfl,H.o⟩
theorem ajR (m:Nat) (bW bV aN:ac) (nodes:Int) (X Y:List Int) (c8:List bd) (W:O) (ak:cR W bW X) (az:cR W bV Y) (ha:mF W aN c8) (aC:1<=nodes/\nodes<=16777216):
 ge hn m aa 151 #[aZ #[r c nodes,bW,bV,aN]] W λe W'=>∃gf lb,e=au (.func (.func gf) #[] lb)/\pJ W' gf lb [⟨0,0,6,X.length,nodes,nodes+1⟩,⟨0,1,6,Y.length,nodes,nodes+1⟩]/\bQ W.heap.size W W':=by
 have bU:IntKind.i64.wrap (nodes+1)=nodes+1:=ll _ G G;obtain⟨aJ,cK⟩:∃aJ,aJ=(W.alloc (an #[r c nodes,bW,bV,aN] 31)).alloc (an #[r c 0,r c 0,r c 6,r c X.length,r c nodes,r c (nodes+1),r c 0,r c 1,r c 6,r c Y.length,r c nodes,r c (nodes+1)] 240):=⟨_,rfl⟩;have hb:bQ W.heap.size W aJ:=by rw[cK];exact((bx W.heap.size W).alloc (bY _) _).alloc a3 _
 have cb:v_ aJ (E (A ⟨W.heap.size+1,0,T⟩) 2 2) [⟨0,0,6,X.length,nodes,nodes+1⟩,⟨0,1,6,Y.length,nodes,nodes+1⟩]:=by
  have h:=V.new (W.alloc (an #[r c nodes,bW,bV,aN] 31)) #[r c 0,r c 0,r c 6,r c X.length,r c nodes,r c (nodes+1),r c 0,r c 1,r c 6,r c Y.length,r c nodes,r c (nodes+1)] 240 (0,0);rw[d8,<-cK] at h;exact Rg (L:=[⟨0,0,6,X.length,nodes,nodes+1⟩,⟨0,1,6,Y.length,nodes,nodes+1⟩]) h rfl (by show 2<=1000;omega)
 have C:=I (Ys (m-1) _ _ _ cb rfl);have bP:=I hb;have mc:=I cK;obtain⟨jE,jF,rfl,_⟩:=ak;obtain⟨jS,lU,rfl,_⟩:=az;obtain⟨dG,ga,rfl,_⟩:=ha;clear hb cb cK;refine kL aAJ rfl (by simp[hn,lR]) ?_ rfl;simp only[ntmps151,g0,fV,gp,gA,g1,gI,gJ,gK,gL,f1,fW];gi_wp2_with fail;rw[<-mc.o];refine⟨by simp[hn,lR],?_⟩;refine C.o.mono ?_;rintro e fK ⟨gf,lb,rfl,h1,h2⟩;have gX:=I h1;have fC:=I (bP.o.next' h2);clear h1 h2;gi_wp2_with fail;go_ret;exact⟨_,_,rfl,gX.o,fC.o⟩
theorem ajS (m cN:Nat) (nodes:Int) (X Y:List Int) (c8:List bd) (W:O) (h:u1 W cN nodes X Y c8) (aC:1<=nodes/\nodes<=16777216):
 ge hn m aa 150 #[a6 (A ⟨cN,0,T⟩)] W λe W'=>∃gf lb,e=au (.func (.func gf) #[] lb)/\pJ W' gf lb [⟨0,0,6,X.length,nodes,nodes+1⟩,⟨0,1,6,Y.length,nodes,nodes+1⟩]/\bQ W.heap.size W W':=by
 obtain⟨bW,bV,aN,hb,ak,az,ha⟩:=h;have bR:=hb.cell 0;have aV:=hb.cell 1;have bb:=hb.cell 2;have ch:=hb.cell 3;change W.cell? ⟨cN,0,T⟩=A (r c nodes) at bR;change W.cell? ⟨cN,1,T⟩=A bW at aV;change W.cell? ⟨cN,2,T⟩=A bV at bb;change W.cell? ⟨cN,3,T⟩=A aN at ch;have C:=I (ajR (m-1) bW bV aN nodes X Y c8 W ak az ha aC);clear ak az ha hb;refine kL aia rfl (by simp[hn,lR]) ?_ rfl;simp only[ntmps150,g0,fV,gp,gA,g1,gI,gJ,gK,gL,f1,fW];gi_wp2_with fail;refine⟨by simp[hn,lR],?_⟩;refine C.o.mono ?_;rintro e fK ⟨gf,lb,rfl,h1,h2⟩;have gX:=I h1;have fC:=I h2;clear h1 h2;gi_wp2_with fail;go_ret;exact⟨_,_,rfl,gX.o,fC.o⟩
theorem ajT (m cN:Nat) (nodes:Int) (X Y:List Int) (c8:List bd) (W:O) (h:u1 W cN nodes X Y c8) (aw:X.length=Y.length):
 ge hn m aa 152 #[a6 (A ⟨cN,0,T⟩)] W λe W'=>∃gf lb,e=au (.func (.func gf) #[] lb)/\pJ W' gf lb (no X Y X.length)/\bQ W.heap.size W W':=by
 obtain⟨bW,bV,aN,hb,ak,az,ha⟩:=h;have bR:=hb.cell 0;have aV:=hb.cell 1;have bb:=hb.cell 2;have ch:=hb.cell 3;change W.cell? ⟨cN,0,T⟩=A (r c nodes) at bR;change W.cell? ⟨cN,1,T⟩=A bW at aV;change W.cell? ⟨cN,2,T⟩=A bV at bb;change W.cell? ⟨cN,3,T⟩=A aN at ch;have C:=I (ajP (m-1) bW bV aN nodes X Y c8 W ak az ha aw);clear ak az ha hb aw;refine kL aib rfl (by simp[hn,lR]) ?_ rfl;simp only[ntmps152,g0,fV,gp,gA,g1,gI,gJ,gK,gL,f1,fW];gi_wp2_with fail;refine⟨by simp[hn,lR],?_⟩;refine C.o.mono ?_;rintro e fK ⟨gf,lb,rfl,h1,h2⟩;have gX:=I h1;have fC:=I h2;clear h1 h2;gi_wp2_with fail;go_ret;exact⟨_,_,rfl,gX.o,fC.o⟩
theorem ajU (m cN:Nat) (nodes:Int) (X Y:List Int) (c8:List bd) (W:O) (h:u1 W cN nodes X Y c8):
 ge hn m aa 155 #[a6 (A ⟨cN,0,T⟩)] W λe W'=>∃gf lb,e=au (.func (.func gf) #[] lb)/\pJ W' gf lb (nn nodes c8 c8.length)/\bQ W.heap.size W W':=by
 obtain⟨bW,bV,aN,hb,ak,az,ha⟩:=h;have bR:=hb.cell 0;have aV:=hb.cell 1;have bb:=hb.cell 2;have ch:=hb.cell 3;change W.cell? ⟨cN,0,T⟩=A (r c nodes) at bR;change W.cell? ⟨cN,1,T⟩=A bW at aV;change W.cell? ⟨cN,2,T⟩=A bV at bb;change W.cell? ⟨cN,3,T⟩=A aN at ch;have C:=I (ajQ (m-1) bW bV aN nodes X Y c8 W ak az ha);clear ak az ha hb;refine kL aic rfl (by simp[hn,lR]) ?_ rfl;simp only[ntmps155,g0,fV,gp,gA,g1,gI,gJ,gK,gL,f1,fW];gi_wp2_with fail;refine⟨by simp[hn,lR],?_⟩;refine C.o.mono ?_;rintro e fK ⟨gf,lb,rfl,h1,h2⟩;have gX:=I h1;have fC:=I h2;clear h1 h2;gi_wp2_with fail;go_ret;exact⟨_,_,rfl,gX.o,fC.o⟩
theorem ajV (m cN:Nat) (nodes:Int) (X Y:List Int) (c8:List bd) (W:O) (h:u1 W cN nodes X Y c8):
 ge hn m aa 154 #[a6 (A ⟨cN,0,T⟩)] W λe W'=>∃gf lb,e=au (.func (.func gf) #[] lb)/\pJ W' gf lb [⟨0,0,8,c8.length,0,67108865⟩]/\bQ W.heap.size W W':=by
 obtain⟨bW,bV,aN,hb,ak,az,ha⟩:=h;obtain⟨dG,ga,rfl,_⟩:=ha;have ch:=hb.cell 3;change W.cell? ⟨cN,3,T⟩=A (E dG c8.length ga) at ch;have C:=I (Yt (m-1) 8 c8.length 0 67108865 W);clear ak az hb;refine kL aid rfl (by simp[hn,lR]) ?_ rfl;simp only[ntmps154,g0,fV,gp,gA,g1,gI,gJ,gK,gL,f1,fW];gi_wp2_with fail;refine⟨by simp[hn,lR],?_⟩;refine C.o.mono ?_;rintro e fK ⟨gf,lb,rfl,h1,h2⟩;have gX:=I h1;have fC:=I h2;clear h1 h2;gi_wp2_with fail;go_ret;exact⟨_,_,rfl,gX.o,fC.o⟩
end
theorem bu.put {o dt:Obj} (aQ:W.heap[l]? =A o) (ah:o.isCells=ao):bu W (W.putObj l dt):=
 ⟨a3,λk cs t fr K=>jr (λe=>by
  subst e;rw[aQ] at K;cases K;cases ah)⟩
theorem MH {dt:Obj} (h:bQ ai w W) (aw:ai<=l):bQ ai w (W.putObj l dt):=
 ⟨h.os,h.tape,h.output,by simpa using h.size,λk K=>(jr G).trans (h.block k K)⟩
def kq (ai:Nat) (w:O):List j2->Prop
 |[]=>True
 |d::ds=>(∃aF,d={target:= .collected aF,args:=#[]}/\ai<=aF/\w.heap[aF]? =A (.deferred (A []))/\∀dS∈ds,∀e9,dS={target:= .collected e9,args:=#[]}->e9<aF)/\kq ai w ds
theorem kq.a_:∀{ds:List j2} {w D:O},kq ai w ds->(∀aF,ai<=aF->(∃d∈ds,d={target:= .collected aF,args:=#[]})->D.heap[aF]? =w.heap[aF]?)->kq ai D ds
 |[],_,_,_,_=>trivial
 |d::ds,w,D,⟨⟨aF,e,h1,h2,ap⟩,h⟩,K=>⟨⟨aF,e,h1,(K aF h1 ⟨d,a3,e⟩).trans h2,ap⟩,kq.a_ h λe9 Rs ⟨dS,fy,fm⟩=>K e9 Rs ⟨dS,by simp[fy],fm⟩⟩
theorem DC {n:Nat} {fn:Func} {bH:O} {u:FrameMode} (Z:u≠ .run):
 ∀(ds:List j2) (w:O),kq ai w ds->bQ ai bH w->(∀D,bu w D->bQ ai bH D->LeavesIn F n P fn tmps aj [] u D)->LeavesInM F n P fn tmps aj ds u w
 |[],w,_,hb,h=>h w (bu.refl w) hb
 |d::ds,w,⟨⟨aF,e,h1,h2,ap⟩,hm⟩,hb,h=>by
  subst e;refine⟨Z,.inl ⟨_,_,rfl,Xn h2,DC Z ds _ (hm.a_ λe9 Rs ⟨dS,fy,fm⟩=>jr (bI (ap dS fy e9 fm))) (MH hb h1) λD K fi=>h D ((bu.put h2 rfl).trans K) fi⟩⟩
theorem kq.lt:∀{ds:List j2} {w:O},kq ai w ds->∀d∈ds,∀aF,d={target:= .collected aF,args:=#[]}->aF<w.heap.size
 |d::ds,w,⟨⟨aF,e,h1,h2,ap⟩,h⟩,dS,fy,e9,fm=>by
  rcases gg.1 fy with rfl|fy
  ·rw[e] at fm;have:aF=e9:=by simpa using fm
   subst this;exact(gU.1 h2).1
  ·exact kq.lt h dS fy e9 fm
theorem kq.more {aF:Nat} (h:kq ai w ds) (hb:bQ w.heap.size w D) (cd:ai<=w.heap.size) (fh:w.heap.size<=aF) (dQ:D.heap[aF]? =A (.deferred (A []))):
 kq ai D ({target:= .collected aF,args:=#[]}::ds):=
 ⟨⟨aF,rfl,G,dQ,λdS fy e9 fm=>by have:=h.lt dS fy e9 fm;omega⟩,h.a_ λe9 _ ⟨dS,fy,fm⟩=>hb.block e9 (h.lt dS fy e9 fm)⟩
section
attribute [local go_sem] f' F7 IC w7
def looked (b:Nat):List vV:=[{v:= .iface 146 (aZ #[a6 (A ⟨b,0,T⟩)]),recovered:=ao}]
def lr (nodes:Int) (X Y:List Int) (c8:List bd):List (List fN):=
 [[⟨0,0,5,nodes,1,16777217⟩],[⟨0,0,6,X.length,nodes,nodes+1⟩,⟨0,1,6,Y.length,nodes,nodes+1⟩],no X Y X.length,[⟨0,0,8,c8.length,0,67108865⟩],nn nodes c8 c8.length]
theorem Yv {c7:List fN} {L:List (List fN)} {j:Nat} (h:c7.find? fN.bad=T):n6 (c7::L) j=n6 L (j+1):=by
 rw[n6];simp only[h]
theorem Rt:∀(L:List (List fN)) (k j:Nat),(∀p∈(L.take k).flatten,p.bad=ao)->k<=L.length->n6 L j=n6 (L.drop k) (j+k)
 |_,0,_,_,_=>rfl
 |[],k+1,_,_,h=>by cases h
 |c7::L,k+1,j,hb,h=>by
  rw[Yv (Yu λp aP=>hb p (by simp[aP])),Rt L k (j+1) (λp aP=>hb p (by simp only[LZ,List.flatten_cons,fJ];exact .inr aP)) (by simpa using h),show j+1+k=j+(k+1) by omega];rfl
def wa:List Nat:=[148,150,152,154,155]
theorem zI {p:fN} (h:p.bad=ao):p.am<=p.n/\p.n<p.ag:=by
 unfold fN.bad at h;simp only[aAN,decide_eq_false_iff_not] at h;omega
theorem ajX (k:Nat) (K:k<5) (m cN:Nat) (nodes:Int) (X Y:List Int) (c8:List bd) (W:O) (h:u1 W cN nodes X Y c8) (nJ:∀p∈((lr nodes X Y c8).take k).flatten,p.bad=ao):
 ge hn m aa (wa.getD k 0) #[a6 (A ⟨cN,0,T⟩)] W λe W'=>∃gf lb,e=au (.func (.func gf) #[] lb)/\pJ W' gf lb ((lr nodes X Y c8).getD k [])/\bQ W.heap.size W W':=by
 have aC:1<=k->1<=nodes/\nodes<=16777216:=λh1=>by
  have:=zI (nJ ⟨0,0,5,nodes,1,16777217⟩ (by
   obtain⟨hY,rfl⟩:∃hY,k=hY+1:=⟨k-1,G⟩;simp[lr]))
  dsimp only at this;omega
 have aw:2<=k->X.length=Y.length:=λh1=>by
  obtain⟨hY,rfl⟩:∃hY,k=hY+1+1:=⟨k-2,G⟩;have br:=zI (nJ ⟨0,0,6,X.length,nodes,nodes+1⟩ (by simp[lr]));have a4:=zI (nJ ⟨0,1,6,Y.length,nodes,nodes+1⟩ (by simp[lr]));dsimp only at br a4;omega
 match k,K with
 |0,_=>exact ajO m cN nodes X Y c8 W h
 |1,_=>exact ajS m cN nodes X Y c8 W h (aC G)
 |2,_=>exact ajT m cN nodes X Y c8 W h (aw G)
 |3,_=>exact ajV m cN nodes X Y c8 W h
 |4,_=>exact ajU m cN nodes X Y c8 W h
theorem ajY (fn:Nat) (h:hn.fn fn):∃f,prog.funcs[fn]? =A f:=by
 simp only[hn,lR,gg,iS,or_false] at h;rcases h with rfl|rfl|rfl|rfl|rfl|rfl|rfl|rfl|rfl|rfl|rfl|rfl|rfl|rfl
 ·exact⟨_,aAO⟩
 ·exact⟨_,ah'⟩
 ·exact⟨_,aAG⟩
 ·exact⟨_,aia⟩
 ·exact⟨_,aAJ⟩
 ·exact⟨_,aib⟩
 ·exact⟨_,aAH⟩
 ·exact⟨_,aid⟩
 ·exact⟨_,aic⟩
 ·exact⟨_,aAI⟩
 ·exact⟨_,aAF⟩
 ·exact⟨_,ah7⟩
 ·exact⟨_,ah6⟩
 ·exact⟨_,ah3⟩
theorem pJ.fn {c7:List fN} (h:pJ w gf lb c7):hn.fn gf/\∀args w,(gM gf args).run aa w= .ok (.enter gf args) w:=by
 rcases h with⟨rfl,_⟩|⟨rfl,_⟩|⟨rfl,_⟩
 ·exact⟨by simp[hn,lR],fg ah3 bq rfl⟩
 ·exact⟨by simp[hn,lR],fg ah7 bq rfl⟩
 ·exact⟨by simp[hn,lR],fg ah6 bq rfl⟩
theorem ajZ (k:Nat) (K:k<5):hn.fn (wa.getD k 0)/\∀args w,(gM (wa.getD k 0) args).run aa w= .ok (.enter (wa.getD k 0) args) w:=by
 match k,K with
 |0,_=>exact⟨by simp[hn,lR,wa],fg ah' bq rfl⟩
 |1,_=>exact⟨by simp[hn,lR,wa],fg aia bq rfl⟩
 |2,_=>exact⟨by simp[hn,lR,wa],fg aib bq rfl⟩
 |3,_=>exact⟨by simp[hn,lR,wa],fg aid bq rfl⟩
 |4,_=>exact⟨by simp[hn,lR,wa],fg aic bq rfl⟩
structure Bu (W:O) (cN gC:Nat) (nodes:Int) (X Y:List Int) (c8:List bd) (k:Nat) (w:O):Prop where
 below:bQ W.heap.size W w
 raw:u1 w cN nodes X Y c8
 tell:V w gC (wa.map λf=>Value.func (.func f) #[] #[a6 (A ⟨cN,0,T⟩)]).toArray 236
 IK:∀p∈((lr nodes X Y c8).take k).flatten,p.bad=ao
theorem Bu.cell {gC:Nat} {nodes:Int} {X Y:List Int} {c8:List bd} {k:Nat} (h:Bu W cN gC nodes X Y c8 k w) (K:k<5):w.cell? ⟨gC,k,T⟩=A (.func (.func (wa.getD k 0)) #[] #[a6 (A ⟨cN,0,T⟩)]):=by
 rw[h.tell.cell]
 match k,K with
 |0,_=>rfl
 |1,_=>rfl
 |2,_=>rfl
 |3,_=>rfl
 |4,_=>rfl
theorem Bu.to {gC:Nat} {nodes:Int} {X Y:List Int} {c8:List bd} {k:Nat} (h:Bu W cN gC nodes X Y c8 k w) (hb:bQ w.heap.size w D):Bu W cN gC nodes X Y c8 k D:=
 ⟨h.below.next' hb|>λx=>x,h.raw.a_ (bu.bg hb),h.tell.aq hb,h.IK⟩
def aj0 (k:Nat) (w:O) (fp:List vV) (b7:List fN) (W:O):Prop:=
 ∃pre x b,b7=pre++[x]/\(∀p∈pre,p.bad=ao)/\x.bad=ad/\fp=looked b/\V W b #[r c x.co,r c (k:Nat),r c x.dO,r c x.aG] 105 (0,0)/\bQ w.heap.size w W
def aj1 (hH:Array ac) (aJ:O) (pre:List fN) (x:fN) (a1:eE) (Q:O):Prop:=
 ∃b,a1={tmps:=(hH.setIfInBounds 19 (aZ #[r c x.dO,r c x.aG,r c x.co,r c x.n,r c x.am,r c x.ag])).setIfInBounds 4 (a6 (A ⟨b,0,T⟩)),defers:=[]}/\
  V Q b #[r c x.dO,r c x.aG,r c x.co,r c x.n,r c x.am,r c x.ag] 240 (0,0)/\bQ aJ.heap.size aJ Q/\∀p∈pre,p.bad=ao
theorem aj2 {nodes:Int} {X Y:List Int} {c8:List bd} {k:Nat} (K:k<5):(lr nodes X Y c8).drop k=(lr nodes X Y c8).getD k []::(lr nodes X Y c8).drop (k+1):=by
 have aw:k<(lr nodes X Y c8).length:=K;rw[LS aw,aAQ,eA aw];rfl
theorem aj3 {nodes:Int} {X Y:List Int} {c8:List bd} {k:Nat} (K:k<5) (h:∀p∈((lr nodes X Y c8).take k).flatten,p.bad=ao) (h2:∀p∈(lr nodes X Y c8).getD k [],p.bad=ao):
 ∀p∈((lr nodes X Y c8).take (k+1)).flatten,p.bad=ao:=by
 have aw:k<(lr nodes X Y c8).length:=K;intro p aP;rw[uI aw,List.flatten_append,fJ] at aP;rcases aP with aP|aP
 ·exact h p aP
 ·refine h2 p ?_;rw[aAQ,eA aw];simpa using aP
theorem aj4 {nodes:Int} {X Y:List Int} {c8:List bd} {k:Nat} (K:k<5) (h:∀p∈((lr nodes X Y c8).take k).flatten,p.bad=ao) {x:fN} (h2:((lr nodes X Y c8).getD k []).find? fN.bad=A x):
 n6 (lr nodes X Y c8) 0=A (k,x):=by
 rw[Rt _ k 0 h (L0 K),aj2 K,n6,h2,jC]
theorem aj5 (m:Nat) (hm:1<=m) (bW bV aN:ac) (nodes:Int) (X Y:List Int) (c8:List bd) (W:O) (ak:cR W bW X) (az:cR W bV Y) (ha:mF W aN c8):
 ge hn m aa 83 #[aZ #[r c nodes,bW,bV,aN]] W λe W'=>
  ((e=au (b8 #[])/\n6 (lr nodes X Y c8) 0=T)\/(∃b k p,e= .panicked (looked b)/\n6 (lr nodes X Y c8) 0=A (k,p)/\V W' b #[r c p.co,r c (k:Nat),r c p.dO,r c p.aG] 105))/\bQ W.heap.size W W':=by
 have g_:∀(fn:Fn) (first cap:Array ac) (w:O),(LY fn first cap).run aa w= .ok (.func fn first cap) w:=λ_ _ _ _=>rfl;obtain⟨cN,n3⟩:∃b,b=W.heap.size:=⟨_,rfl⟩;obtain⟨gC,m'⟩:∃b,b=W.heap.size+1:=⟨_,rfl⟩;have aX:=(bx W.heap.size W).alloc (bY _) (an #[r c nodes,bW,bV,aN] 31);have a5:=aX.alloc a3 (an #[.func (.func 148) #[] #[a6 (A ⟨cN,0,T⟩)],.func (.func 150) #[] #[a6 (A ⟨cN,0,T⟩)],.func (.func 152) #[] #[a6 (A ⟨cN,0,T⟩)],.func (.func 154) #[] #[a6 (A ⟨cN,0,T⟩)],.func (.func 155) #[] #[a6 (A ⟨cN,0,T⟩)]] 236);have ar:u1 (W.alloc (an #[r c nodes,bW,bV,aN] 31)) cN nodes X Y c8:=by rw[n3];exact⟨bW,bV,aN,V.new _ _ _ _,ak.a_ (bu.bg aX),az.a_ (bu.bg aX),ha.a_ (bu.bg aX)⟩
 have MI:Bu W cN gC nodes X Y c8 0 ((W.alloc (an #[r c nodes,bW,bV,aN] 31)).alloc (an #[.func (.func 148) #[] #[a6 (A ⟨cN,0,T⟩)],.func (.func 150) #[] #[a6 (A ⟨cN,0,T⟩)],.func (.func 152) #[] #[a6 (A ⟨cN,0,T⟩)],.func (.func 154) #[] #[a6 (A ⟨cN,0,T⟩)],.func (.func 155) #[] #[a6 (A ⟨cN,0,T⟩)]] 236)):=by
  refine⟨a5,ar.a_ (bu.bg ((bx _ _).alloc (bY _) _)),?_,λp aP=>by simp at aP⟩;rw[m'];have h:=V.new (W.alloc (an #[r c nodes,bW,bV,aN] 31)) #[.func (.func 148) #[] #[a6 (A ⟨cN,0,T⟩)],.func (.func 150) #[] #[a6 (A ⟨cN,0,T⟩)],.func (.func 152) #[] #[a6 (A ⟨cN,0,T⟩)],.func (.func 154) #[] #[a6 (A ⟨cN,0,T⟩)],.func (.func 155) #[] #[a6 (A ⟨cN,0,T⟩)]] 236 (0,0);rw[d8] at h;exact h
 have tV:=I MI;obtain⟨jE,jF,rfl,_⟩:=ak;obtain⟨jS,lU,rfl,_⟩:=az;obtain⟨dG,ga,rfl,_⟩:=ha;clear aX a5 ar MI;refine sL aAO rfl (by simp[hn,lR]) ?_ rfl;simp only[ntmps83,g0,fV,gp,gA,g1,gI,gJ,gK,gL,f1,fW];gi_wp2_with fail;rw[<-m',<-n3];obtain⟨bW,Ru⟩:∃v,v=iB jE X.length jF:=⟨_,rfl⟩;obtain⟨bV,Rv⟩:∃v,v=iB jS Y.length lU:=⟨_,rfl⟩;obtain⟨aN,Rw⟩:∃v,v=iB dG c8.length ga:=⟨_,rfl⟩;rw[<-Ru,<-Rv,<-Rw] at tV⊢;refine Xo (λa w=>∃(k:Nat) (cz hI mG xp wb xq Bv u16 Bw IL rr zJ zK zL zM xr zN zO F' Ga Gb Gc Gd u32 MJ MK ML MM MN MO MP MQ MR MS Rx:ac) (ds:List j2),a={tmps:=#[aZ #[r c nodes,bW,bV,aN],a6 (A ⟨cN,0,T⟩),cz,hI,mG,.func (.func 148) #[] #[a6 (A ⟨cN,0,T⟩)],.func (.func 150) #[] #[a6 (A ⟨cN,0,T⟩)],.func (.func 152) #[] #[a6 (A ⟨cN,0,T⟩)],.func (.func 154) #[] #[a6 (A ⟨cN,0,T⟩)],.func (.func 155) #[] #[a6 (A ⟨cN,0,T⟩)],E (A ⟨gC,0,T⟩) 5 5,r c 5,xp,wb,xq,Bv,u16,Bw,IL,rr,zJ,zK,zL,zM,xr,zN,zO,F',Ga,Gb,Gc,Gd,u32,MJ,MK,ML,MM,MN,MO,MP,MQ,MR,MS,Rx],defers:=ds}/\xp=r c (k:Nat)/\k<=5/\kq W.heap.size w ds/\Bu W cN gC nodes X Y c8 k w) (λa _=>5-(cu (a.tmps.getD 12 undef)).toNat) ?_ ?_
 ·exact⟨0,_,_,_,_,_,_,_,_,_,_,_,_,_,_,_,_,_,_,_,_,_,_,_,_,_,_,_,_,_,_,_,_,_,_,_,[],rfl,rfl,G,trivial,tV.o⟩
 rintro _ w ⟨k,cz,hI,mG,xp,wb,xq,Bv,u16,Bw,IL,rr,zJ,zK,zL,zM,xr,zN,zO,F',Ga,Gb,Gc,Gd,u32,MJ,MK,ML,MM,MN,MO,MP,MQ,MR,MS,Rx,ds,rfl,rfl,K,jT,bS⟩;clear tV n3 m' Ru Rv Rw;by_cases a0:k<5
 ·have ie:(k:Int)<5:=G;have ah:=bS.cell a0;obtain⟨hF,jR⟩:=ajZ k a0;have gQ:=(bx w.heap.size w).alloc (bY _) (an #[r c (k:Nat)] 3);have C:=ajX k a0 (m-1) cN nodes X Y c8 _ (bS.raw.a_ (bu.bg gQ)) bS.IK;obtain⟨Ge,yB⟩:∃f,f=wa.getD k 0:=⟨_,rfl⟩;obtain⟨c7,lc⟩:∃c7,c7=(lr nodes X Y c8).getD k []:=⟨_,rfl⟩;rw[<-yB] at ah hF jR C;rw[<-lc] at C;have Yw:=V.new w #[r c (k:Nat)] 3 (0,0);have cS:=I C;have bP:=I gQ;have Yx:=I Yw;have bZ:=I bS;have eU:=I jT;have IM:=I lc;clear C gQ Yw bS jT yB lc;gi_wp2_with fail;refine cS.o.mono ?_;rintro e aJ ⟨gf,lb,rfl,hit,a5⟩;have Yy:=Yx.o.aq a5;have eB:=bP.o.next' a5;have Gf:=I hit;have dT:=I eB;have MT:=I Yy;clear hit eB Yy a5 Yx bP cS hF jR ah;gi_wp2_with fail;refine ajn (ep:=fN) F7 ajY hm (gf:=gf) (lb:=lb) rfl Gf.o.fn.1 Gf.o.fn.2 (λx:fN=>#[aZ #[r c x.dO,r c x.aG,r c x.co,r c x.n,r c x.am,r c x.ag]]) (λ_=>rfl) (λQ ai=>bQ Q.heap.size Q ai) bu (λb7 _=>b7=c7) (aj0 k aJ) (·<+:c7) c7.length
   ?hit ?hSt (λb7 Q=>bQ aJ.heap.size aJ Q/\∀p∈b7,p.bad=ao) ?hIs ?hIp ?hIa ?hSp bu.trans ?hKb ?h0
   (aj1 #[aZ #[r c nodes,bW,bV,aN],a6 (A ⟨cN,0,T⟩),a6 (A ⟨w.heap.size,0,T⟩),.func (.func Ge) #[] #[a6 (A ⟨cN,0,T⟩)],mG,.func (.func 148) #[] #[a6 (A ⟨cN,0,T⟩)],.func (.func 150) #[] #[a6 (A ⟨cN,0,T⟩)],.func (.func 152) #[] #[a6 (A ⟨cN,0,T⟩)],.func (.func 154) #[] #[a6 (A ⟨cN,0,T⟩)],.func (.func 155) #[] #[a6 (A ⟨cN,0,T⟩)],E (A ⟨gC,0,T⟩) 5 5,r c 5,r c (k:Nat),aA ad,r c (k:Nat),a6 (A ⟨gC,k,T⟩),.func (.func Ge) #[] #[a6 (A ⟨cN,0,T⟩)],.func (.func Ge) #[] #[a6 (A ⟨cN,0,T⟩)],.func (.func gf) #[] lb,rr,zJ,zK,zL,zM,xr,zN,zO,F',Ga,Gb,Gc,Gd,u32,MJ,MK,ML,MM,MN,MO,MP,MQ,MR,MS,Rx] aJ) ?hAp ?hassign ?hbody ?hdone ?hthrow
  case hit=>
   intro l bG mS dI hW ee ei h0;refine(ajM (m-1) l gf lb c7 bG mS ee ei dI (Gf.o.a_ (bu.bg hW)) h0).mono ?_;rintro e ls (⟨v,rfl,h⟩|⟨fp,b7,rfl,h1,h2⟩)
   ·exact .inl ⟨v,c7,rfl,rfl,h⟩
   ·exact .inr ⟨fp,b7,rfl,h1,h2⟩
  case hSt=>
   intro Q ai j o mf _ aQ _;exact(mf.block j (gU.1 aQ).1).trans aQ
  case hIs=>
   rintro b7 Q ai ⟨h1,h2⟩ mf;exact⟨h1.next' mf,h2⟩
  case hIp=>
   rintro b7 Q l o dt ⟨h1,h2⟩ aw _ _;exact⟨MH h1 aw,h2⟩
  case hIa=>
   rintro b7 Q o ⟨h1,h2⟩;exact⟨h1.alloc h1.size o,h2⟩
  case hSp=>
   rintro b7 Q l o dt h _ _ _;exact h
  case hKb=>
   intro Q l o dt _ aQ ah;exact bu.put aQ ah
  case h0=>exact⟨bx _ _,λp aP=>by cases aP⟩
  case hAp=>
   rintro pre x a1 Q l o dt ⟨b,e,h1,h2,ap⟩ aw aQ ah;exact⟨b,e,(bu.put aQ ah).aH h1,MH h2 aw,ap⟩
  case hassign=>
   rintro l pre x Q aT ⟨h1,h2⟩ hlen dQ;clear Gf bZ eU IM MT dT;gi_wp2_with fail;refine dQ _ _ ⟨Q.heap.size,rfl,V.new _ _ _ _,h1.alloc h1.size _,h2⟩ ⟨a3,λk o _ K aQ=>(px Q _ k (gU.1 K).1).trans K⟩ (bu.bg ((bx _ _).alloc (bY _) _))
  case hbody=>
   rintro l pre x a1 Q ⟨b,rfl,h1,h2,ap⟩ hlen;simp only[bN,bO,bM];have bb:=(MT.o.aq h2).cell 0;have d0:=h1.cell 0;have d1:=h1.cell 1;have d2:=h1.cell 2;have qd:=h1.cell 3;have FV:=h1.cell 4;have FW:=h1.cell 5;change Q.cell? ⟨w.heap.size,0,T⟩=A (r c (k:Nat)) at bb;change Q.cell? ⟨b,0,T⟩=A (r c x.dO) at d0;change Q.cell? ⟨b,1,T⟩=A (r c x.aG) at d1;change Q.cell? ⟨b,2,T⟩=A (r c x.co) at d2;change Q.cell? ⟨b,3,T⟩=A (r c x.n) at qd;change Q.cell? ⟨b,4,T⟩=A (r c x.am) at FV;change Q.cell? ⟨b,5,T⟩=A (r c x.ag) at FW;have fC:=I h2;have hQ:=I ap;clear h1 h2 ap Gf bZ eU IM MT dT;by_cases lC:x.n<x.am
   ·have IN:aM (x.bad=ad):=I (by unfold fN.bad;simp[lC]);gi_wp2_with fail;refine⟨rfl,⟨a3,λj o _ av _=>(px Q _ j (gU.1 av).1).trans av⟩,pre,x,Q.heap.size,rfl,hQ.o,IN.o,rfl,V.new _ _ _ _,fC.o.alloc fC.o.size _⟩
   by_cases mD:x.ag<=x.n
   ·have IN:aM (x.bad=ad):=I (by unfold fN.bad;simp[mD]);gi_wp2_with fail;refine⟨rfl,⟨a3,λj o _ av _=>(px Q _ j (gU.1 av).1).trans av⟩,pre,x,Q.heap.size,rfl,hQ.o,IN.o,rfl,V.new _ _ _ _,fC.o.alloc fC.o.size _⟩
   have MU:aM (x.bad=ao):=I (by unfold fN.bad;simp[lC,mD]);gi_wp2_with fail;refine⟨⟨bY _,λj o _ av _=>av⟩,bu.refl _,fC.o,λp aP=>?_⟩;rcases fJ.1 aP with aP|aP
   ·exact hQ.o p aP
   ·obtain rfl:=f2.1 aP;exact MU.o
  case hdone=>
   rintro aF b7 Q fh rfl ⟨h1,h2⟩ dQ;have Bx:=eU.o.more (dT.o.next' h1) bZ.o.below.size (cM dT.o.size fh) dQ;have Yz:Bu W cN gC nodes X Y c8 (k+1) Q:=by
    have h:=bZ.o.to (dT.o.next' h1);exact⟨h.below,h.raw,h.tell,aj3 a0 h.IK (by rw[<-IM.o];exact h2)⟩
   have yC:=I Bx;have aj6:=I Yz;clear Bx Yz h1 h2 dQ Gf bZ eU IM MT dT;gi_wp2_with fail;refine⟨⟨k+1,_,_,_,_,_,_,_,_,_,_,_,_,_,_,_,_,_,_,_,_,_,_,_,_,_,_,_,_,_,_,_,_,_,_,_,_,rfl,by go_num,a0,yC.o,aj6.o⟩,?_⟩;show 5-((k:Int)+1).toNat<5-((k:Int)).toNat;omega
  case hthrow=>
   rintro aF fp b7 Q fh nJ ⟨pre,x,b,rfl,hg,IN,rfl,DD,xs⟩ dQ;have Bx:=eU.o.more (dT.o.next' xs) bZ.o.below.size (cM dT.o.size fh) dQ;have iD:n6 (lr nodes X Y c8) 0=A (k,x):=aj4 a0 bZ.o.IK (by rw[<-IM.o];exact ajW nJ hg IN);refine DC a3 _ _ Bx (bZ.o.below.trans ((dT.o.next' xs).mono bZ.o.below.size)) λD eQ fi=>?_;exact⟨.inr ⟨b,k,x,rfl,iD,eQ.aH DD⟩,fi⟩
 ·obtain rfl:k=5:=G;have sb:aM (n6 (lr nodes X Y c8) 0=T):=I (Rt (lr nodes X Y c8) 5 0 bS.IK (bY 5));have bZ:=I bS;have eU:=I jT;clear bS jT;gi_wp2_with fail;refine DC a3 _ _ eU.o bZ.o.below λD eQ fi=>?_;exact⟨_,by simp[gq,results83,go_sem],.inl ⟨rfl,sb.o⟩,fi⟩
end
theorem aj7 (U:Nat) (w:O):CallsD aa 82 #[a6 (A ⟨U,0,T⟩)] .returning w λe ed D=>e=au (b8 #[])/\ed= .returning/\D=w:=by
 refine L2 aAR rfl λyD cs Z=>?_;apply Qr;apply Qs;simp[wpOpsS,go_sem,recoverD,Z,aAS,Qv];refine L3 ?_;simp only[gI,gJ,gK,bN,bO,bM,gL,fW,f1];go_wp2;cases yD
 simp_all [bodyPostS,gq,aAU]
theorem aj8 (U b:Nat) (w:O) (v1:ac) (h1:V w U #[v1] 35):
 CallsD aa 82 #[a6 (A ⟨U,0,T⟩)] (.panicking (looked b)) w λe ed D=>
  e=au (b8 #[])/\ed= .panicking [{v:= .iface 146 (aZ #[a6 (A ⟨b,0,T⟩)]),recovered:=ad}]/\
   D=(w.setCell ⟨U,0,T⟩ (.iface 146 (aZ #[a6 (A ⟨b,0,T⟩)]))).alloc (an #[a6 (A ⟨b,0,T⟩)] 146):=by
 have aj9:∀w:O,(Instr.typeAssert (.iface 146 (aZ #[a6 (A ⟨b,0,T⟩)])) 20 146 ad).run aa w= .ok (b8 #[aZ #[a6 (A ⟨b,0,T⟩)],aA ad]) w:=λ_=>by rfl
 have a0:=h1.lt;have aV:=h1.cell 0;have f6:=h1.free 0 (Or.inr (cQ _));change w.cell? ⟨U,0,T⟩=A v1 at aV;unfold looked;refine L2 aAR rfl λyD cs Z=>?_;apply Qr;apply Qs;simp[wpOpsS,go_sem,recoverD,Z,aAS,Qv];refine L3 ?_;simp only[gI,gJ,gK,bN,bO,bM,gL,fW,f1];go_wp2;cases yD
 simp_all [bodyPostS,gq,aAU]
theorem YA {fn:Func} (h:(gq fn tmps).run aa w= .ok v w) (cf:aj (au v) w):Leaves aa fn tmps aj [] .returning w:=⟨v,h,cf⟩
def Checked (W':O) (v:ac) (nodes:Int) (X Y:List Int) (c8:List bd):Prop:=
 (v=nj/\n6 (lr nodes X Y c8) 0=T)\/
 (∃b k p,v= .iface 146 (aZ #[a6 (A ⟨b,0,T⟩)])/\n6 (lr nodes X Y c8) 0=A (k,p)/\V W' b #[r c p.co,r c (k:Nat),r c p.dO,r c p.aG] 105)
theorem aj_ (bW bV aN:ac) (nodes:Int) (X Y:List Int) (c8:List bd) (w:O) (ak:cR w bW X) (az:cR w bV Y) (ha:mF w aN c8):
 aE aa 33 #[aZ #[r c nodes,bW,bV,aN]] w λe D=>∃v,e=au v/\Checked D v nodes X Y c8/\bQ w.heap.size w D:=by
 have g_:∀(fn:Fn) (first cap:Array ac) (w:O),(LY fn first cap).run aa w= .ok (.func fn first cap) w:=λ_ _ _ _=>rfl;have aX:=(bx w.heap.size w).alloc (bY _) (an #[r c nodes,bW,bV,aN] 31);have a5:=aX.alloc a3 (an #[nj] 35);have ar:V ((w.alloc (an #[r c nodes,bW,bV,aN] 31)).alloc (an #[nj] 35)) (w.heap.size+1) #[nj] 35:=by
  have h:=V.new (w.alloc (an #[r c nodes,bW,bV,aN] 31)) #[nj] 35 (0,0)
  rwa[d8] at h
 have K:=bu.bg a5;have C:=(aj5 1 (bY 1) bW bV aN nodes X Y c8 _ (ak.a_ K) (az.a_ K) (ha.a_ K)).calls (λ_=>by simp[hn,lR,Fence.room]);have cS:=I C;have bP:=I a5;have cW:=I ar;obtain⟨jE,jF,rfl,_⟩:=ak;obtain⟨jS,lU,rfl,_⟩:=az;obtain⟨dG,ga,rfl,_⟩:=ha;clear aX a5 ar K C
 go_enter_defers func33,ntmps33
 go_wp2_with fail;refine cS.o.mono ?_;rintro e aJ ⟨(⟨rfl,nH⟩|⟨b,k,p,rfl,iD,DD⟩),ck⟩
 ·have iq:=cW.o.aq ck;have pK:=(bP.o.next' ck).setCell (p:=⟨w.heap.size+1,0,T⟩) (by show w.heap.size<=w.heap.size+1;omega) nj;have Gg:=iq.set 0 nj;have aV:=iq.cell 0;have f6:=iq.free 0 (Or.inr (cQ _));change aJ.cell? ⟨w.heap.size+1,0,T⟩=A nj at aV;have zP:=I pK;have Gh:=I Gg;have c9:=I nH;clear iq ck pK Gg nH cS bP cW;go_wp2_with fail;have d1:=Gh.o.cell 0;generalize aJ.setCell ⟨w.heap.size+1,0,T⟩ nj=hR at*;change hR.cell? ⟨w.heap.size+1,0,T⟩=A nj at d1;refine Ii (f:=82) (args:=#[a6 (A ⟨w.heap.size+1,0,T⟩)]) a3 (by simp[go_sem]) ?_;refine(aj7 (w.heap.size+1) hR).mono ?_;rintro e ed fo ⟨rfl,rfl,rfl⟩;exact YA (v:=nj) (by simp[gq,aAV,go_sem,d1]) ⟨_,rfl,.inl ⟨rfl,c9.o⟩,zP.o⟩
 ·have iq:=cW.o.aq ck;have mT:=DD.lt;have b9:b≠w.heap.size+1:=λe=>by
   subst e;have a4:=(show aJ.heap[w.heap.size+1]? =A _ from iq).symm.trans (show aJ.heap[w.heap.size+1]? =A _ from DD);cases a4
  refine Ii (f:=82) (args:=#[a6 (A ⟨w.heap.size+1,0,T⟩)]) a3 (by simp[go_sem]) ?_;refine(aj8 (w.heap.size+1) b aJ _ iq).mono ?_;rintro e ed fo ⟨rfl,rfl,rfl⟩;have pK:=((bP.o.next' ck).setCell (p:=⟨w.heap.size+1,0,T⟩) (by show w.heap.size<=w.heap.size+1;omega) (.iface 146 (aZ #[a6 (A ⟨b,0,T⟩)]))).alloc (by simpa using(bP.o.next' ck).size) (an #[a6 (A ⟨b,0,T⟩)] 146);have Gg:=(iq.set 0 (.iface 146 (aZ #[a6 (A ⟨b,0,T⟩)]))).alloc (an #[a6 (A ⟨b,0,T⟩)] 146);have hfz:=(DD.gr ⟨w.heap.size+1,0,T⟩ (.iface 146 (aZ #[a6 (A ⟨b,0,T⟩)])) b9).alloc (an #[a6 (A ⟨b,0,T⟩)] 146);generalize(aJ.setCell ⟨w.heap.size+1,0,T⟩ (.iface 146 (aZ #[a6 (A ⟨b,0,T⟩)]))).alloc (an #[a6 (A ⟨b,0,T⟩)] 146)=hR at*;have d1:=Gg.cell 0;change hR.cell? ⟨w.heap.size+1,0,T⟩=A (.iface 146 (aZ #[a6 (A ⟨b,0,T⟩)])) at d1;exact YA (v:= .iface 146 (aZ #[a6 (A ⟨b,0,T⟩)])) (by simp[gq,aAV,go_sem,d1]) ⟨_,rfl,.inr ⟨b,k,p,rfl,iD,hfz⟩,pK⟩
end Go.Proofs.YtnmliebconiefaaGreatDoor
