/- Texts of TopTriangle's and TopMoved's walks, made small by a printer; no conditions. -/
import Derived.Test.YtnmliebconiefaaGreatDoorQ01
import Derived.Maps.OwnOps
import Derived.Carry
import Derived.Laws.EntriesVeiled
open Bool renaming false→ao,true→ad
open Go renaming Calls→aE,DataW→kc,Deferred→j2,TypeId→cY,Value→ac,World→O,maxLen→ff,plainElem→sN,results→gq,zeroValue→L8
open Go.Builtin renaming delete_→aBy
open Go.Ending renaming returned→au
open Go.Fence renaming wide→dY
open Go.Instr renaming entryStore→xb,findKey→FP,findNow→tL,lookup→l',mapEntry→xa,mapUpdate→uN,sameNow→Is,typeAssert→L4
open Go.IntKind renaming i64→c,u64→j4
open Go.Lit renaming int→vZ
open Go.Maps renaming has→o6,size→Do
open Go.Obj renaming cells→an
open Go.Proofs.Tryz renaming func310→aBw,prog→aa,results267→aiB,underlying352→aBx
open Go.Result renaming andThen→o5,ok→QG
open Go.RowKit renaming Below→bQ,intOf→cu
open Go.Value renaming agg→aZ,bool→aA,int→r,nilIface→nj,pointer→a6,slice→E,tuple→b8,bool→Ir,int→kK,ownBlock→A9,slice→iB,tuple→Iq
open Go.World renaming cell?→FI
open Go.World.mapTurned renaming grown→aH6
open Go.World.ownsMap renaming isMap→aBv
open Int renaming mul_add→aBu
open List renaming take_sublist→aBq
open List.Sublist renaming refl→aBr
open Nat renaming reduceAdd→gA,reduceSub→g1
open Option renaming none→T,some→A
open Or renaming inr→hD
open Prod renaming fst→XE,snd→Dr
namespace Go.Proofs.YtnmliebconiefaaGreatDoor
open Go.RowKit Go.Shelf Go.Proofs.Tryz
set_option linter.all false
set_option maxRecDepth 100000
set_option maxHeartbeats 32000000
def aiw:=@Array.getElem?_toList
def FQ:=@Go.CallsIn.inRound
def aiy:=@Go.DataW.lit.injEq
def r6:=@Int.eq_ofNat_of_zero_le
def XG:=@Int.mul_le_mul_of_nonneg_left
def QK:=@Int.natCast_add
def aix:=@Int.zero_add
def o7:=@Go.IntWalk.i64_in
def XK:=@List.eq_nil_iff_forall_not_mem
def XF:=@List.getElem_map
def aiu:=@List.getLastD_cons
def aiA:=@List.length_filter_le
def QH:=@List.mem_map_of_mem
def L9:=@List.mem_of_getElem?
def L_:=@List.prefix_rfl
def aiv:=@List.sum_cons
def QL:=@List.take_take
def aiz:=@Go.Lit.int.injEq
def Dq:=@Go.Maps.keyOf_int_mk
def ait:=@Go.Maps.size_put
def tM:=@Nat.le_of_eq
def XI:=@Nat.lt_trans
def XJ:=@Nat.min_eq_left
def yp:=@Go.Proofs.Tryz.underlying155
def qP:=@Go.Proofs.Tryz.underlying3
def XH:=@Go.Proofs.Tryz.underlying72
def QI:=@Go.Proofs.Tryz.underlying79
def Dp:=@Go.World.ownsMap.lt
def XC:=@Go.World.ownsMap_made
def L':=@Go.belowK_b
def QF:=@Go.plainElem_int
def XD:=@Go.plainElem_int_inv
def mQ:=@Go.results_none
def Bc:=@Go.RowKit.run_makeMap
def Ma:=@Go.wpIn_rangeFunc_ownG
def jj:=@Go.wp_region_held
variable {cs:Array ac} {bL d eh fl fu id n s t x:Int} {bc f:Int → Option Int} {l:List (Int × ac)} {C:List Int} {Q S:List bd} {L:List bw} {R ab ai am b i k m n7 p:Nat} {fr:Nat × Nat} {F:Nat → Prop} {D W' w:O} {cU v:ac} {a:bd} {y:bw} {e:cY} {aF:kc Unit}
def kE (g:Raw) (i:Int):Option bd:=if 0<=i/\i<(g.arcs.length:Int) then g.arcs[i.toNat]? else T
def mn (g:Raw):Int->List Int->Option (List Int)
 |_,[]=>A []
 |s,i::L=>match kE g i with
  |some a=>if a.1=s then(mn g a.2.1 L).map (a.2.1::·) else T
  |none=>T
def tN (g:Raw) (L:List Int):Int:=(L.map λi=>((kE g i).getD (0,0,0)).2.2).sum
def ws (s:Int) (l:List Int):Int:=l.getLastD s
theorem Nq (s v:Int) (l:List Int):ws s (v::l)=ws v l:=by
 unfold ws;cases l with
 |nil=>rfl
 |cons a l=>rw[aiu,aiu]
theorem Z7 (s v:Int) (l:List Int):ws s (l++[v])=v:=by
 induction l generalizing s with
 |nil=>rfl
 |cons a l d4=>rw[fW,Nq];exact d4 a
theorem GC {g:Raw} {i:Int} {L l:List Int} (h:mn g s (i::L)=A l):∃a i3,kE g i=A a/\a.1=s/\mn g a.2.1 L=A i3/\l=a.2.1::i3:=by
 rw[mn] at h;split at h
 ·rename_i a ha;split at h
  ·rename_i aB;obtain⟨i3,h1,h2⟩:=Option.map_eq_some_iff.1 h;exact⟨a,i3,ha,aB,h1,h2.symm⟩
  ·cases h
 ·cases h
theorem Z8 {g:Raw}:∀{L l:List Int} {s:Int},mn g s L=A l->l.length=L.length
 |[],l,s,h=>by cases h;rfl
 |i::L,l,s,h=>by
  obtain⟨a,i3,_,_,h1,rfl⟩:=GC h;simp[Z8 h1]
theorem Sm {g:Raw}:∀{L M l:List Int} {s:Int},mn g s L=A l->mn g s (L++M)=(mn g (ws s l) M).map (l++·)
 |[],M,l,s,h=>by
  cases h;show mn g s M=(mn g s M).map _;cases mn g s M<;>rfl
 |i::L,M,l,s,h=>by
  obtain⟨a,i3,h1,h2,ap,rfl⟩:=GC h;rw[fW,mn,h1];simp only[h2,if_true];rw[Sm ap,Nq,Option.map_map];rfl
theorem Z9 {g:Raw}:∀{L l:List Int} {s:Int} (k:Nat),mn g s L=A l->mn g s (L.take k)=A (l.take k)
 |[],l,s,k,h=>by cases h;simp[mn]
 |i::L,l,s,0,h=>rfl
 |i::L,l,s,k+1,h=>by
  obtain⟨a,i3,h1,h2,ap,rfl⟩:=GC h;rw[LZ,mn,h1];simp only[h2,if_true];rw[Z9 k ap];rfl
theorem alO (g:Raw) (L M:List Int):tN g (L++M)=tN g L+tN g M:=by unfold tN;rw[qc,List.sum_append]
def z7 (st:List Int×List Int) (p:Int×Int):List Int×List Int:=
 if p.2∈st.1 then(st.1.take (st.1.idxOf p.2+1),st.2.take (st.1.idxOf p.2)) else(st.1++[p.2],st.2++[p.1])
def Nr (s:Int) (c7:List (Int×Int)):List Int×List Int:=c7.foldl z7 ([s],[])
structure xB (g:Raw) (s:Int) (st:List Int×List Int):Prop where
 nodup:st.1.Nodup
 walk:∃l,st.1=s::l/\mn g s st.2=A l
theorem xB.start (g:Raw) (s:Int):xB g s ([s],[]):=⟨a3,[],rfl,rfl⟩
theorem xB.last {g:Raw} {st:List Int×List Int} (h:xB g s st):∃l,st.1=s::l/\mn g s st.2=A l/\st.1.getLastD s=ws s l:=by
 obtain⟨l,h1,h2⟩:=h.walk;exact⟨l,h1,h2,by rw[h1,aiu];rfl⟩
theorem xB.step {g:Raw} {st:List Int×List Int} (h:xB g s st) {i:Int} (ha:kE g i=A a) (aB:a.1=st.1.getLastD s):xB g s (z7 st (i,a.2.1))/\(z7 st (i,a.2.1)).1.getLastD s=a.2.1:=by
 obtain⟨l,h1,h2,ap⟩:=h.last;unfold z7;split
 ·rename_i hm;dsimp only at hm⊢;have K:st.1.idxOf a.2.1<st.1.length:=Ip hm;have alP:st.1[st.1.idxOf a.2.1]? =A a.2.1:=by
   rw[eA K];exact congrArg A (List.getElem_idxOf K)
  refine⟨⟨h.nodup.sublist (aBq _ _),l.take (st.1.idxOf a.2.1),?_,?_⟩,?_⟩
  ·generalize st.1.idxOf a.2.1=k;rw[h1,LZ]
  ·exact Z9 _ h2
  ·rw[List.getLastD_eq_getLast?,List.getLast?_take];simp[alP]
 ·rename_i hm;dsimp only at hm⊢;refine⟨⟨?_,l++[a.2.1],by rw[h1];rfl,?_⟩,?_⟩
  ·rw[A'];exact⟨h.nodup,a3,λx ak y az=>by rw[f2.1 az];exactλe=>hm (e▸ak)⟩
  ·rw[Sm h2,mn,ha];have e:a.1=ws s l:=aB.trans ap;simp only[e,if_true,mn];rfl
  ·exact Z7 s a.2.1 st.1
theorem alQ (st:List Int×List Int) (p:Int×Int):(z7 st p).2.Sublist (st.2++[p.1]):=by
 unfold z7;split
 ·exact(aBq _ _).trans (List.sublist_append_left _ _)
 ·exact aBr _
theorem Z_ {g:Raw}:∀(L l:List Int) (cur:Int) (st:List Int×List Int),xB g s st->st.1.getLastD s=cur->mn g cur L=A l->
 xB g s ((L.zip l).foldl z7 st)/\((L.zip l).foldl z7 st).1.getLastD s=ws cur l/\((L.zip l).foldl z7 st).2.Sublist (st.2++L)
 |[],l,cur,st,h,ah,bU=>by
  cases bU;exact⟨h,ah,a3⟩
 |i::L,l,cur,st,h,ah,bU=>by
  obtain⟨a,i3,h1,h2,ap,rfl⟩:=GC bU;obtain⟨cO,cq⟩:=h.step h1 (h2.trans ah.symm);obtain⟨aV,bb,ch⟩:=Z_ L i3 a.2.1 _ cO cq ap;rw[List.zip_cons_cons,FM];refine⟨aV,by rw[bb,Nq],ch.trans ?_⟩;have:=(alQ st (i,a.2.1)).append (aBr L);simpa using this
theorem alR {g:Raw} {L l:List Int} (h:mn g s L=A l):xB g s (Nr s (L.zip l))/\(Nr s (L.zip l)).1.getLastD s=ws s l/\(Nr s (L.zip l)).2.Sublist L:=by
 obtain⟨a,b,R⟩:=Z_ L l s _ (xB.start g s) rfl h;refine⟨a,b,?_⟩;rw[f1] at R;exact R
def kF (a:bd):bd:=(a.2.1,a.1,a.2.2)
def Raw.flip (U:Raw):Raw:={U with arcs:=U.arcs.map kF}
theorem alS {g:Raw} (hg:∀a∈g.arcs,0<=a.2.2/\a.2.2<2147483648) (L:List Int):0<=tN g L/\tN g L<=2147483648*L.length:=by
 induction L with
 |nil=>exact⟨rZ _,by simp[tN]⟩
 |cons i L d4=>
  have h0:0<=((kE g i).getD (0,0,0)).2.2/\((kE g i).getD (0,0,0)).2.2<=2147483648:=by
   unfold kE;split
   ·rename_i h;rw[eA (show i.toNat<g.arcs.length by omega)];have:=hg _ (gB (show i.toNat<g.arcs.length by omega));simp only[sM];omega
   ·simp
  unfold tN at d4⊢;rw[zy,aiv,fV];generalize(List.map (λi=>((kE g i).getD (0,0,0)).2.2) L).sum=z at*;generalize((kE g i).getD (0,0,0)).2.2=y at*
  push_cast
  omega
theorem alT {g:Raw} {L l:List Int} {i:Int} (h:mn g s L=A l):mn g s (L++[i])=match kE g i with
 |some a=>if a.1=ws s l then A (l++[a.2.1]) else T
 |none=>T:=by
 rw[Sm h,mn];cases kE g i with
 |none=>rfl
 |some a=>
  simp only;split<;>simp[mn]
theorem Z' {g:Raw} (hg:∀a∈g.arcs,0<=a.2.1/\a.2.1<g.nodes):∀{L l:List Int} {s:Int},mn g s L=A l->∀v∈l,0<=v/\v<g.nodes
 |[],l,s,h,v,aK=>by cases h;cases aK
 |i::L,l,s,h,v,aK=>by
  obtain⟨a,i3,h1,h2,ap,rfl⟩:=GC h;rcases gg.1 aK with rfl|aK
  ·unfold kE at h1;split at h1
   ·exact hg a (L9 h1)
   ·cases h1
  ·exact Z' hg ap v aK
theorem t6:∀(m:Nat) (l:List Int),l.Nodup->(∀v∈l,0<=v/\v<(m:Int))->l.length<=m
 |0,l,_,ar=>by
  cases l with
  |nil=>exact bY _
  |cons a l=>have:=ar a uL;omega
 |m+1,l,h,ar=>by
  by_cases hm:(m:Int)∈l
  ·have h1:=t6 m (l.erase (m:Int)) (h.erase _) (λv aK=>by
    obtain⟨h2,ap⟩:=(h.mem_erase_iff).1 aK;have:=ar v ap;omega)
   rw[aik hm] at h1;omega
  ·have h1:=t6 m l h (λv aK=>by
    have:=ar v aK;have b9:v≠(m:Int):=λe=>hm (e▸aK);omega)
   omega
section
inductive dP (Q:List bd) (s:Int):Int->Int->Prop
 |nil:dP Q s s 0
 |snoc {u d:Int} (a:bd):dP Q s u d->a∈Q->a.1=u->dP Q s a.2.1 (d+a.2.2)
theorem dP.s8 (bU:∀a∈Q,0<=a.2.2) (h:dP Q s t d):0<=d:=by
 induction h with
 |nil=>exact rZ _
 |snoc a _ ha _ d4=>have:=bU a ha;omega
theorem dP.trans {u e:Int} (h:dP Q s u d) (k:dP Q u t e):dP Q s t (d+e):=by
 induction k with
 |nil=>rw[Int.add_zero];exact h
 |snoc a _ ha he d4=>rw[<-Int.add_assoc];exact d4.snoc a ha he
theorem dP.mono {ai:List bd} (mf:∀a∈Q,a∈ai) (h:dP Q s t d):dP ai s t d:=by
 induction h with
 |nil=>exact .nil
 |snoc a _ ha he d4=>exact d4.snoc a (mf a ha) he
theorem dP.one (ha:a∈Q):dP Q a.1 a.2.1 a.2.2:=by
 have:=(dP.nil (Q:=Q) (s:=a.1)).snoc a ha rfl
 rwa[aix] at this
theorem dP.rev (h:dP Q s t d):dP (Q.map kF) t s d:=by
 induction h with
 |nil=>exact .nil
 |snoc a _ ha he d4=>
  subst he;have h1:dP (Q.map kF) a.2.1 a.1 a.2.2:=dP.one (a:=kF a) (QH ha);rw[Int.add_comm];exact h1.trans d4
theorem flip_flip (Q:List bd):(Q.map kF).map kF=Q:=by
 rw[List.map_map];have:kF∘kF=id:=by funext a;rfl
 rw[this,List.map_id]
theorem dP.z9:dP (Q.map kF) t s d↔dP Q s t d:=by
 constructor
 ·intro h;have:=h.rev
  rwa[flip_flip] at this
 ·exact dP.rev
def f_ (Q:List bd) (s t d:Int):Prop:=dP Q s t d/\∀dS,dP Q s t dS->d<=dS
theorem f_.BU (bU:∀a∈Q,0<=a.2.2) (h:dP Q s t d):∃dS,f_ Q s t dS:=by
 have key:∀(n:Nat) (d:Int),d.toNat=n->dP Q s t d->∃dS,f_ Q s t dS:=by
  intro n
  induction n using Nat.strongRecOn with
  |_ n d4=>
   intro d a9 h;by_cases aw:∃dS,dP Q s t dS/\dS<d
   ·obtain⟨dS,h1,h2⟩:=aw;have:=h1.s8 bU;exact d4 dS.toNat G dS rfl h1
   ·exact⟨d,h,λdS fx=>by
     by_cases ah:d<=dS
     ·exact ah
     ·exact absurd ⟨dS,fx,G⟩ aw⟩
 exact key d.toNat d rfl h
theorem f_.uniq {e:Int} (h:f_ Q s t d) (k:f_ Q s t e):d=e:=by
 have:=h.2 e k.1;have:=k.2 d h.1;omega
theorem f_.z9:f_ (Q.map kF) t s d↔f_ Q s t d:=by
 unfold f_;rw[dP.z9];constructor
 ·rintro⟨h1,h2⟩;exact⟨h1,λdS h=>h2 dS (dP.z9.2 h)⟩
 ·rintro⟨h1,h2⟩;exact⟨h1,λdS h=>h2 dS (dP.z9.1 h)⟩
open Classical in
noncomputable def c1 (Q:List bd) (s t:Int):Int:=if h:∃d,f_ Q s t d then h.choose else 72057594037927936
theorem sl (h:f_ Q s t d):c1 Q s t=d:=by
 unfold c1;rw[dif_pos ⟨d,h⟩];exact(Exists.choose_spec (⟨d,h⟩:∃d,f_ Q s t d)).uniq h
theorem z_ (h:∀d,¬dP Q s t d):c1 Q s t=72057594037927936:=by
 unfold c1;rw[dif_neg];rintro⟨d,a9,_⟩;exact h d a9
theorem BV:c1 (Q.map kF) t s=c1 Q s t:=by
 by_cases h:∃d,f_ Q s t d
 ·obtain⟨d,h⟩:=h;rw[sl h,sl (f_.z9.2 h)]
 ·unfold c1;rw[dif_neg h,dif_neg];rintro⟨d,a9⟩;exact h ⟨d,f_.z9.1 a9⟩
theorem dP.t7 {R:Int} {p:Int->Int} (aP:∀a∈Q,p a.1<=R*a.2.2+p a.2.1) (h:dP Q s t d):p s<=R*d+p t:=by
 induction h with
 |nil=>omega
 |snoc a _ ha he d4=>
  have:=aP a ha;subst he;rw[aBu];omega
structure nt (Q:List bd) (s:Int) (bc:Int->Option Int) (C:List Int):Prop where
 walk:∀v d,bc v=A d->dP Q s v d
 start:bc s=A 0
 labelled:∀u∈C,∃d,bc u=A d
 exact:∀u∈C,∀d,bc u=A d->f_ Q s u d
 o:∀u∈C,∀d,bc u=A d->∀a∈Q,a.1=u->∃dS,bc a.2.1=A dS/\dS<=d+a.2.2
theorem nt.split (h:nt Q s bc C) {e:Int} (bU:dP Q s t e):
 (∃x kv br a4,x∉C/\bc x=A kv/\kv<=br/\dP Q s x br/\dP Q x t a4/\e=br+a4)\/(t∈C/\∃d,bc t=A d/\d<=e):=by
 induction bU with
 |nil=>
  by_cases aB:s∈C
  ·exact .inr ⟨aB,0,h.start,rZ _⟩
  ·exact .inl ⟨s,0,0,0,aB,h.start,rZ _,.nil,.nil,G⟩
 |@snoc u d a Z ha he d4=>
  rcases d4 with⟨x,kv,br,a4,h1,h2,ap,bl,cL,eI⟩|⟨h1,alW,h2,ap⟩
  ·exact .inl ⟨x,kv,br,a4+a.2.2,h1,h2,ap,bl,cL.snoc a ha he,G⟩
  ·obtain⟨dS,bl,cL⟩:=h.o u h1 alW h2 a ha he;by_cases az:a.2.1∈C
   ·exact .inr ⟨az,dS,bl,G⟩
   ·exact .inl ⟨a.2.1,dS,d+a.2.2,0,az,bl,G,Z.snoc a ha he,.nil,G⟩
theorem nt.pop (h:nt Q s bc C) {R:Int} (ah:0<R) {p:Int->Int} (aP:∀a∈Q,p a.1<=R*a.2.2+p a.2.1) {v:Int} (aK:v∉C) (aw:bc v=A d)
 (tZ:∀x kv,x∉C->bc x=A kv->R*d+p v<=R*kv+p x):f_ Q s v d:=by
 refine⟨h.walk v d aw,λe he=>?_⟩;rcases h.split he with⟨x,kv,br,a4,h1,h2,ap,_,cL,eI⟩|⟨h1,_⟩
 ·have k1:=tZ x kv h1 h2;have k2:=cL.t7 aP;have k3:R*kv<=R*br:=XG ap G;subst eI;have k4:R*d<=R*(br+a4):=by rw[aBu];omega
  exact Int.le_of_mul_le_mul_left k4 ah
 ·exact absurd h1 aK
theorem nt.done (h:nt Q s bc C) (aC:∀x kv,bc x=A kv->x∈C) {e:Int} (bU:dP Q s t e):t∈C:=by
 rcases h.split bU with⟨x,kv,br,a4,h1,h2,_⟩|⟨h1,_⟩
 ·exact absurd (aC x kv h2) h1
 ·exact h1
structure sm (Q:List bd) (s:Int) (bc:Int->Option Int) (C:List Int) (v cU:Int) (S:List bd):Prop where
 walk:∀v d,bc v=A d->dP Q s v d
 start:bc s=A 0
 labelled:∀u∈C,∃d,bc u=A d
 exact:∀u∈C,∀d,bc u=A d->f_ Q s u d
 o:∀u∈C,∀d,bc u=A d->∀a∈Q,a.1=u->∃dS,bc a.2.1=A dS/\dS<=d+a.2.2
 own:bc v=A cU
 least:f_ Q s v cU
 done:∀a∈S,a∈Q->∃dS,bc a.2.1=A dS/\dS<=cU+a.2.2
theorem nt.scan (h:nt Q s bc C) {v:Int} (aw:bc v=A d) (a9:f_ Q s v d):sm Q s bc C v d []:=
 ⟨h.walk,h.start,h.labelled,h.exact,h.o,aw,a9,λ_ h=>by cases h⟩
theorem sm.end {v cU:Int} (h:sm Q s bc C v cU S) (cb:∀a∈Q,a.1=v->a∈S):nt Q s bc (C++[v]):=by
 refine⟨h.walk,h.start,λu Z=>?_,λu Z d a9=>?_,λu Z d a9 a ha he=>?_⟩
 ·rcases fJ.1 Z with Z|Z
  ·exact h.labelled u Z
  ·obtain rfl:=f2.1 Z;exact⟨cU,h.own⟩
 ·rcases fJ.1 Z with Z|Z
  ·exact h.exact u Z d a9
  ·obtain rfl:=f2.1 Z;obtain rfl:=eT (h.own.symm.trans a9);exact h.least
 ·rcases fJ.1 Z with Z|Z
  ·exact h.o u Z d a9 a ha he
  ·obtain rfl:=f2.1 Z;obtain rfl:=eT (h.own.symm.trans a9);exact h.done a (cb a ha he) ha
theorem sm.a_ {v cU:Int} (h:sm Q s bc C v cU S) (a9:bc a.2.1=A d) (hle:d<=cU+a.2.2):sm Q s bc C v cU (S++[a]):=
 ⟨h.walk,h.start,h.labelled,h.exact,h.o,h.own,h.least,λb hb oa=>by
  rcases fJ.1 hb with hb|hb
  ·exact h.done b hb oa
  ·obtain rfl:=f2.1 hb;exact⟨d,a9,hle⟩⟩
theorem sm.closed {v cU:Int} (h:sm Q s bc C v cU S) (ha:a∈Q) (aK:a.1=v) (ah:a.2.1∈C++[v]):sm Q s bc C v cU (S++[a]):=by
 have wt:=h.least.1.snoc a ha aK;rcases fJ.1 ah with ah|ah
 ·obtain⟨d,a9⟩:=h.labelled _ ah;exact h.a_ a9 ((h.exact _ ah d a9).2 _ wt)
 ·have e:=f2.1 ah;rw[e] at wt;exact h.a_ (d:=cU) (by rw[e];exact h.own) (h.least.2 _ wt)
def gb (bc:Int->Option Int) (y d:Int):Int->Option Int:=λx=>if x=y then A d else bc x
theorem nc (bc:Int->Option Int) (y d:Int):gb bc y d y=A d:=if_pos rfl
theorem kG (bc:Int->Option Int) {y:Int} (d:Int) (h:x≠y):gb bc y d x=bc x:=if_neg h
theorem sm.set (bU:∀a∈Q,0<=a.2.2) {v cU:Int} (h:sm Q s bc C v cU S) (ha:a∈Q) (aK:a.1=v) (ah:a.2.1∉C) (aC:a.2.1≠v)
 (aw:∀d,bc a.2.1=A d->cU+a.2.2<d):sm Q s (gb bc a.2.1 (cU+a.2.2)) C v cU (S++[a]):=by
 have wt:=h.least.1.snoc a ha aK;have b9:∀u,u∈C->u≠a.2.1:=λu Z e=>ah (e▸Z);have hle:∀x d,bc x=A d->∃dS,gb bc a.2.1 (cU+a.2.2) x=A dS/\dS<=d:=λx d a9=>by
  by_cases e:x=a.2.1
  ·subst e;exact⟨_,nc _ _ _,bI (aw d a9)⟩
  ·exact⟨d,by rw[kG _ _ e];exact a9,rZ _⟩
 refine⟨λx d a9=>?_,?_,λu Z=>?_,λu Z d a9=>?_,λu Z d a9 b hb he=>?_,?_,h.least,λb hb oa=>?_⟩
 ·by_cases e:x=a.2.1
  ·subst e;rw[nc] at a9;obtain rfl:=eT a9;exact wt
  ·rw[kG _ _ e] at a9;exact h.walk x d a9
 ·by_cases e:s=a.2.1
  ·have h0:=aw 0 (by rw[<-e];exact h.start);have:=h.least.1.s8 bU;have:=bU a ha;omega
  ·rw[kG _ _ e];exact h.start
 ·obtain⟨d,a9⟩:=h.labelled u Z;exact⟨d,by rw[kG _ _ (b9 u Z)];exact a9⟩
 ·rw[kG _ _ (b9 u Z)] at a9;exact h.exact u Z d a9
 ·rw[kG _ _ (b9 u Z)] at a9;obtain⟨d1,h1,h2⟩:=h.o u Z d a9 b hb he;obtain⟨d2,ap,bl⟩:=hle _ _ h1;exact⟨d2,ap,G⟩
 ·rw[kG _ _ (λe=>aC e.symm)];exact h.own
 ·rcases fJ.1 hb with hb|hb
  ·obtain⟨d1,h1,h2⟩:=h.done b hb oa;obtain⟨d2,ap,bl⟩:=hle _ _ h1;exact⟨d2,ap,G⟩
  ·obtain rfl:=f2.1 hb;exact⟨_,nc _ _ _,rZ _⟩
theorem nt.begin (Q:List bd) (s:Int):nt Q s (gb (λ_=>T) s 0) []:=by
 refine⟨λv d h=>?_,nc _ _ _,λ_ h=>(by cases h),λ_ h=>(by cases h),λ_ h=>(by cases h)⟩;by_cases e:v=s
 ·subst e;rw[nc] at h;obtain rfl:=eT h;exact .nil
 ·rw[kG _ _ e] at h;cases h
theorem alX {qp ob:Int->Option Int} {jf jL:List Int} (h1:nt Q s qp jf) (h2:nt (Q.map kF) t ob jL) {found:Int}
 (hf:∀v d e,qp v=A d->ob v=A e->found<=d+e) {p:Int->Int} (aP:∀a∈Q,p a.1<=2*a.2.2+p a.2.1)
 (D3:(∀x kv,qp x=A kv->x∈jf)\/(∀x kv,ob x=A kv->x∈jL)\/∃a b,(∀x kv,x∉jf->qp x=A kv->a<=2*kv+p x)/\(∀x kv,x∉jL->ob x=A kv->b<=2*kv-p x)/\2*found<=a+b)
 {e:Int} (bU:dP Q s t e):found<=e:=by
 rcases h1.split bU with⟨x,kv,br,a4,k1,k2,k3,k4,k5,k6⟩|⟨k1,d,k2,k3⟩
 ·rcases h2.split k5.rev with⟨y,aaa,f6,eF,e4,g7,lI,aab,alY,Jk⟩|⟨e4,d,g7,lI⟩
  ·rcases D3 with aB|aB|⟨a,b,ha,hb,zS⟩
   ·exact absurd (aB x kv k2) k1
   ·exact absurd (aB y aaa g7) e4
   ·have q1:=ha x kv k1 k2;have q2:=hb y aaa e4 g7;have bm:=(dP.z9.1 alY).t7 aP;omega
  ·have:=hf x kv d k2 g7;omega
 ·have:=hf t d 0 k2 h2.start;omega
end
def pf (x y:Int):Int:=if x<y then-1 else if y<x then 1 else 0
theorem aal (x y:Int) (w:O):aE aa 196 #[r c x,r c y] w λe D=>e=au (r c (pf x y))/\D=w:=by
 unfold pf;by_cases h1:x<y
 ·rw[if_pos h1];go_in;go_wp2;go_ret;exact⟨rfl,rfl⟩
 ·rw[if_neg h1];by_cases h2:y<x
  ·rw[if_pos h2];go_in;go_wp2;go_ret;exact⟨rfl,rfl⟩
  ·rw[if_neg h2];go_in;go_wp2;go_ret;exact⟨rfl,rfl⟩
theorem Ss (x y:Int) (w:O):aE aa 195 #[r c x,r c y] w λe D=>e=au (r c (pf x y))/\D=w:=by
 unfold pf;by_cases h1:x<y
 ·rw[if_pos h1];go_in;go_wp2;go_ret;exact⟨rfl,rfl⟩
 ·rw[if_neg h1];by_cases h2:y<x
  ·rw[if_pos h2];go_in;go_wp2;go_ret;exact⟨rfl,rfl⟩
  ·rw[if_neg h2];go_in;go_wp2;go_ret;exact⟨rfl,rfl⟩
theorem aam (a b:Int) (ai:Nat) (w:O) (h0:w.cell? (B ai 0)=A (r c a)) (h1:w.cell? (B ai 1)=A (r c b)):aE aa 194 #[E (A (B ai 0)) 2 2] w λe D=>e=au (r c (if a=0 then b else a))/\D=w:=by
 obtain⟨U,ar⟩:=al (if a=0 then b else a);rw[<-ar];have cW:=I ar;have hM:=I h0;have gX:=I h1;clear ar h0 h1;go_in;go_wp2_with fail
 go_loop [8] (λi=>∃k:Nat,k<=2/\i=r c k/\(1<=k->a=0)/\(2<=k->b=0)) (λi=>2-(cu i).toNat)
 ·exact⟨0,G,rfl,λh=>by omega,λh=>by omega⟩
 ·obtain⟨k,K,rfl,ha,hb⟩:=hrel
  match k,K with
  |0,_=>
   have h0:=hM.o;by_cases e:a=0
   ·have sn:(a==0)=ad:=by rw[e];rfl
    clear ha hb;go_wp2_with fail
    go_round
    ·exact⟨1,G,by go_num,λ_=>e,λh=>by omega⟩
    ·simp[cu]
   ·have sn:(a==0)=ao:=by rw[beq_eq_false_iff_ne];exact e
    have cf:=cW.o;rw[if_neg e] at cf;clear ha hb;go_wp2_with fail;go_ret;exact⟨rfl,rfl⟩
  |1,_=>
   have h1:=gX.o;have e0:=ha G;have cf:=cW.o;rw[if_pos e0] at cf;by_cases e:b=0
   ·have sn:(b==0)=ad:=by rw[e];rfl
    clear ha hb;go_wp2_with fail
    go_round
    ·exact⟨2,G,by go_num,λ_=>e0,λ_=>e⟩
    ·simp[cu]
   ·have sn:(b==0)=ao:=by rw[beq_eq_false_iff_ne];exact e
    clear ha hb;go_wp2_with fail;go_ret;exact⟨rfl,rfl⟩
  |2,_=>
   have e0:=ha G;have br:=hb G;have cf:=cW.o;rw[if_pos e0,br] at cf;clear ha hb;go_wp2_with fail;go_ret;exact⟨rfl,rfl⟩
theorem amf (x y:bw):decide ((if pf x.2 y.2=0 then pf x.1 y.1 else pf x.2 y.2)<0)=decide (a0 x y):=by
 unfold pf a0;apply decide_eq_decide.2;split<;>split<;>(try split)<;>(try split)<;>omega
theorem amg (p g R:Nat) (L:List bw) (i k:Nat) (ag:i<L.length) (K:k<L.length) (w:O) (aP:w.cell? (B p 0)=A (E (A (B g 0)) L.length R)) (hg:∀j,j<L.length->w.cell? (B g (j*2))=A (r c (cn L j).1)/\w.cell? (B g (j*2+1))=A (r c (cn L j).2)):
 aE aa 289 #[J p 0,r c i,r c k] w λe D=>e=au (aA (decide (a0 (cn L i) (cn L k))))/\ae w D:=by
 rw[<-amf];obtain⟨cI,j8⟩:=al ((cn L i).2);obtain⟨c0,j7⟩:=al ((cn L i).1);obtain⟨f8,nN⟩:=al ((cn L k).2);obtain⟨gc,mi⟩:=al ((cn L k).1);obtain⟨St,Su⟩:=hg i ag;obtain⟨Sv,Sw⟩:=hg k K;rw[<-j7] at St;rw[<-j8] at Su;rw[<-mi] at Sv;rw[<-nN] at Sw;rw[<-j7,<-j8,<-mi,<-nN];obtain⟨U,ar⟩:=al (if pf cI f8=0 then pf c0 gc else pf cI f8);have HOr:aM (∀(ai:Nat) (u:O),u.cell? (B ai 0)=A (r c (pf cI f8))->u.cell? (B ai 1)=A (r c (pf c0 gc))->aE aa 194 #[E (A (B ai 0)) 2 2] u λe D=>e=au (r c U)/\D=u):=λai u h0 h1=>by rw[ar];exact aam _ _ ai u h0 h1
 rw[<-ar];clear ar;have yP:(i:Int)<L.length:=G;have Jo:(k:Int)<L.length:=G;have cj:aM (∀u,ae w u->u.cell? (B p 0)=A (E (A (B g 0)) L.length R)/\u.cell? (B g (i*2))=A (r c c0)/\u.cell? (B g (i*2+1))=A (r c cI)/\u.cell? (B g (k*2))=A (r c gc)/\u.cell? (B g (k*2+1))=A (r c f8)):=λu Z=>⟨mP Z aP,mP Z St,mP Z Su,mP Z Sv,mP Z Sw⟩;have d':=I (bx w.heap.size w);clear aP hg St Su Sv Sw j7 j8 mi nN ag K;go_in
 go_upto_region 1 with fail
 refine jj (S:=λD=>D.cell? (B p 0)=A (E (A (B g 0)) L.length R)/\D.cell? (B g (i*2))=A (r c c0)/\D.cell? (B g (i*2+1))=A (r c cI)/\D.cell? (B g (k*2))=A (r c gc)/\D.cell? (B g (k*2+1))=A (r c f8)) rfl ?_;have ax:=cj.o w.drew (d'.o.drew);change wpAnyH _ _ _ _ _ 38 _ _ w.drew;have bf:=I (d'.o.drew);repeat refine fA ?_
 refine fs 16 ?_;refine gE 195 (Ss cI f8 w.drew) ?_;rintro _ _ ⟨⟨rfl⟩,rfl⟩;refine⟨ax,?_⟩;simp only[bN,bM,bO];refine fs 33 ?_;refine gE 196 (aal c0 gc w.drew) ?_;rintro _ _ ⟨⟨rfl⟩,rfl⟩;refine⟨ax,?_⟩;simp only[bN,bM,bO];refine fs 34 ?_;obtain⟨dV,dz⟩:=al (w.drew.alloc (an #[r c (pf cI f8),r c (pf c0 gc)] 3));have hb:bQ w.drew.heap.size w.drew dV:=by rw[dz];exact fb
 have gS:V dV w.drew.heap.size #[r c (pf cI f8),r c (pf c0 gc)] 3:=by rw[dz];exact V.new _ _ _ _
 refine Dw (v:=E (A (B w.drew.heap.size 0)) 2 2) (D:=dV) rfl rfl (by rfl) (by rw[dz];go_simp) ?_;have ef:=I (bf.o.trans (hb.mono bf.o.size))
 replace bf:=ef
 clear ef hb ax dz;have ax:=cj.o dV bf.o;refine⟨ax,?_⟩;simp only[bN,bM,bO];refine fs 35 ?_;refine gE 194 (HOr.o _ dV (gS.cell 0) (gS.cell 1)) ?_;rintro _ _ ⟨⟨rfl⟩,rfl⟩;refine⟨ax,?_⟩;simp only[bN,bM,bO];repeat refine fA ?_
 refine i4 ?_;go_wp2_with fail;go_ret;exact⟨rfl,bf.o⟩
def f0 (h:Nat->Bool) (k:Nat):List Int:=((List.range k).filter h).map λ(i:Nat)=>(i:Int)
theorem wu (h:Nat->Bool) (k:Nat):f0 h (k+1)=f0 h k++(if h k then [(k:Int)] else []):=by
 unfold f0;rw[Io,Xs,qc]
 congr 1
 by_cases K:h k<;>simp[K]
theorem D5 (h:Nat->Bool) (k:Nat):(f0 h k).length<=k:=by
 unfold f0;rw[iT];exact cM (aiA _ _) a3
theorem ami (h:Nat->Bool) {N:Nat} (K:k<=N):f0 h k<+:f0 h N:=by
 induction N with
 |zero=>
  obtain rfl:k=0:=G;exact L_
 |succ N d4=>
  by_cases e:k=N+1
  ·rw[e];exact L_
  ·rw[wu];exact(d4 G).trans (LU _ _)
theorem D6 {h:Nat->Bool}:x∈f0 h k↔∃n:Nat,x=(n:Int)/\n<k/\h n=ad:=by
 unfold f0;simp only[jB,Dj,tI];constructor
 ·rintro⟨n,⟨h1,h2⟩,rfl⟩;exact⟨n,rfl,h1,h2⟩
 ·rintro⟨n,rfl,h1,h2⟩;exact⟨n,⟨h1,h2⟩,rfl⟩
def nu (am gC hc:Nat) (W W':O):Prop:=bQ am W W'/\W'.heap[gC]? =W.heap[gC]? /\W'.heap[hc]? =W.heap[hc]?
theorem nu.trans {gC hc:Nat} {Q ai C:O} (h:nu am gC hc Q ai) (k:nu am gC hc ai C):nu am gC hc Q C:=⟨h.1.trans k.1,k.2.1.trans h.2.1,k.2.2.trans h.2.2⟩
theorem nu.put {gC hc:Nat} (dC:am<=w.heap.size) (hb:gC<w.heap.size/\hc<w.heap.size) (W:O) (l:Nat) (o dt:Obj) (aw:w.heap.size<=l) (h:W.heap[l]? =A o) (h1:o.isCells=ao) (h2:o.isWalk=ao):nu am gC hc W (W.putObj l dt):=
 ⟨L' dC W l o dt aw h h1 h2,jr G,jr G⟩
def iI (x:Int):Array ac:=#[r c x]
theorem vc {F:Fence} {n:Nat} {P:Program} {fn:Func} {tmps:Array ac} {aj:Ending->O->Prop} {u:FrameMode} (Z:u≠ .run):
 ∀(ds:List j2) (w:O),kq ai w ds->(∀D,bu w D->bQ ai w D->LeavesIn F n P fn tmps aj [] u D)->LeavesInM F n P fn tmps aj ds u w
 |[],w,_,h=>h w (bu.refl w) (bx _ _)
 |d::ds,w,⟨⟨aF,e,h1,h2,ap⟩,hm⟩,h=>by
  subst e;refine⟨Z,.inl ⟨_,_,rfl,Xn h2,vc Z ds _ (hm.a_ λe9 Rs ⟨dS,fy,fm⟩=>jr (bI (ap dS fy e9 fm))) λD K fi=>h D ((bu.put h2 rfl).trans K) ((MH (bx _ _) h1).trans fi)⟩⟩
theorem Kept.put {S:Nat->Prop} {a:O} (h:Kept S a w) {l:Nat} {dt:Obj} (aw:a.heap.size<=l):Kept S a (w.putObj l dt):=
 ⟨h.os,h.tape,h.output,by simpa using h.size,λk K aB=>(jr G).trans (h.block k K aB)⟩
theorem kq.aap {aF:Nat} {ds:List j2} (h:kq ai w ds) (K:∀k,ai<=k->k<w.heap.size->(∀cs t fr,w.heap[k]? ≠A (an cs t fr))->(∀eJ R,w.heap[k]? ≠A (.map eJ R))->D.heap[k]? =w.heap[k]?) (fh:w.heap.size<=aF) (cd:ai<=w.heap.size) (dQ:D.heap[aF]? =A (.deferred (A []))):
 kq ai D ({target:= .collected aF,args:=#[]}::ds):=by
 have vd:kq ai D ds:=by
  clear dQ fh
  induction ds with
  |nil=>trivial
  |cons d ds d4=>
   obtain⟨⟨aF,e,h1,h2,ap⟩,hm⟩:=h;exact⟨⟨aF,e,h1,(K aF h1 (gU.1 h2).1 (λcs t fr a4=>by rw[h2] at a4;cases a4) (λeJ R a4=>by rw[h2] at a4;cases a4)).trans h2,ap⟩,d4 hm⟩
 exact⟨⟨aF,rfl,G,dQ,λdS fy e9 fm=>by have:=h.lt dS fy e9 fm;omega⟩,vd⟩
theorem am2 (v:ac) (U:Raw) (w:O) (h:uZ w v U) (aw:U.dR):
 aE aa 44 #[v] w λe D=>∃ca,e=au ca/\qT w.heap.size D ca U/\ae w D:=by
 obtain⟨bW,bV,aN,rfl,ak,az,ha⟩:=h;have mH:=ak.form;have nO:=az.form;have eG:=ha.form;obtain⟨ai,cd⟩:=al w.heap.size;have cq:=(V.new w #[r c U.nodes,bW,bV,aN] 31 (0,0)).alloc (an #[r c 0,E T 0 0,E T 0 0,E T 0 0] 31);have bb:V ((w.alloc (an #[r c U.nodes,bW,bV,aN] 31)).alloc (an #[r c 0,E T 0 0,E T 0 0,E T 0 0] 31)) (w.heap.size+1) #[r c 0,E T 0 0,E T 0 0,E T 0 0] 31:=by
  have h:=V.new (w.alloc (an #[r c U.nodes,bW,bV,aN] 31)) #[r c 0,E T 0 0,E T 0 0,E T 0 0] 31 (0,0)
  rwa[d8] at h
 have hl:=((bx w.heap.size w).alloc (bY _) (an #[r c U.nodes,bW,bV,aN] 31)).alloc a3 (an #[r c 0,E T 0 0,E T 0 0,E T 0 0] 31);have jl:=bu.bg hl;have e7:=I (ak.a_ jl);have ju:=I (az.a_ jl);have dM:=I (ha.a_ jl);have dT:=I cq;have tb:=I bb;rw[<-cd] at dT tb;have wv:aM (ai=w.heap.size):=I cd;obtain⟨jE,qs,jF,rfl⟩:=mH;obtain⟨jS,rF,lU,rfl⟩:=nO;obtain⟨dG,mq,ga,rfl⟩:=eG;obtain⟨e1,qg⟩:=al (ai+1);rw[<-qg] at tb;have tc:aM (e1=ai+1):=I qg;go_in;go_wp2_with fail;rw[show w.heap.size+1=e1 by rw[qg,cd],<-cd];clear cd qg;generalize((w.alloc (an #[r c U.nodes,E jE qs jF,E jS rF lU,E dG mq ga] 31)).alloc (an #[r c 0,E T 0 0,E T 0 0,E T 0 0] 31))=ay at*;refine jQ (λD=>D.cell? (B ai 1)=A (E jE qs jF)/\D.cell? (B ai 2)=A (E jS rF lU)/\D.cell? (B ai 3)=A (E dG mq ga)) 10 rfl ?_;change ej _ _ _ _ _ _ _ 15 _ _ ay.drew;have ax:ay.drew.cell? (B ai 1)=A (E jE qs jF)/\ay.drew.cell? (B ai 2)=A (E jS rF lU)/\ay.drew.cell? (B ai 3)=A (E dG mq ga):=⟨dT.o.cell 1,dT.o.cell 2,dT.o.cell 3⟩;repeat first|refine fS ?_|refine ea ?_
 have a9:=(bx ay.heap.size ay).drew;refine dJ 2 ?_;refine e3 80 #[E jE qs jF] (ME _ U.X ay.drew (e7.o.a_ (bu.bg a9)) aw.1) ?_;rintro e aJ ⟨v1,rfl,D8,aX⟩;refine⟨_,rfl,?_⟩
 replace aX:=a9.next' aX
 have lJ:=dT.o.aq aX;have jI:aJ.cell? (B ai 1)=A (E jE qs jF)/\aJ.cell? (B ai 2)=A (E jS rF lU)/\aJ.cell? (B ai 3)=A (E dG mq ga):=⟨lJ.cell 1,lJ.cell 2,lJ.cell 3⟩;refine⟨λ_=>jI,?_⟩;simp only[bN,bM,bO];repeat first|refine fS ?_|refine ea ?_
 refine dJ 5 ?_;refine e3 80 #[E jS rF lU] (ME _ U.Y aJ (ju.o.a_ (bu.bg aX)) aw.2.1) ?_;rintro e ba ⟨v2,rfl,ww,a5⟩;refine⟨_,rfl,?_⟩;have ck:=aX.next' a5;have lJ:=dT.o.aq ck;refine⟨λ_=>⟨lJ.cell 1,lJ.cell 2,lJ.cell 3⟩,?_⟩;simp only[bN,bM,bO];refine dJ 8 ?_;refine e3 81 #[E dG mq ga] (Yp _ U.arcs ba (dM.o.a_ (bu.bg ck)) aw.2.2) ?_;rintro e bi ⟨rx,rfl,Jv,c_⟩;refine⟨_,rfl,?_⟩;have cT:=ck.next' c_;have lJ:=dT.o.aq cT;have SQ:=tb.o.aq cT;have ax:bi.cell? (B ai 1)=A (E jE qs jF)/\bi.cell? (B ai 2)=A (E jS rF lU)/\bi.cell? (B ai 3)=A (E dG mq ga):=⟨lJ.cell 1,lJ.cell 2,lJ.cell 3⟩;refine⟨λ_=>ax,?_⟩;simp only[bN,bM,bO];have ir:=o' D8 (a5.next' c_);have iO:=o' ww c_;have mY:∀b,v1.ownBlock=A b->b<aJ.heap.size:=λb hb=>(di D8 hb).2.choose_spec.lt;have mr:∀b,v2.ownBlock=A b->aJ.heap.size<=b:=λb hb=>(di ww hb).1;have g4:=aX.size;have oX:=ck.size;have aj:=Yr (base:=w.heap.size) (U:=U) (n5 ir hl.size) (n5 iO (cM hl.size g4)) (n5 Jv (cM hl.size oX)) (λb h1 h2=>by have:=mY b h1;have:=mr b h2;omega);have SR:=I (hl.next' cT);have g':=D8.ic;have iE:=ww.ic;have jx:=Jv.ic;obtain⟨a1,b2,k1,rfl⟩:=g';obtain⟨a2,cm,k2,rfl⟩:=iE;obtain⟨dX,ii,k3,rfl⟩:=jx;have aV:=lJ.cell 1;have f6:=lJ.free 1 (hD (cQ _));change bi.cell? (B ai 1)=A (E jE qs jF) at aV;refine jG 10 (bi.setCell (B ai 1) (E a1 b2 k1)) ?_;have Ah:=lJ.set 1 (E a1 b2 k1);have bb:=Ah.cell 2;have eF:=Ah.free 2 (hD (cQ _));change(bi.setCell (B ai 1) (E a1 b2 k1)).cell? (B ai 2)=A (E jS rF lU) at bb;repeat refine ea ?_
 refine jG 12 ((bi.setCell (B ai 1) (E a1 b2 k1)).setCell (B ai 2) (E a2 cm k2)) ?_;have Ai:=Ah.set 2 (E a2 cm k2);have ch:=Ai.cell 3;have f3:=Ai.free 3 (hD (cQ _));change((bi.setCell (B ai 1) (E a1 b2 k1)).setCell (B ai 2) (E a2 cm k2)).cell? (B ai 3)=A (E dG mq ga) at ch;repeat refine ea ?_
 refine jG 14 (((bi.setCell (B ai 1) (E a1 b2 k1)).setCell (B ai 2) (E a2 cm k2)).setCell (B ai 3) (E dX ii k3)) ?_;refine fc ?_;change Exit.then _ _ Exit.normal _ _;have vf:=Ai.set 3 (E dX ii k3);have R1:=((aj.set (p:=B ai 1) lJ bj bj (E a1 b2 k1)).set (p:=B ai 2) Ah bj bj (E a2 cm k2)).set (p:=B ai 3) Ai bj bj (E dX ii k3);have hle:w.heap.size<=ai:=by rw[wv.o];exact bY _
 have cc:=((SR.o.setCell (p:=B ai 1) hle (E a1 b2 k1)).setCell (p:=B ai 2) hle (E a2 cm k2)).setCell (p:=B ai 3) hle (E dX ii k3);have fk:=((SQ.gr (B ai 1) (E a1 b2 k1) (by simp[tc.o])).gr (B ai 2) (E a2 cm k2) (by simp[tc.o])).gr (B ai 3) (E dX ii k3) (by simp[tc.o]);generalize((bi.setCell (B ai 1) (E a1 b2 k1)).setCell (B ai 2) (E a2 cm k2)).setCell (B ai 3) (E dX ii k3)=bD at*
 replace vf:V bD ai #[r c U.nodes,E a1 b2 k1,E a2 cm k2,E dX ii k3] 31:=vf
 have bR:=vf.cell 0;have aV:=vf.cell 1;have bb:=vf.cell 2;have ch:=vf.cell 3;change bD.cell? (B ai 0)=A (r c U.nodes) at bR;change bD.cell? (B ai 1)=A (E a1 b2 k1) at aV;change bD.cell? (B ai 2)=A (E a2 cm k2) at bb;change bD.cell? (B ai 3)=A (E dX ii k3) at ch;have e0:=fk.cell 0;have br:=fk.cell 1;have a4:=fk.cell 2;have en:=fk.cell 3;change bD.cell? (B e1 0)=A (r c 0) at e0;change bD.cell? (B e1 1)=A (E T 0 0) at br;change bD.cell? (B e1 2)=A (E T 0 0) at a4;change bD.cell? (B e1 3)=A (E T 0 0) at en;have fr:=jw fk;have j5:=fr 0;have f6:=fr 1;have eF:=fr 2;have f3:=fr 3;have hle:w.heap.size<=e1:=by rw[tc.o,wv.o];omega
 have lZ:=(((fk.set 0 (r c U.nodes)).set 1 (E a1 b2 k1)).set 2 (E a2 cm k2)).set 3 (E dX ii k3);have R2:=(((R1.set (p:=B e1 0) fk bj bj (r c U.nodes)).set (p:=B e1 1) (fk.set 0 (r c U.nodes)) bj bj (E a1 b2 k1)).set (p:=B e1 2) ((fk.set 0 (r c U.nodes)).set 1 (E a1 b2 k1)) bj bj (E a2 cm k2)).set (p:=B e1 3) (((fk.set 0 (r c U.nodes)).set 1 (E a1 b2 k1)).set 2 (E a2 cm k2)) bj bj (E dX ii k3);have a':=(((cc.setCell (p:=B e1 0) hle (r c U.nodes)).setCell (p:=B e1 1) hle (E a1 b2 k1)).setCell (p:=B e1 2) hle (E a2 cm k2)).setCell (p:=B e1 3) hle (E dX ii k3);go_wp2_with fail;generalize(((bD.setCell (B e1 0) (r c U.nodes)).setCell (B e1 1) (E a1 b2 k1)).setCell (B e1 2) (E a2 cm k2)).setCell (B e1 3) (E dX ii k3)=hR at*;have fU:=lZ.cell 0;have fO:=lZ.cell 1;have fD:=lZ.cell 2;have iU:=lZ.cell 3;change hR.cell? (B e1 0)=A (r c U.nodes) at fU;change hR.cell? (B e1 1)=A (E a1 b2 k1) at fO;change hR.cell? (B e1 2)=A (E a2 cm k2) at fD;change hR.cell? (B e1 3)=A (E dX ii k3) at iU;exact gh (v:=aZ #[r c U.nodes,E a1 b2 k1,E a2 cm k2,E dX ii k3]) (by simp[gq,results44,go_sem,fU,fO,fD,iU]) rfl ⟨_,rfl,⟨_,_,_,rfl,R2.1,R2.2.1,R2.2.2.1,R2.2.2.2⟩,a'⟩
theorem am3:DV 86 ns:=by
 refine⟨fg func86 bq rfl,λa u=>?_⟩;obtain⟨gG,a1,a2⟩:=a;go_in;go_wp2_with fail;go_ret;exact⟨rfl,fb⟩
theorem am4:DV 87 mm:=by
 refine⟨fg func87 bq rfl,λa u=>?_⟩;obtain⟨gG,a1,a2⟩:=a;go_in;go_wp2_with fail;go_ret;exact⟨rfl,fb⟩
def eq (w:O) (p:Nat) (g:Raw):Prop:=
 ∃bW bV aN d_ D9,V w p #[r c g.nodes,bW,bV,aN,d_,D9] 135 (0,0)/\cR w bW g.X/\cR w bV g.Y/\mF w aN g.arcs/\ru w d_ (rowsOf ns g.arcs g.nodes.toNat)/\ru w D9 (rowsOf mm g.arcs g.nodes.toNat)
theorem eq.a_ {g:Raw} (h:eq w p g) (K:bu w D):eq D p g:=by
 obtain⟨bW,bV,aN,d_,D9,h1,h2,ap,bl,cL,eI⟩:=h;exact⟨bW,bV,aN,d_,D9,K.aH h1,h2.a_ K,ap.a_ K,bl.a_ K,cL.a_ K,eI.a_ K⟩
def GO (am:Nat) (w:O) (p:Nat) (g:Raw):Prop:=∀fo,w.heap.size<=fo.heap.size->(∀k,am<=k->k<w.heap.size->fo.heap[k]? =w.heap[k]?)->eq fo p g
theorem GO.at {g:Raw} (h:GO am w p g):eq w p g:=h w (bY _) λ_ _ _=>rfl
theorem am5 (v:ac) (U:Raw) (am:Nat) (w:O) (h:qT am w v U) (bK:U.e2) (dC:am<=w.heap.size):
 aE aa 43 #[v] w λe D=>∃p,e=au (J p 0)/\GO am D p U/\ae w D:=by
 obtain⟨bW,bV,aN,rfl,ir,iO,li,vg⟩:=h;have ha:mF w aN U.arcs:=II rfl li;have mH:=ir.ic;have nO:=iO.ic;have eG:=li.ic;obtain⟨N,b1⟩:∃N:Nat,(N:Int)=U.nodes:=⟨U.nodes.toNat,bI bK.nodes⟩;have DN:N<=16777216:=bI bK.nodes;have z0:=alf bK b1;have g_:=@hJ aa;obtain⟨cc,je⟩:=al w.heap.size;obtain⟨a',eB⟩:=al (w.heap.size+1);obtain⟨ay,bA⟩:=al ((w.alloc (an #[r c U.nodes,bW,bV,aN] 31)).alloc (an #[r c U.nodes,bW,bV,aN,E T 0 0,E T 0 0] 135));have aX:=oQ bA;have f7:V ay cc #[r c U.nodes,bW,bV,aN] 31:=by rw[bA,je];exact(V.new _ _ _ _).alloc _
 have qW:V ay a' #[r c U.nodes,bW,bV,aN,E T 0 0,E T 0 0] 135:=by
  rw[bA,eB];have h:=V.new (w.alloc (an #[r c U.nodes,bW,bV,aN] 31)) #[r c U.nodes,bW,bV,aN,E T 0 0,E T 0 0] 135 (0,0)
  rwa[d8] at h
 have GE:=ZD _ ns am3 U.nodes bW bV aN U.arcs N b1 DN bK.arcs z0.1 cc ay f7 (ha.a_ (bu.bg aX));have GQ:=λu (Z:ae ay u)=>ZD _ mm am4 U.nodes bW bV aN U.arcs N b1 DN bK.arcs z0.2 cc u (f7.aq Z) ((ha.a_ (bu.bg aX)).a_ (bu.bg Z));have aaL:=I GE;have aaM:=I GQ;have i5:=I qW;have cX:=I bA;have aaN:=I aX;have eH:=ig ir iO li;have dT:=I eB;have c9:=I b1;clear GE GQ f7 qW bA aX ir iO li vg ha z0 b1;obtain⟨cP,hq,cC,rfl⟩:=mH;obtain⟨eR,iF,ey,rfl⟩:=nO;obtain⟨e',mZ,eD,rfl⟩:=eG;go_in;go_wp2_with fail;rw[<-cX.o,<-dT.o,<-je];clear je eB;refine aaL.o.mono ?_;rintro e aJ ⟨d_,rfl,vh,a5⟩;have aaO:=I vh;have SS:=I a5;have jL:=I (aaM.o aJ a5);clear vh a5 aaL aaM;have am6:∃a n R,d_=E a n R:=by
  obtain⟨a,R,e,_⟩:=aaO.o aJ (bY _) λ_ _ _=>rfl;exact⟨_,_,_,e⟩
 obtain⟨cx,dD,c2,rfl⟩:=am6;go_wp2_with fail;refine jL.o.mono ?_;rintro e ba ⟨D9,rfl,SU,ck⟩;have am7:∃a n R,D9=E a n R:=by
  obtain⟨a,R,e,_⟩:=SU ba (bY _) λ_ _ _=>rfl;exact⟨_,_,_,e⟩
 obtain⟨vi,vj,vk,rfl⟩:=am7;have nd:=SS.o.next' ck;have pg:=i5.o.aq nd;have gR:=pg.cell 4;have gl:=pg.cell 5;change ba.cell? (B a' 4)=A (E T 0 0) at gR;change ba.cell? (B a' 5)=A (E T 0 0) at gl;have fr:=jw pg;have f4:=fr 4;have QS:=fr 5;have q8:=(pg.set 4 (E cx dD c2)).set 5 (E vi vj vk);have GR:=aaN.o.next' nd;have GT:w.heap.size<=a':=by rw[dT.o];omega
 have pK:=(GR.setCell (p:=B a' 4) GT (E cx dD c2)).setCell (p:=B a' 5) GT (E vi vj vk);have am8:a'<ay.heap.size:=i5.o.lt;have hK:=SS.o.size;have oX:=ck.size;have g4:=aaN.o.size;have dE:GO am ((ba.setCell (B a' 4) (E cx dD c2)).setCell (B a' 5) (E vi vj vk)) a' U:=λfo aB K=>by
  have hP:((ba.setCell (B a' 4) (E cx dD c2)).setCell (B a' 5) (E vi vj vk)).heap.size=ba.heap.size:=a3;rw[hP] at aB K;have t':∀k,am<=k->k<ba.heap.size->k≠a'->fo.heap[k]? =ba.heap[k]? :=λk h1 h2 ap=>(K k h1 h2).trans ((d7 _ _ _ _ ap).trans (d7 _ _ _ _ ap));have hold:∀k,am<=k->k<w.heap.size->fo.heap[k]? =w.heap[k]? :=λk h1 h2=>(t' k h1 G G).trans (GR.block k h2);have hy:=jv rfl (fB (D:=fo) eH.o.1 λk K=>hold k (di eH.o.1 K).1 (di eH.o.1 K).2.choose_spec.lt);have ei:=jv rfl (fB (D:=fo) eH.o.2.1 λk K=>hold k (di eH.o.2.1 K).1 (di eH.o.2.1 K).2.choose_spec.lt);have hA:=II rfl (fB (D:=fo) eH.o.2.2 λk K=>hold k (di eH.o.2.2 K).1 (di eH.o.2.2 K).2.choose_spec.lt);have aaP:U.nodes.toNat=N:=bI c9.o;refine⟨_,_,_,_,_,(K a' G G).trans q8,hy,ei,hA,?_,?_⟩
  ·rw[aaP];exact aaO.o fo G λk h1 h2=>(t' k G G G).trans (ck.block k h2)
  ·rw[aaP];exact SU fo G λk h1 h2=>t' k G h2 G
 have m0:=I dE;have zP:=I pK;clear SU ck nd pg fr q8 GR GT pK am8 hK oX g4 dE eH;go_wp2_with fail;go_ret;exact⟨_,rfl,m0.o,zP.o⟩
section
open Go.RowKit Go.Extern.Stop Go.Stop Go.Extern
theorem am9 (v:ac) (w:O):(ReflectliteType.typeOf #[.iface 109 v]).run aa w= .ok (.iface 339 (aZ #[J 1 109])) w:=bq
theorem am_ (w:O):(ReflectliteType.relation "AssignableTo" ReflectliteType.assignableTo #[aZ #[J 1 109],.iface 339 (aZ #[J 1 107])]).run aa w= .ok (aA ao) w:=bq
theorem am' (v:ac) (w:O):(L4 (.iface 109 v) 35 344 ad).run aa w= .ok (b8 #[nj,aA ao]) w:=
 aA2 underlying344 bq bq v _ w
theorem ana (v:ac) (w:O):(L4 (.iface 109 v) 35 347 ad).run aa w= .ok (b8 #[.iface 109 v,aA ad]) w:=bq
theorem anb (n:Nat) (v:ac) (w:O):(Go.method (n+1) 109 v "Unwrap").run aa w= .ok (355,v) w:=bq
theorem anc (e t:Addr) (rs:ac) (w:O) (hg:w.cell? (B 0 0)=A (.iface 339 (aZ #[J 1 35]))) (IP:w.cell? t=A rs) (RA:w.frozen? t=ao):
 aE aa 84 #[.iface 109 (aZ #[a6 (A e)]),.iface 151 (a6 (A t))] w λkM D=>kM=au (aA ad)/\D=(((((w.alloc (an #[a6 (A t)] 151)).alloc (an #[J 1 151,J w.heap.size 0,r j4 150] 244)).alloc (an #[J 1 151,J w.heap.size 0,r j4 150] 244)).alloc (an #[a6 (A e)] 109)).alloc (an #[a6 (A e)] 107)).setCell t (a6 (A e)):=by
 have eI:=@qO aa 157 _ (λargs=>ReflectliteValue.unpack (args.getD 0 (b8 #[]))) func157 bq bq bq bq;have gu:=@qO aa 158 _ (ReflectliteValue.methodAny (ReflectliteValue.valueError "reflectlite.Value.Type" 0) (λt _ _ _=>ReflectliteType.toType t)) func158 bq bq bq bq;have h9:=@qO aa 159 _ (ReflectliteValue.method (ReflectliteValue.valueError "reflectlite.Value.IsNil" 0) ReflectliteValue.isNil) func159 bq bq bq bq;have akp:=@qO aa 347 _ (ReflectliteType.abiMethod λt=>do pure (r .u8 (<-Rtype.kind t))) func347 bq bq bq bq;have akq:=@qO aa 363 _ (ReflectliteType.method ReflectliteType.elem) func363 bq bq bq bq;have akr:=@qO aa 364 _ (ReflectliteType.relation "Implements" ReflectliteType.implements_) func364 bq bq bq bq;have oO:=@qO aa 245 _ ReflectliteType.typeOf func245 bq bq bq bq;have aks:=@qO aa 361 _ (ReflectliteType.relation "AssignableTo" ReflectliteType.assignableTo) func361 bq bq bq bq;have lF:=@qO aa 246 _ (ReflectliteValue.method (ReflectliteValue.valueError "reflectlite.Value.Elem" 0) ReflectliteValue.elem) func246 bq bq bq bq;have sc:=@qO aa 247 _ ReflectliteValue.set func247 bq bq bq bq;have akt:=YO;have aku:=am9;have akv:=am_;have X8:=am';have akw:=ana;have akx:=anb;have aky:=YL;have akz:=YP;have akA:=YQ;have X1:=YB;have xe:=YC;have akB:=YD;have akC:=YJ;have akD:=YK;have k27:=YE;have k25:=YF;have akE:=YM;have i25:=YN;have akF:=YI (B w.heap.size 0) t ((w.alloc (an #[a6 (A t)] 151)).alloc (an #[J 1 151,J w.heap.size 0,r j4 150] 244)) a3;have a0:0<w.heap.size:=by
  rcases Qq w.heap.size with h0|h
  ·simp[FI,h0] at hg
  ·exact h
 have IQ:((w.alloc (an #[a6 (A t)] 151)).alloc (an #[J 1 151,J w.heap.size 0,r j4 150] 244)).cell? (B 0 0)=A (.iface 339 (aZ #[J 1 35])):=by
  rw[r5 _ _ (B 0 0) a3,r5 _ _ (B 0 0) a0];exact hg
 have By:t.block<w.heap.size:=by
  rcases sJ t.block w.heap.size with h|h
  ·exact h
  ·simp[FI,LP h] at IP
 have Ml:=YR (B w.heap.size 0) t ((((w.alloc (an #[a6 (A t)] 151)).alloc (an #[J 1 151,J w.heap.size 0,r j4 150] 244)).alloc (an #[J 1 151,J w.heap.size 0,r j4 150] 244)).alloc (an #[a6 (A e)] 109)) (by rw[r5 _ _ (B w.heap.size 0) (by simp;omega),r5 _ _ (B w.heap.size 0) (by simp;omega)];simp);have st:=YS t (B (w.heap.size+1+1+1+1) 0) e rs (((((w.alloc (an #[a6 (A t)] 151)).alloc (an #[J 1 151,J w.heap.size 0,r j4 150] 244)).alloc (an #[J 1 151,J w.heap.size 0,r j4 150] 244)).alloc (an #[a6 (A e)] 109)).alloc (an #[a6 (A e)] 107))
  (by rw[World.cell?_alloc_at _ _ _ _ a3];rfl)
  (by rw[r5 _ _ t (by simp;omega),r5 _ _ t (by simp;omega),r5 _ _ t (by simp;omega),r5 _ _ t (by simp;omega),r5 _ _ t By];exact IP)
  (by rw[A_ _ _ t (by simp;omega),A_ _ _ t (by simp;omega),A_ _ _ t (by simp;omega),A_ _ _ t (by simp;omega),A_ _ _ t (Nat.ne_of_lt By)];exact RA)
 go_in;go_wp2;refine wp_loop_rounds 2 ?_;rw[Xr];go_wp2;rw[Xr];go_wp2;go_ret;exact⟨rfl,rfl⟩
theorem ane (b:Nat) (cs:Array ac):MV (.iface 109 (aZ #[J b 0])) b cs:=by
 refine⟨⟨_,_,rfl⟩,λt u hg ht _=>?_⟩;have ah:=ht.cell 0;change u.cell? (B t 0)=A (a6 T) at ah;refine(anc (B b 0) (B t 0) _ u hg ah (ht.free 0 (hD (cQ _)))).mono ?_;rintro e D ⟨rfl,rfl⟩;refine⟨rfl,(((((Kept.refl (·=t) u).alloc _).alloc _).alloc _).alloc _|>.alloc _).setCell (p:=B t 0) rfl _,?_⟩;exact(((((ht.alloc _).alloc _).alloc _).alloc _).alloc _).set 0 (J b 0)
end
theorem anf (v:ac) (U:Raw) (w:O) (hg:HG w) (h:uZ w v U) (aw:U.dR):aE aa 15 #[v] w λe D=>
 ((¬U.ok/\∃u,e=au (b8 #[a6 T,u])/\Gi D u U.sd.1 U.sd.2.1 U.sd.2.2.1 U.sd.2.2.2)\/(U.ok/\∃p,e=au (b8 #[J p 0,nj])/\GO w.heap.size D p U))/\ae w D:=by
 have hV:=h;obtain⟨bW,bV,aN,rfl,ak,az,ha⟩:=h;have mH:=ak.form;have nO:=az.form;have eG:=ha.form;obtain⟨ay,bA⟩:=al (w.alloc (an #[r c U.nodes,bW,bV,aN] 31));obtain⟨cc,je⟩:=al w.heap.size;have aX:=dx bA;have f7:=eK bA je;have C:=I (Y0 _ _ _ (hV.below aX));have ang:=I (λu (Z:ae ay u)=>am2 _ U u ((hV.below aX).below Z) aw);have GU:=I (hg.later aX);have bP:=I aX;have t0:=I f7;have cX:=I bA;have ft:=I je;have bU:=U.Y5;clear hV ak az ha aX f7 bA hg aw;obtain⟨_,_,_,rfl⟩:=mH;obtain⟨_,_,_,rfl⟩:=nO;obtain⟨_,_,_,rfl⟩:=eG;go_in;go_wp2_with fail;rw[<-cX.o,<-je];clear je;refine C.o.mono ?_;rintro e aJ ⟨u,rfl,ag,a5⟩;have dT:=I (bP.o.next' a5);have SS:=I a5;rcases ag.form with⟨rfl,b5⟩|⟨⟨kp,anh,rfl⟩,b5⟩
 ·have bK:=bU.1 b5;have NF:=I bK;have k2:=t0.o.aq a5;have bR:=aR k2 0;have aV:=aR k2 1;have bb:=aR k2 2;have ch:=aR k2 3;have pT:=I (ang.o aJ a5);clear ag a5 bK b5 k2 bU;go_wp2_with fail;refine pT.o.mono ?_;rintro e ba ⟨rx,rfl,aQ,ck⟩;have dh:=I (dT.o.next' ck);have Jw:=I (am5 rx U aJ.heap.size ba aQ (U.IR.1 NF.o) ck.size);have SV:∃a b R d,rx=aZ #[a,b,R,d]:=by obtain⟨a,b,R,e,_⟩:=aQ;exact⟨_,_,_,_,e⟩
  obtain⟨_,_,_,_,rfl⟩:=SV;clear aQ ck bR aV bb ch;go_wp2_with fail;refine Jw.o.mono ?_;rintro e bi ⟨p,rfl,aC,c_⟩;have c9:aM (GO w.heap.size bi p U):=I (λfo aB K=>aC fo aB λk h1 h2=>K k (cM dT.o.size h1) h2);have g6:=I (dh.o.next' c_);clear aC c_;go_wp2_with fail
  go_ret2
  exact⟨.inr ⟨NF.o,_,rfl,c9.o⟩,g6.o⟩
 ·have Jx:¬U.ok:=λh=>b5 (bU.2 h);have ani:=I Jx;have pT:=I (aki aJ _ _ _ _ _ (GU.o.later a5) ag);have aaQ:=I b5;clear ag a5 Jx b5 bU;obtain⟨R,ah⟩:=al U.sd;rw[<-ah] at pT aaQ;obtain⟨bR,aV,bb,ch⟩:=R;have anj:=I ah;clear ah;go_wp2_with fail;refine dl pT.o λba ck=>?_;have dh:=I (dT.o.next' ck);have nV:=(bx ba.heap.size ba).alloc (bY _) (an #[r c bR,r c aV,r c bb,r c ch] 105);have g6:=I (dh.o.next' nV);have wv:=I (V.new ba #[r c bR,r c aV,r c bb,r c ch] 105 (0,0));clear ck nV;go_wp2_with fail
  go_ret2
  exact⟨.inl ⟨ani.o,_,rfl,by rw[<-anj.o];exact .inr ⟨aaQ.o,_,ane _ _,wv.o⟩⟩,g6.o⟩
def vl (a:bd):ac:=aZ #[r c a.1,r c a.2.1,r c a.2.2]
theorem ank (v:ac) (L:List bd) (i:Int) (w:O) (h:mF w v L):aE aa 267 #[v,r c i] w λe D=>e=au (b8 #[vl (if 0<=i/\i<L.length then L[i.toNat]?.getD (0,0,0) else(0,0,0)),aA (decide (0<=i/\i<L.length))])/\ae w D:=by
 have h0:=h;obtain⟨a,cap,rfl,_,_,_⟩:=h;by_cases h1:i<0
 ·rw[if_neg G,decide_eq_false G];clear h0;go_in;go_wp2_with fail;exact gh (v:=b8 #[aZ #[r c 0,r c 0,r c 0],aA ao]) (by simp[gq,aiB,go_sem]) rfl ⟨rfl,fb⟩
 ·by_cases h2:(L.length:Int)<=i
  ·rw[if_neg G,decide_eq_false G];clear h0;go_in;go_wp2_with fail;exact gh (v:=b8 #[aZ #[r c 0,r c 0,r c 0],aA ao]) (by simp[gq,aiB,go_sem]) rfl ⟨rfl,fb⟩
  ·obtain⟨n,rfl⟩:=r6 (show 0<=i by omega);obtain⟨b,o,rfl,d0,d1,d2⟩:=h0.at n G;have js:=ew n;have mC:(n:Int)<L.length:=G;rw[if_pos ⟨js,mC⟩,decide_eq_true ⟨js,mC⟩,ko,eA G];obtain⟨x,ak⟩:=al (L[n]'G);rw[<-ak] at d0 d1 d2⊢;clear h0 ak;obtain⟨c0,cI,dB⟩:=x;simp only at d0 d1 d2;have nV:=(bx w.heap.size w).alloc (bY _) (an #[r c 0,r c 0,r c 0] 57);have e0:=mP nV d0;have br:=mP nV d1;have a4:=mP nV d2;clear nV;go_in;go_wp2_with fail;exact gh (v:=b8 #[aZ #[r c c0,r c cI,r c dB],aA ad]) (by simp[gq,aiB,go_sem]) rfl ⟨rfl,fb⟩
def ms (p:Nat):ac:=J p 0
theorem eq.cells {g:Raw} (h:eq w p g):∃cP cC eR ey dG fF cx c2 vi vk dD vj,w.cell? (B p 0)=A (r c g.nodes)/\w.cell? (B p 1)=A (E cP g.X.length cC)/\w.cell? (B p 2)=A (E eR g.Y.length ey)/\w.cell? (B p 3)=A (E dG g.arcs.length fF)/\w.cell? (B p 4)=A (E cx dD c2)/\w.cell? (B p 5)=A (E vi vj vk)/\cR w (E cP g.X.length cC) g.X/\cR w (E eR g.Y.length ey) g.Y/\mF w (E dG g.arcs.length fF) g.arcs/\ru w (E cx dD c2) (rowsOf ns g.arcs g.nodes.toNat)/\ru w (E vi vj vk) (rowsOf mm g.arcs g.nodes.toNat):=by
 obtain⟨bW,bV,aN,d_,D9,h1,h2,ap,bl,cL,eI⟩:=h;have q2:=h2;have bm:=ap;have cZ:=bl;have ek:=cL;have jg:=eI;obtain⟨_,_,rfl,_⟩:=h2;obtain⟨_,_,rfl,_⟩:=ap;obtain⟨_,_,rfl,_⟩:=bl;obtain⟨_,_,rfl,_⟩:=cL;obtain⟨_,_,rfl,_⟩:=eI;exact⟨_,_,_,_,_,_,_,_,_,_,_,_,h1.cell 0,h1.cell 1,h1.cell 2,h1.cell 3,h1.cell 4,h1.cell 5,q2,bm,cZ,ek,jg⟩
theorem l3 (p:Nat) (g:Raw) (w:O) (h:eq w p g):aE aa 27 #[J p 0] w λe D=>e=au (r c g.nodes)/\D=w:=by
 obtain⟨cP,cC,eR,ey,dG,fF,cx,c2,vi,vk,dD,vj,bR,aV,bb,ch,gR,gl,ak,az,ha,aQ,ag⟩:=h.cells;clear h ak az ha aQ ag aV bb ch gR gl;go_in;go_wp2_with fail;go_ret;exact⟨rfl,rfl⟩
theorem D_ (p:Nat) (g:Raw) (i:Int) (w:O) (h:eq w p g):aE aa 197 #[J p 0,r c i] w λe D=>e=au (b8 #[vl (if 0<=i/\i<g.arcs.length then g.arcs[i.toNat]?.getD (0,0,0) else(0,0,0)),aA (decide (0<=i/\i<g.arcs.length))])/\ae w D:=by
 obtain⟨cP,cC,eR,ey,dG,fF,cx,c2,vi,vk,dD,vj,bR,aV,bb,ch,gR,gl,ak,az,ha,aQ,ag⟩:=h.cells;obtain⟨ay,bA⟩:=al (w.alloc (an #[r c 0,r c 0,r c 0] 57));have aX:=dx bA;have o_:=eK bA rfl;have C:=I (ank _ _ i ay (ha.a_ (bu.bg aX)));obtain⟨x,u0⟩:∃x,x=(if 0<=i/\i<g.arcs.length then g.arcs[i.toNat]?.getD (0,0,0) else(0,0,0)):=⟨_,rfl⟩;obtain⟨q,aO⟩:=al (decide (0<=i/\i<(g.arcs.length:Int)));rw[<-u0,<-aO] at C⊢;obtain⟨c0,cI,dB⟩:=x;change aM (aE _ _ _ _ λe D=>e=au (b8 #[aZ #[r c c0,r c cI,r c dB],aA q])/\ae ay D) at C;obtain⟨ai,cd⟩:=al w.heap.size;rw[<-cd] at o_;have en:=mP ((bx w.heap.size w).alloc (bY _) (an #[r c 0,r c 0,r c 0] 57)) ch;have gX:=I aX;have cw:=I o_;have cX:=I bA;have bf:=I cd;clear h ak az ha aQ ag aX o_ bA u0 aO bR aV bb gR gl;go_in;go_wp2_with fail;rw[<-cX.o,<-cd];clear cd;refine dl C.o λaJ a5=>?_;have k2:=cw.o.aq a5;have j5:=k2.free 0 (hD (cQ _));have f6:=k2.free 1 (hD (cQ _));have eF:=k2.free 2 (hD (cQ _));have d0:=aR k2 0;have d1:=aR k2 1;have d2:=aR k2 2;have hle:w.heap.size<=ai:=bI bf.o;have dq:=I (((((gX.o.next' a5).setCell (p:=B ai 0) hle (r c c0)).setCell (p:=B ai 1) hle (r c cI))).setCell (p:=B ai 2) hle (r c dB));have i5:=I k2;clear a5 k2 hle;go_wp2_with fail;have fU:=i5.o.set 0 (r c c0);have fO:=fU.set 1 (r c cI);have fD:=fO.set 2 (r c dB);have r0:=fU.cell 0;have r1:=fO.cell 1;have r2:=fD.cell 2;simp at r0 r1 r2;exact gh (v:=b8 #[aZ #[r c c0,r c cI,r c dB],aA q]) (by simp[gq,results197,go_sem,r0,r1,r2]) rfl ⟨rfl,dq.o⟩
theorem D' (v:ac) (L:List Int) (w:O) (h:cR w v L) (aw:L.length<=1000000000000):aE aa 46 #[v] w λe D=>∃ca,e=au ca/\D.ownsRow w.heap.size 3 1 ca L.length (L.flatMap ec)/\ae w D:=by
 obtain⟨eP,ag,fL,gi,gt⟩:=m6 wn;have aB:=h.row;obtain⟨a,cap,rfl,pI,yA,ap⟩:=h;cases a with
 |none=>
  have h0:L=[]:=by
   cases L with
   |nil=>rfl
   |cons x L=>obtain⟨_,_,_,_,_,e,_⟩:=ap 0 a3;cases e
  subst h0;have aC:=λw=>LX (P:=aa) w 41 3 T 0 cap 0 0 nG;simp only[gp];clear aB ap;go_in;go_wp2;go_ret;exact⟨_,rfl,oG _ _ _ _,bx _ _⟩
 |some xl=>
  have aC:=λw=>LX (P:=aa) w 41 3 (A xl) L.length cap 0 0 nG;have hb:=(bx w.heap.size w).alloc (bY _) (an #[] 3);have g4:r_ 1 (w.alloc (an #[] 3)) (E (A xl) L.length cap) L.length (L.flatMap ec):=by
   obtain⟨q1,q2,a,R,e,bm,cZ,ek⟩:=aB;refine⟨q1,q2,a,R,e,bm,cZ,λj u Z=>?_⟩;obtain⟨b,off,a8,ah⟩:=ek j u Z;exact⟨b,off,a8,mP hb ah⟩
  obtain⟨ca,D,ar,fZ,hg,_⟩:=tU (P:=aa) w.heap.size 41 41 3 eP _ 1 8 nG ag fL gi gt rfl G _ 0 [] (Rp w w.heap.size 3 1 (bY _)) _ L.length _ g4 (by unfold ff;omega) G a3;have fi:ae w D:=⟨hg.os,hg.tape,hg.output,by have:=hg.size;simp at this;omega,λk K=>(hg.block k (by simp;omega) (by simp[A9];omega)).trans (px w _ k K)⟩;have bP:=I fi;have eH:=I fZ;have cW:=I ar;clear aB ap hb g4 fZ hg fi ar;go_in;go_wp2_with(at_builtin;refine uX rfl _ _ _ _ rfl cW.o ?_)
  go_ret;exact⟨_,rfl,by simpa using eH.o,bP.o⟩
theorem aaR (v:ac) (L:List (List Int)) (i:Int) (w:O) (h:ru w v L):aE aa 169 #[v,r c i] w λe D=>∃kP,e=au (b8 #[kP,aA (decide (0<=i/\i<L.length))])/\cR w kP (if 0<=i/\i<L.length then L[i.toNat]?.getD [] else [])/\D=w:=by
 have h0:=h;obtain⟨a,cap,rfl,_,_,_⟩:=h;by_cases h1:i<0
 ·rw[if_neg G,decide_eq_false G];clear h0;go_in;go_wp2_with fail
  go_ret2
  exact⟨_,rfl,⟨T,0,rfl,bY _,cQ _,λi ag=>by cases ag⟩,rfl⟩
 ·by_cases h2:(L.length:Int)<=i
  ·rw[if_neg G,decide_eq_false G];clear h0;go_in;go_wp2_with fail
   go_ret2
   exact⟨_,rfl,⟨T,0,rfl,bY _,cQ _,λi ag=>by cases ag⟩,rfl⟩
  ·obtain⟨n,rfl⟩:=r6 (show 0<=i by omega);obtain⟨fM,nl,e,_,_,ap⟩:=id h0;obtain⟨b,off,cs,t,fr,kP,a8,hb,ah,ar⟩:=ap n G;obtain rfl:a=A (B b off):=(FJ e).1.trans a8;have q:w.cell? (B b (off+n))=A kP:=by rw[hb.cell];exact ah
   have js:=ew n;have mC:(n:Int)<L.length:=G;rw[if_pos ⟨js,mC⟩,decide_eq_true ⟨js,mC⟩,ko,eA G,sM];have cW:=I ar;have hf:=ar.form;obtain⟨_,_,_,rfl⟩:=hf;clear h0 e ap hb ah ar a8;go_in;go_wp2_with fail
   go_ret2
   exact⟨_,rfl,cW.o,rfl⟩
def lj (GV:bd->Int) (g:Raw) (i:Int):List Int:=if 0<=i/\i<(rowsOf GV g.arcs g.nodes.toNat).length then(rowsOf GV g.arcs g.nodes.toNat)[i.toNat]?.getD [] else []
theorem aaS (GV:bd->Int) (g:Raw) (i:Int) (h:∀U∈rowsOf GV g.arcs g.nodes.toNat,U.length<=1000000000000):(lj GV g i).length<=1000000000000:=by
 unfold lj;split
 ·rename_i ag;have aC:i.toNat<(rowsOf GV g.arcs g.nodes.toNat).length:=G;rw[eA aC];exact h _ (gB _)
 ·simp
theorem SW (p:Nat) (g:Raw) (i:Int) (w:O) (h:eq w p g) (aw:∀U∈rowsOf ns g.arcs g.nodes.toNat,U.length<=1000000000000):aE aa 95 #[J p 0,r c i] w λe D=>∃ca,e=au ca/\D.ownsRow w.heap.size 3 1 ca (lj ns g i).length ((lj ns g i).flatMap ec)/\ae w D:=by
 obtain⟨cP,cC,eR,ey,dG,fF,cx,c2,vi,vk,dD,vj,bR,aV,bb,ch,gR,gl,ak,az,ha,aQ,ag⟩:=h.cells;have C:=I (aaR _ _ i w aQ);have fG:=I (aaS ns g i aw);clear h ak az ha aQ ag aw bR aV bb ch gl;go_in;go_wp2_with fail;refine C.o.mono ?_;rintro e ay ⟨kP,rfl,ar,rfl⟩;have jL:=I (D' kP (lj ns g i) ay ar fG.o);have fr:=ar.form;obtain⟨_,_,_,rfl⟩:=fr;clear ar;go_wp2_with fail;refine jL.o.mono ?_;rintro e aJ ⟨ca,rfl,fZ,hb⟩;have eH:=I fZ;have bP:=I hb;have td:=fZ.ic;obtain⟨_,_,_,rfl⟩:=td;clear fZ hb;go_wp2_with fail;go_ret;exact⟨_,rfl,eH.o,bP.o⟩
theorem SX (p:Nat) (g:Raw) (i:Int) (w:O) (h:eq w p g) (aw:∀U∈rowsOf mm g.arcs g.nodes.toNat,U.length<=1000000000000):aE aa 93 #[J p 0,r c i] w λe D=>∃ca,e=au ca/\D.ownsRow w.heap.size 3 1 ca (lj mm g i).length ((lj mm g i).flatMap ec)/\ae w D:=by
 obtain⟨cP,cC,eR,ey,dG,fF,cx,c2,vi,vk,dD,vj,bR,aV,bb,ch,gR,gl,ak,az,ha,aQ,ag⟩:=h.cells;have C:=I (aaR _ _ i w ag);have fG:=I (aaS mm g i aw);clear h ak az ha aQ ag aw bR aV bb ch gR;go_in;go_wp2_with fail;refine C.o.mono ?_;rintro e ay ⟨kP,rfl,ar,rfl⟩;have jL:=I (D' kP (lj mm g i) ay ar fG.o);have fr:=ar.form;obtain⟨_,_,_,rfl⟩:=fr;clear ar;go_wp2_with fail;refine jL.o.mono ?_;rintro e aJ ⟨ca,rfl,fZ,hb⟩;have eH:=I fZ;have bP:=I hb;have td:=fZ.ic;obtain⟨_,_,_,rfl⟩:=td;clear fZ hb;go_wp2_with fail;go_ret;exact⟨_,rfl,eH.o,bP.o⟩
theorem aaT (aD:bd->Int) (L:List bd) (v:Nat) (x:Int):∀k,x∈h_ aD L v k↔∃a:Nat,a<k/\x=(a:Int)/\aD (L[a]?.getD (0,0,0))=(v:Int)
 |0=>by
  show x∈[]↔_;constructor
  ·intro h;cases h
  ·rintro⟨a,h,_⟩;omega
 |k+1=>by
  have d4:=aaT aD L v x k;by_cases h:aD (L[k]?.getD (0,0,0))=(v:Int)
  ·rw[DT h,fJ,d4,f2];constructor
   ·rintro(⟨a,h1,h2,ap⟩|h1)
    ·exact⟨a,G,h2,ap⟩
    ·exact⟨k,G,h1,h⟩
   ·rintro⟨a,h1,h2,ap⟩;by_cases e:a=k
    ·exact .inr (by rw[h2,e])
    ·exact .inl ⟨a,G,h2,ap⟩
  ·rw[DU h,d4];constructor
   ·rintro⟨a,h1,h2,ap⟩;exact⟨a,G,h2,ap⟩
   ·rintro⟨a,h1,h2,ap⟩;by_cases e:a=k
    ·exact absurd (e▸ap) h
    ·exact⟨a,G,h2,ap⟩
theorem Jy {g:Raw} (aD:bd->Int) (K:(k:Int)<g.nodes):lj aD g k=h_ aD g.arcs k g.arcs.length:=by
 unfold lj;rw[M9,if_pos ⟨G,G⟩,ko,ZA _ _ _ _ G];rfl
theorem B_ {g:Raw} (aD:bd->Int) (K:(k:Int)<g.nodes) {i:Int}:i∈lj aD g k↔∃n:Nat,i=(n:Int)/\∃h:n<g.arcs.length,aD g.arcs[n]=(k:Int):=by
 rw[Jy aD K,aaT];constructor
 ·rintro⟨n,h1,h2,ap⟩;exact⟨n,h2,h1,by rw[eA h1] at ap;exact ap⟩
 ·rintro⟨n,h1,h2,ap⟩;exact⟨n,h2,h1,by rw[eA h2];exact ap⟩
section
attribute [local go_sem] f'
section
open Go.Maps (Keyed)
theorem n':Keyed aa 3:=Maps.int_keyed qP
theorem BP (w:O):(L8 3).run aa w= .ok (.int c 0) w:=bq
theorem BQ {a:Int} (bU:(vZ c a).wf=ad):sN (H:=Unit) aa 3 (.int c a)=A (.lit (.int c a),[]):=QF qP bU
theorem t5 {a:Int} (h:-9223372036854775808<=a/\a<=9223372036854775807):(vZ c a).wf=ad:=by
 unfold Lit.wf;simp[IntKind.min,IntKind.max,IntKind.signed,IntKind.bits];omega
theorem z5 (h:w.mapTurned D b):Kept (λj=>j=b) w D:=
 have g:=aH6 h
 ⟨g.os,g.tape,g.output,g.size,λk K aC=>g.block k K (λe=>aC (by simpa using e))⟩
theorem Z0 {base:Nat} {n:Nat} {b7:List ac} {k:cY} {aj:ac->Option (kc Unit×List MemPlace)} (h:w.ownsRow base e 1 v n b7) (hm:w.ownsMap aa k aj ab n7 aF) {j:Nat} (av:v.ownBlock=A j):j≠ab:=λe=>by
 subst e;obtain⟨_,_,hb⟩:=di h av;obtain⟨eJ,bL,a5,_⟩:=hm;rw[show w.heap[j]? =_ from hb] at a5;cases a5
theorem u_ {P:Program} {k:cY} {aj:ac->Option (kc Unit×List MemPlace)} (hm:w.ownsMap P k aj ab n7 aF) (h:D.heap[ab]? =w.heap[ab]?):D.ownsMap P k aj ab n7 aF:=by
 obtain⟨eJ,bL,hb,U⟩:=hm;exact⟨eJ,bL,h.trans hb,U⟩
def BR (be:List Int) (x:Int):List Int:=if x∈be then be else be++[x]
theorem Z1:∀(L seen:List Int) (x:Int),pQ seen (L++[x])=BR (pQ seen L) x
 |[],seen,x=>rfl
 |y::L,seen,x=>by rw[fW,pQ,pQ];exact Z1 L _ x
theorem Z2:∀(L seen:List Int) (x:Int),pd seen (L++[x])=pd seen L++[rv (pQ seen L) x]
 |[],seen,x=>rfl
 |y::L,seen,x=>by rw[fW,pd,pd,pQ,Z2 L];rfl
theorem Sj:∀(L seen:List Int),(pQ seen L).length<=seen.length+L.length
 |[],seen=>bY _
 |x::L,seen=>by
  rw[pQ];have:=Sj L (if x∈seen then seen else seen++[x]);have h2:(if x∈seen then seen else seen++[x]).length<=seen.length+1:=by split<;>simp
  rw[fV];omega
structure u' (w:O) (b ab:Nat) (be:List Int) (n7:Nat) (aF:kc Unit):Prop where
 box:V w b #[.map (A ab)] 155
 map:w.ownsMap aa 3 (sN aa 3) ab n7 aF
 place:Nj aF be
 size:Do aF=be.length
theorem u'.dy {be:List Int} (h:u' w b ab be n7 aF) (h1:D.heap[b]? =w.heap[b]?) (h2:D.heap[ab]? =w.heap[ab]?):u' D b ab be n7 aF:=
 ⟨h1.trans h.box,u_ h.map h2,h.place,h.size⟩
theorem u'.lt {be:List Int} (h:u' w b ab be n7 aF):b<w.heap.size/\ab<w.heap.size/\b≠ab:=⟨h.box.lt,Dp h.map,λe=>by
 obtain⟨eJ,bL,a5,_⟩:=h.map;have hb:=h.box;rw[e] at hb;rw[show w.heap[ab]? =_ from hb] at a5;cases a5⟩
theorem alI (w:O):aE aa 56 #[] w λe D=>∃b ab,e=au (.func (.func 101) #[] #[J b 0])/\u' D b ab [] 0 (.map [])/\(w.heap.size<=b/\w.heap.size<=ab)/\ae w D:=by
 have lo:=@Bc aa;have g_:=@hJ aa;have Nm:=XC w aa 3 (sN (H:=Unit) aa 3);have eU:=I Nm;go_in;go_wp2_with fail;go_ret;refine⟨_,w.heap.size,rfl,⟨?_,eU.o.alloc _,?_,rfl⟩,⟨a3,bY _⟩,(fb).alloc a3 _⟩
 ·have h:=V.new (w.alloc (.map #[] 0)) #[.map (A w.heap.size)] 155 (0,0)
  rwa[d8] at h
 ·intro v;refine⟨by simp[o6],λh=>by cases h⟩
theorem alJ (x:Int) (ak:(vZ c x).wf=ad) (w:O) (b ab n7:Nat) (be:List Int) (aF:kc Unit) (h:u' w b ab be n7 aF) (D2:n7<=1000000) (b3:be.length<=1000000):
 aE aa 101 #[.int c x,J b 0] w λe D=>e=au (.int c (rv be x))/\(∃e9,u' D b ab (BR be x) (n7+1) e9)/\Kept (λj=>j=ab) w D:=by
 have pP:=Dq qP ak;have bR:=aR h.box 0;obtain⟨v0,c7,iD,cf⟩:=h.map.look_ok n' yp (BP w) (BQ (a:=0) bj) pP;obtain⟨aV,rfl,pI,_⟩:=XD qP cf;have b1:=I h;by_cases BS:x∈be
 ·have Nn:o6 aF (hv x)=ad:=by rw[(h.place x).1];simp[BS]
  obtain⟨a,ha⟩:=al (be.idxOf x);have BI:aV=(a:Int):=by
   have h1:aF.atKey (hv x) _=_:=congrArg XE pI;rw[(h.place x).2 BS rfl,<-ha] at h1;simp at h1;exact h1.symm
  subst BI;change _=QG (Iq #[kK c a,Ir (o6 aF (hv x))]) w at iD;rw[Nn] at iD;have Sk:rv be x=(a:Int):=by unfold rv;rw[if_pos BS,ha]
  have Sl:BR be x=be:=by unfold BR;rw[if_pos BS]
  rw[Sk,Sl];clear cf ha;go_in;go_wp2_with fail;go_ret;exact⟨rfl,⟨aF,b1.o.box,b1.o.map.mono (Qw _),b1.o.place,b1.o.size⟩,Kept.refl _ _⟩
 ·have Nn:o6 aF (hv x)=ao:=by rw[(h.place x).1];simp[BS]
  change _=QG (Iq #[kK c aV,Ir (o6 aF (hv x))]) w at iD;rw[Nn] at iD;have hlen:=λkp=>h.map.len yp kp;rw[h.size] at hlen;obtain⟨aI,BT,alK,alL⟩:=h.map.store n' yp (by unfold ff;omega) pP (BQ (a:=(be.length:Nat)) (t5 G));have Sk:rv be x=(be.length:Int):=by unfold rv;rw[if_neg BS]
  have Sl:BR be x=be++[x]:=by unfold BR;rw[if_neg BS]
  have xz:=z5 alL;have z6:=I (show u' aI b ab (be++[x]) (n7+1) (aF.put (hv x) (.lit (.int c be.length))) from
   ⟨xz.aH h.box (λe=>h.lt.2.2 e),alK,h.place.put h.map.isMap BS,by
    have:=ait (k:=hv x) (h.map.tidy n') (.lit (.int c (be.length:Nat)));rw[Nn] at this;rw[gW,this,h.size];rfl⟩)
  have cw:=I xz;rw[Sk,Sl];clear cf;go_in;go_wp2_with fail;go_ret;exact⟨rfl,⟨_,z6.o⟩,cw.o⟩
theorem alM (cJ:O) (aN:ac) (L:List Int) (hL:L.length<=100000) (s6:∀x∈L,(vZ c x).wf=ad) (ha:cR cJ aN L) (b ab:Nat) (w:O) (bU:ae cJ w) (hb:cJ.heap.size<=b/\cJ.heap.size<=ab) (h:u' w b ab [] 0 (.map [])):
 aE aa 55 #[aN,.func (.func 101) #[] #[J b 0]] w λe D=>∃v,e=au v/\D.ownsRow cJ.heap.size 3 1 v (l1 L).length ((l1 L).flatMap ec)/\ae cJ D:=by
 have dM:=I ha;have bP:=I hb;have c9:=I h;have dN:=I bU;have Jj:=I s6;obtain⟨a,ga,rfl,_⟩:=ha;go_in;go_wp2_with fail;go_loopw [4,9] (λo i wr=>∃(k:Nat) (d_:ac) (aF:kc Unit),d_=o/\k<=L.length/\i= .int c k/\aM (ae cJ wr/\wr.ownsRow cJ.heap.size 3 1 d_ (pd [] (L.take k)).length ((pd [] (L.take k)).flatMap ec)/\u' wr b ab (pQ [] (L.take k)) k aF)) (λ_ i _=>L.length-(cu i).toNat)
 ·exact⟨0,_,_,rfl,cQ _,rfl,I ⟨dN.o,oG _ _ _ _,c9.o⟩⟩
 ·obtain⟨k,d_,aF,rfl,K,rfl,bZ⟩:=hrel;by_cases a0:k<L.length
  ·have ie:(k:Int)<L.length:=G;have k0:=ew k;obtain⟨kC,cx,rfl,ah⟩:=(dM.o.a_ (bu.bg bZ.o.1)).at k a0;obtain⟨x,ak⟩:=al (L[k]);rw[<-ak] at ah;obtain⟨be,b3⟩:=al (pQ [] (L.take k));obtain⟨aj,cf⟩:=al (pd [] (L.take k));have sk:L.take (k+1)=L.take k++[x]:=by rw[ak];exact uI a0
   have aC8:be.length<=k:=by
    have:=Sj (L.take k) [];rw[<-b3,lS] at this;simp at this;omega
   have xA:aj.length<=k:=by rw[cf,Sh,lS];omega
   have h1:pd [] (L.take (k+1))=aj++[rv be x]:=by rw[sk,Z2,b3,cf]
   have h2:pQ [] (L.take (k+1))=BR be x:=by rw[sk,Z1,b3]
   have cH:=db h1 h2;rw[<-b3,<-cf] at bZ;have cS:=I (alJ x (Jj.o x (by rw[ak];exact gB a0)) wr b ab k be aF bZ.o.2.2 G G);obtain⟨Z3,dD,c2,rfl⟩:=bZ.o.2.1.ic;obtain⟨Z4,Z5⟩:=al (rv be x);rw[<-Z5] at cS cH;clear b3 cf ak Z5;go_wp2_with fail;refine cS.o.mono ?_;rintro e ay ⟨rfl,⟨e9,gF⟩,No⟩;have dC:=bZ.o.1.size;have aX:ae cJ ay:=bZ.o.1.trans (No.below bZ.o.1.size (λj e=>by have:=bP.o.2;omega));have es:ay.ownsRow cJ.heap.size 3 1 (E Z3 dD c2) aj.length (aj.flatMap ec):=fB bZ.o.2.1 (λj av=>by
    obtain⟨_,_,aO⟩:=di bZ.o.2.1 av;exact No.block j aO.lt (Z0 bZ.o.2.1 bZ.o.2.2.map av))
   obtain⟨wc,mI⟩:=al (ay.alloc (an #[.int c Z4] 3));have kg:=dx mI;obtain⟨a2,cm,bb,D,ar,aQ,hg,gP⟩:=Je cJ.heap.size (E Z3 dD c2) aj Z4 wc ay.heap.size (o' es kg) (by rw[mI];exact V.new _ _ _ _) G (cM aX.size kg.size);have fi:ae cJ D:=(aX.next' kg).grown hg (cM aX.size kg.size) (λj kD=>(di es kD).1);have Np:=gF.lt;have alN:u' D b ab (BR be x) (k+1) e9:=gF.dy
    ((hg.block b (jP Np.1 kg.size) (λe=>by
     obtain⟨_,_,aO⟩:=di es e.symm;exact absurd (er gF.box aO) bj)).trans (kg.block b Np.1))
    ((hg.block ab (jP Np.2.1 kg.size) (λe=>Z0 es gF.map e.symm rfl)).trans (kg.block ab Np.2.1))
   rw[mI] at ar;have cW:=I ar;have z6:=I (show ae cJ D/\D.ownsRow cJ.heap.size 3 1 (E a2 cm bb) (pd [] (L.take (k+1))).length ((pd [] (L.take (k+1))).flatMap ec)/\u' D b ab (pQ [] (L.take (k+1))) (k+1) e9 from by
    rw[cH.o.1,cH.o.2];exact⟨fi,aQ,alN⟩)
   clear mI;go_wp2_with(at_builtin;refine uX rfl _ _ _ _ rfl cW.o ?_)
   go_roundw
   ·exact⟨k+1,_,e9,rfl,G,by go_num,z6⟩
   ·simp[cu];omega
  ·obtain rfl:k=L.length:=G;go_wp2_with fail;go_ret;rw[v3] at bZ;exact⟨_,rfl,bZ.o.2.1,bZ.o.1⟩
theorem Z6 (aN:ac) (L:List Int) (hL:L.length<=100000) (s6:∀x∈L,(vZ c x).wf=ad) (w:O) (ha:cR w aN L):
 aE aa 20 #[aN] w λe D=>∃v,e=au v/\D.ownsRow w.heap.size 3 1 v (l1 L).length ((l1 L).flatMap ec)/\ae w D:=by
 have dM:=I ha;have Jj:=I s6;obtain⟨a,ga,rfl,_⟩:=ha;go_in;go_wp2_with fail;refine(alI w).mono ?_;rintro e ay ⟨b,ab,rfl,b1,dC,hb⟩;have cS:=I (alM w _ L hL Jj.o dM.o b ab ay hb dC b1);go_wp2_with fail;refine cS.o.mono ?_;rintro e aJ ⟨v,rfl,aQ,hb⟩;have fC:=db aQ hb;go_wp2_with fail;go_ret;exact⟨v,rfl,fC.o.1,fC.o.2⟩
end
end
structure hw (w:O) (p ab:Nat) (v:ac) (n:Int) (L:List bw):Prop where
 aH:V w p #[v,.map (A ab),r c n] 356
 row:w.ownsRow 0 361 2 v L.length (L.flatMap bJ)
 map:∃aF:kc Unit,w.ownsMap aa 3 (sN aa 3) ab L.length aF/\nS aF L/\Do aF=L.length
 ids:n_ L
 hS:∀j,j<L.length->0<=(cn L j).1/\(cn L j).1<n
 z8:n<=16777216
def mJ (p ab:Nat) (v:ac) (k:Nat):Prop:=k=p\/k=ab\/v.ownBlock=A k
theorem alU (h:n_ L) (ar:∀j,j<L.length->0<=(cn L j).1/\(cn L j).1<n):L.length<=n.toNat:=by
 have aC:=t6 n.toNat (L.map XE) (by
  refine List.pairwise_iff_getElem.2 λi j ag av alV e=>?_;rw[iT] at ag av;rw[XF,XF] at e;have:=h i j ag av (by rw[I7 ag,I7 av];exact e);omega) (λv aK=>by
  obtain⟨x,ak,rfl⟩:=jB.1 aK;obtain⟨j,av,rfl⟩:=nb.1 ak;have:=ar j av;omega)
 simpa using aC
theorem hw.dR (h:hw w p ab v n L):L.length<=16777216:=by
 have:=alU h.ids h.hS;have:=h.z8;omega
theorem hw.dy (h:hw w p ab v n L) (hb:∀k,mJ p ab v k->D.heap[k]? =w.heap[k]?):hw D p ab v n L:=by
 obtain⟨aF,h1,h2,ap⟩:=h.map;exact⟨(hb _ (.inl rfl)).trans h.aH,fB h.row λk K=>hb _ (.inr (.inr K)),⟨aF,u_ h1 (hb _ (.inr (.inl rfl))),h2,ap⟩,h.ids,h.hS,h.z8⟩
theorem hw.lt (h:hw w p ab v n L) (K:mJ p ab v k):k<w.heap.size:=by
 rcases K with rfl|rfl|K
 ·exact h.aH.lt
 ·obtain⟨aF,h1,_⟩:=h.map;exact Dp h1
 ·exact(di h.row K).2.choose_spec.lt
theorem hw.below (h:hw w p ab v n L) (hb:ae w D):hw D p ab v n L:=h.dy λ_ K=>hb.block _ (h.lt K)
theorem hw.apart (h:hw w p ab v n L):p≠ab/\∀g,v.ownBlock=A g->g≠p/\g≠ab:=by
 obtain⟨aF,h1,_⟩:=h.map;refine⟨λe=>?_,λg hg=>⟨λe=>?_,λe=>?_⟩⟩
 ·obtain⟨eJ,bL,a5,_⟩:=h1;have hb:=h.aH;rw[e] at hb;rw[show w.heap[ab]? =_ from hb] at a5;cases a5
 ·obtain⟨_,_,aO⟩:=di h.row hg;have hb:=h.aH;rw[<-e] at hb;have:=er hb aO;revert this;decide
 ·obtain⟨_,_,aO⟩:=di h.row hg;obtain⟨eJ,bL,a5,_⟩:=h1;rw[<-e,show w.heap[g]? =_ from aO] at a5;cases a5
theorem hw.form (h:hw w p ab v n L) (aw:0<L.length):∃g R,v=E (A (B g 0)) L.length R/\
 (∀j,j<L.length->w.cell? (B g (j*2))=A (r c (cn L j).1)/\w.cell? (B g (j*2+1))=A (r c (cn L j).2))/\(∀o,w.frozen? (B g o)=ao)/\∃cur,V w g cur 361:=by
 obtain⟨_,h2⟩:=h.row;rcases h2 with⟨_,h0⟩|⟨g,R,cur,e,_,hb,cL,eI,gu,h9⟩
 ·exact absurd h0 G
 ·refine⟨g,R,e,λj av=>?_,λo=>(show V w g cur _ (0,0) from hb).free o (.inr (cQ _)),cur,hb⟩;have ah:=λi=>(show V w g cur _ (0,0) from hb).cell i;have va:∀i,i<L.length*2->cur[i]? =(L.flatMap bJ)[i]? :=λi ag=>by
   rw[<-h9,Xy ag,aiw]
  obtain⟨q1,q2⟩:=ZR L j av;rw[ah,ah,va _ G,va _ G];exact⟨q1,q2⟩
theorem hw.slice (h:hw w p ab v n L):∃a R,v=E a L.length R:=by
 obtain⟨_,h2⟩:=h.row;rcases h2 with⟨e,h0⟩|⟨g,R,cur,e,_⟩
 ·exact⟨T,0,by rw[e,h0]⟩
 ·exact⟨_,R,e⟩
theorem alZ (w:O):(L8 2).run aa w= .ok (.int c 0) w:=bq
structure GD (mt e:cY):Prop where
 mt:prog.underlying mt=A (.map 3 e)
 un:prog.underlying e=A (.int c)
 z:∀u:O,(L8 e).run aa u= .ok (.int c 0) u
theorem BW:GD 155 3:=⟨yp,qP,BP⟩
theorem Sn:GD 313 2:=⟨underlying313,underlying2,alZ⟩
def jM (e:cY) (w:O) (m n:Nat) (f:Int->Option Int):Prop:=∃aF:kc Unit,w.ownsMap aa 3 (sN aa e) m n aF/\(∀v d,f v=A d->o6 aF (hv v)=ad/\aF.atKey (hv v) (.lit (.int c 0))= .lit (.int c d))/\∀v,f v=T->o6 aF (hv v)=ao/\aF.atKey (hv v) (.lit (.int c 0))= .lit (.int c 0)
theorem jM.dy {n:Nat} (h:jM e w m n f) (K:D.heap[m]? =w.heap[m]?):jM e D m n f:=by
 obtain⟨aF,h1,h2,ap⟩:=h;exact⟨aF,u_ h1 K,h2,ap⟩
theorem jM.lt {n:Nat} (h:jM e w m n f):m<w.heap.size:=Dp h.choose_spec.1
theorem jM.ne {n:Nat} (h:jM e w m n f) {t:cY} (hb:V w b cs t fr):b≠m:=λaCG=>by
 obtain⟨aF,⟨eJ,bL,a5,_⟩,_⟩:=h;subst aCG;rw[show w.heap[b]? =_ from hb] at a5;cases a5
theorem z' {v:Int} (h:-9223372036854775808<=v/\v<=9223372036854775807):keyOf aa 3 (.int c v)=A (hv v):=Dq qP (t5 (a:=v) h)
theorem jM.al0 {mt:cY} (be:GD mt e) {n:Nat} (h:jM e w m n f) {v:Int} (aK:-9223372036854775808<=v/\v<=9223372036854775807):
 (l' mt (.map (A m)) (.int c v) ad).run aa w= .ok (b8 #[.int c ((f v).getD 0),.bool (f v).isSome]) w:=by
 obtain⟨aF,h1,h2,ap⟩:=h;obtain⟨v0,c7,iD,cf⟩:=h1.look_ok n' be.mt (be.z w) (QF be.un (t5 (a:=0) G)) (z' aK);obtain⟨aV,rfl,pI,_⟩:=XD be.un cf;have br:aF.atKey (hv v) _=_:=congrArg XE pI;change _=QG (Iq #[kK c aV,Ir (o6 aF (hv v))]) w at iD;rw[iD];cases hf:f v with
 |some d=>
  obtain⟨k1,k2⟩:=h2 v d hf;rw[k2] at br;simp at br;rw[k1,<-br];rfl
 |none=>
  obtain⟨k1,k2⟩:=ap v hf;rw[k2] at br;simp at br;rw[k1,<-br];rfl
theorem jM.look {mt:cY} (be:GD mt e) {n:Nat} (h:jM e w m n f) {v:Int} (aK:-9223372036854775808<=v/\v<=9223372036854775807):
 (l' mt (.map (A m)) (.int c v) ao).run aa w= .ok (.int c ((f v).getD 0)) w:=by
 obtain⟨aF,h1,h2,ap⟩:=h;obtain⟨R,ar,gP,_⟩:=h1.lookup_int n' be.mt be.un (be.z w) (z' aK);change aF.atKey (hv v) _=_ at gP;rw[ar];cases hf:f v with
 |some d=>
  rw[(h2 v d hf).2] at gP;have en:d=R:=by simpa only[aiy,aiz,true_and] using gP
  rw[en];rfl
 |none=>
  rw[(ap v hf).2] at gP;have en:0=R:=by simpa only[aiy,aiz,true_and] using gP
  rw[<-en];rfl
theorem jM.put {n:Nat} (h:jM e w m n f) {v:Int} (fh:∀aF:kc Unit,w.ownsMap aa 3 (sN aa e) m n aF->D.ownsMap aa 3 (sN aa e) m k (aF.put (hv v) (.lit (.int c d)))):jM e D m k (gb f v d):=by
 obtain⟨aF,h1,h2,ap⟩:=h;refine⟨_,fh aF h1,λx R ak=>?_,λx ak=>?_⟩
 ·by_cases q:x=v
  ·subst q;rw[nc] at ak;obtain rfl:=eT ak;exact⟨Im h1.isMap (t4 x) _,In h1.isMap (t4 x) ..⟩
  ·rw[kG _ _ q] at ak;rw[Dn (pc q),Ba (pc q)];exact h2 x R ak
 ·by_cases q:x=v
  ·rw[q,nc] at ak;cases ak
  ·rw[kG _ _ q] at ak;rw[Dn (pc q),Ba (pc q)];exact ap x ak
theorem jM.store {mt:cY} (be:GD mt e) {n:Nat} (h:jM e w m n f) (aC:n<ff) {v:Int} (aK:-9223372036854775808<=v/\v<=9223372036854775807) (a9:-9223372036854775808<=d/\d<=9223372036854775807):
 ∃aI,(uN mt (.map (A m)) (.int c v) (.int c d)).run aa w= .ok () aI/\jM e aI m (n+1) (gb f v d)/\Kept (λj=>j=m) w aI:=by
 obtain⟨aF,h1,h2,ap⟩:=id h;obtain⟨aI,hE,aQ,ht⟩:=h1.store n' be.mt aC (z' aK) (QF be.un (t5 (a:=d) a9));refine⟨aI,hE,?_,z5 ht⟩;exact jM.put (w:=w) (n:=n) ⟨aF,h1,h2,ap⟩ λe9 fx=>by
  obtain⟨cE,Ns,al1,_⟩:=fx.store n' be.mt aC (z' aK) (QF be.un (t5 (a:=d) a9));rw[hE] at Ns;injection Ns with _ Ns
  subst Ns;exact al1
theorem jM.entry {mt:cY} (be:GD mt e) {n:Nat} (h:jM e w m n f) (aC:n<ff) {v:Int} (aK:-9223372036854775808<=v/\v<=9223372036854775807) (a9:-9223372036854775808<=d/\d<=9223372036854775807):
 ∃v0 st ay aJ,(xa mt (.map (A m)) (.int c v)).run aa w= .ok (b8 #[v0,goInt st]) ay/\(xb mt (.map (A m)) (goInt st) (.int c d)).run aa ay= .ok () aJ/\Kept (λj=>j=m) w ay/\jM e aJ m (n+1) (gb f v d)/\Kept (λj=>j=m) w aJ:=by
 obtain⟨aF,h1,h2,ap⟩:=id h;obtain⟨v0,st,ay,aJ,r1,r2,eC,aQ,kQ⟩:=Sf h1 n' be.mt aC be.z (z' aK) (QF be.un (t5 (a:=d) a9));refine⟨v0,st,ay,aJ,r1,r2,z5 eC,?_,z5 kQ⟩;refine⟨_,aQ,λx R ak=>?_,λx ak=>?_⟩
 ·by_cases q:x=v
  ·subst q;rw[nc] at ak;obtain rfl:=eT ak;exact⟨Im h1.isMap (t4 x) _,In h1.isMap (t4 x) ..⟩
  ·rw[kG _ _ q] at ak;rw[Dn (pc q),Ba (pc q)];exact h2 x R ak
 ·by_cases q:x=v
  ·rw[q,nc] at ak;cases ak
  ·rw[kG _ _ q] at ak;rw[Dn (pc q),Ba (pc q)];exact ap x ak
theorem jM.made (e:cY) (w:O):jM e (w.alloc (.map #[] 0)) w.heap.size 0 (λ_=>T):=
 ⟨.map [],XC w aa 3 (sN (H:=Unit) aa e),λv d h=>(by cases h),λv _=>⟨by simp[o6],by rfl⟩⟩
section
open Go.RowKit Go.ChangeMaps Go.WideMaps Go.WideElems Go.MapKept
def nT (w:O) (ab:Nat) (f:Int->Option ac):Prop:=∃eJ clock,w.heap[ab]? =A (.map eJ clock)/\∀k:Int,∃U,tL (.int c) (r c k) eJ.toList 0=A U/\U.map Dr=f k
theorem nT.dy {f:Int->Option ac} (h:nT w ab f) (K:D.heap[ab]? =w.heap[ab]?):nT D ab f:=by
 obtain⟨eJ,R,h1,h2⟩:=h;exact⟨eJ,R,K.trans h1,h2⟩
theorem nT.lt {f:Int->Option ac} (h:nT w ab f):ab<w.heap.size:=by
 obtain⟨eJ,R,h1,_⟩:=h;exact(gU.1 h1).1
theorem nT.empty (h:w.heap[ab]? =A (.map #[] 0)):nT w ab λ_=>T:=⟨_,_,h,λ_=>⟨T,rfl,rfl⟩⟩
theorem aac (k k0:Int) (v:ac) (b:Nat):∀(eJ:List MapEntry) (i:Nat) (U:Option (Nat×ac)),tL (.int c) (r c k) eJ i=A U->
 ∃oc,tL (.int c) (r c k) (eJ++[⟨r c k0,v,b⟩]) i=A oc/\oc.map Dr=match U with|some x=>A x.2|none=>if k=k0 then A v else T
 |[],i,U,h=>by
  obtain rfl:U=T:=by simpa [tL] using h.symm
  by_cases e:k=k0
  ·exact⟨A (i,v),by simp[tL,Is,e],by simp[e]⟩
  ·have a4:(k==k0)=ao:=beq_eq_false_iff_ne.2 e;exact⟨T,by simp[tL,Is,a4],by simp[e]⟩
 |e::eJ,i,U,h=>by
  unfold tL at h;show∃oc,tL (.int c) (r c k) (e::(eJ++[_])) i=A oc/\_;unfold tL;revert h;split
  ·intro h;obtain rfl:=eT h;exact⟨_,rfl,rfl⟩
  ·intro h;exact aac k k0 v b eJ (i+1) U h
  ·intro h;cases h
theorem nT.insert {mt:cY} (b3:prog.underlying mt=A (.map 3 e)) {f:Int->Option ac} (h:nT w ab f) {k:Int} (K:f k=T) (ar:-9223372036854775808<=k/\k<=9223372036854775807) (v:ac):
 ∃D,(uN mt (.map (A ab)) (r c k) v).run aa w= .ok () D/\nT D ab (λx=>if x=k then A v else f x)/\Kept (·=ab) w D:=by
 obtain⟨eJ,R,h1,h2⟩:=h;have a0:=(gU.1 h1).1;obtain⟨U,ml,iq⟩:=h2 k;rw[K] at iq;obtain rfl:U=T:=by cases U<;>simp_all
 have qZ:=n'.check w ao (z' ar);have yB:(FP 3 (r c k) eJ.toList).run aa w= .ok T w:=by
  simp[FP,v4 qP,ml,o5]
 refine⟨setBlock w ab (.map (eJ.push ⟨r c k,v,R⟩) (R+1)),?_,?_,?_⟩
 ·simp[uN,v4 b3,Bb h1,qZ,yB,FO _ h1,o5,setBlock]
 ·refine⟨eJ.push ⟨r c k,v,R⟩,R+1,?_,λx=>?_⟩
  ·simp[setBlock,a0]
  ·obtain⟨q,q1,q2⟩:=h2 x;obtain⟨oc,p1,p2⟩:=aac x k v R eJ.toList 0 q q1;refine⟨oc,by rw[XB];exact p1,?_⟩;rw[p2];by_cases ex:x=k
   ·subst ex;rw[K] at q2;obtain rfl:q=T:=by cases q<;>simp_all
    simp
   ·show _=if x=k then A v else f x
    rw[<-q2];cases q with
    |none=>simp[ex]
    |some y=>simp[ex]
 ·refine⟨rfl,rfl,rfl,by simp[setBlock],λj av aB=>?_⟩;simp[setBlock,show ab≠j fromλe=>aB e.symm]
theorem nT.look {mt:cY} (b3:prog.underlying mt=A (.map 3 e)) {f:Int->Option ac} (h:nT w ab f) {k:Int} (K:f k=A v) (ar:-9223372036854775808<=k/\k<=9223372036854775807):
 (l' mt (.map (A ab)) (r c k) ao).run aa w= .ok v w:=by
 obtain⟨eJ,R,h1,h2⟩:=h;obtain⟨U,ml,iq⟩:=h2 k;rw[K] at iq;obtain⟨⟨i,y⟩,rfl,rfl⟩:∃x,U=A x/\x.2=v:=by
  cases U with
  |none=>cases iq
  |some x=>exact⟨x,rfl,eT iq⟩
 have qZ:=n'.check w eJ.isEmpty (z' ar);have yB:(FP 3 (r c k) eJ.toList).run aa w= .ok (A (i,y)) w:=by
  simp[FP,v4 qP,ml,o5]
 simp[l',v4 b3,Bb h1,qZ,yB,o5]
def pR (w:O) (ab:Nat) (l:List (Int×ac)):Prop:=∃f,nT w ab f/\(∀p∈l,f p.1=A p.2)/\∀k v,f k=A v->(k,v)∈l
theorem pR.dy (h:pR w ab l) (K:D.heap[ab]? =w.heap[ab]?):pR D ab l:=by
 obtain⟨f,h1,h2⟩:=h;exact⟨f,h1.dy K,h2⟩
theorem pR.lt (h:pR w ab l):ab<w.heap.size:=by
 obtain⟨f,h1,_⟩:=h;exact h1.lt
theorem pR.empty (h:w.heap[ab]? =A (.map #[] 0)):pR w ab []:=⟨_,nT.empty h,λ_ h=>(by cases h),λ_ _ h=>(by cases h)⟩
theorem pR.insert {mt:cY} (b3:prog.underlying mt=A (.map 3 e)) (h:pR w ab l) {k:Int} (ar:-9223372036854775808<=k/\k<=9223372036854775807) (v:ac) (i3:List (Int×ac)) (K:∀p∈l,p.1≠k) (h1:∀p∈i3,p=(k,v)\/p∈l) (h2:∀p∈l,p∈i3) (ap:(k,v)∈i3):
 ∃D,(uN mt (.map (A ab)) (r c k) v).run aa w= .ok () D/\pR D ab i3/\Kept (·=ab) w D:=by
 obtain⟨f,hf,q1,q2⟩:=h;have aC:f k=T:=by
  cases e:f k with
  |none=>rfl
  |some y=>exact absurd rfl (K _ (q2 k y e))
 obtain⟨D,r1,r2,eC⟩:=hf.insert b3 aC ar v;refine⟨D,r1,⟨_,r2,λp aP=>?_,λx y ak=>?_⟩,eC⟩
 ·rcases h1 p aP with rfl|aP
  ·exact if_pos rfl
  ·exact(if_neg (K p aP)).trans (q1 p aP)
 ·by_cases ex:x=k
  ·subst ex;have ak:A v=A y:=(if_pos rfl).symm.trans ak;obtain rfl:=eT ak;exact ap
  ·exact h2 _ (q2 x y ((if_neg ex).symm.trans ak))
theorem pR.look {mt:cY} (b3:prog.underlying mt=A (.map 3 e)) (h:pR w ab l) {k:Int} (K:(k,v)∈l) (ar:-9223372036854775808<=k/\k<=9223372036854775807):
 (l' mt (.map (A ab)) (r c k) ao).run aa w= .ok v w:=by
 obtain⟨f,hf,q1,q2⟩:=h;exact hf.look b3 (q1 _ K) ar
end
theorem aaf (ag:i<L.length) (K:k<L.length):cn (nQ L i k) i=cn L k/\cn (nQ L i k) k=cn L i:=by
 rw[BJ L ag K];unfold si;refine⟨?_,if_pos rfl⟩;by_cases e:i=k
 ·rw[if_pos e,e]
 ·rw[if_neg e,if_pos rfl]
theorem Jl {g n:Nat} (h:w.ownsRow 0 361 2 (E (A ⟨g,0,T⟩) n R) n (L.flatMap bJ)) (aC:n=L.length):
 ∀j,j<L.length->w.cell? ⟨g,j*2,T⟩=A (.int c (cn L j).1)/\w.cell? ⟨g,j*2+1,T⟩=A (.int c (cn L j).2)/\w.frozen? ⟨g,j*2,T⟩=ao/\w.frozen? ⟨g,j*2+1,T⟩=ao:=by
 subst aC;obtain⟨_,h2⟩:=h;rcases h2 with⟨e,h0⟩|⟨qi,rm,cur,e,_,hb,cL,eI,gu,h9⟩
 ·cases e
 ·obtain⟨rfl,rfl⟩:g=qi/\R=rm:=by simpa using e
  intro j av;have ah:=λi=>(show V w g cur _ (0,0) from hb).cell i;have va:∀i,i<L.length*2->cur[i]? =(L.flatMap bJ)[i]? :=λi ag=>by
   rw[<-h9,Xy ag,aiw]
  obtain⟨q1,q2⟩:=ZR L j av;rw[ah,ah,va _ G,va _ G];exact⟨q1,q2,(show V w g cur _ (0,0) from hb).free _ (.inr (cQ _)),(show V w g cur _ (0,0) from hb).free _ (.inr (cQ _))⟩
theorem aag {g n:Nat} (h:w.ownsRow 0 361 2 (E (A ⟨g,0,T⟩) n R) n (L.flatMap bJ)) (x:bw) (ag:i<L.length):
 ((w.setCell ⟨g,i*2,T⟩ (.int c x.1)).setCell ⟨g,i*2+1,T⟩ (.int c x.2)).ownsRow 0 361 2 (E (A ⟨g,0,T⟩) n R) n ((L.set i x).flatMap bJ):=by
 have q:=Bt (Bt h (i*2) (.int c x.1)) (i*2+1) (.int c x.2);have e:=alH L i x ag;rw[uH] at e
 rwa[e] at q
theorem aah {n:Nat} (h:w.ownsMap aa 3 (sN aa 3) b n aF) {k:Lit} (hh:o6 aF k=ad) (d:kc Unit):Do (aF.put k d)=Do aF:=by
 rw[ait (h.tidy n'),if_pos hh]
theorem Sp (p ab:Nat) (v:ac) (n:Int) (L:List bw) (i k:Nat) (ag:i<L.length) (K:k<L.length) (w:O) (h:hw w p ab v n L):
 aE aa 251 #[J p 0,.int c i,.int c k] w λe D=>e=au (b8 #[])/\hw D p ab v n (nQ L i k)/\Kept (mJ p ab v) w D:=by
 have iH:=h.dR;obtain⟨g,R,rfl,m9,se,cur,Sq⟩:=h.form G;obtain⟨cI,j8⟩:=al ((cn L i).2);obtain⟨c0,j7⟩:=al ((cn L i).1);obtain⟨f8,nN⟩:=al ((cn L k).2);obtain⟨gc,mi⟩:=al ((cn L k).1);have bC:aM (∀u,ae w u->u.cell? ⟨p,0,T⟩=A (E (A ⟨g,0,T⟩) L.length R)/\u.cell? ⟨g,i*2,T⟩=A (.int c c0)/\u.cell? ⟨g,i*2+1,T⟩=A (.int c cI)/\u.cell? ⟨g,k*2,T⟩=A (.int c gc)/\u.cell? ⟨g,k*2+1,T⟩=A (.int c f8)/\u.frozen? ⟨g,i*2,T⟩=ao/\u.frozen? ⟨g,i*2+1,T⟩=ao/\u.frozen? ⟨g,k*2,T⟩=ao/\u.frozen? ⟨g,k*2+1,T⟩=ao):=λu Z=>by
  have ar:=(h.below Z).row;obtain⟨q1,q2,bm,cZ⟩:=Jl ar rfl i ag;obtain⟨ek,jg,s9,Aa⟩:=Jl ar rfl k K;rw[j7,j8,mi,nN];exact⟨(h.below Z).aH.cell 0,q1,q2,ek,jg,bm,cZ,s9,Aa⟩
 have vb:=I (show∀q4 dV cz:O,ae w q4->dV=(q4.setCell ⟨g,i*2,T⟩ (.int c gc)).setCell ⟨g,i*2+1,T⟩ (.int c f8)->cz=(dV.setCell ⟨g,k*2,T⟩ (.int c c0)).setCell ⟨g,k*2+1,T⟩ (.int c cI)->
  (∀u,ae cz u->u.cell? ⟨p,0,T⟩=A (E (A ⟨g,0,T⟩) L.length R)/\u.cell? ⟨p,1,T⟩=A (.map (A ab))/\u.cell? ⟨g,i*2,T⟩=A (.int c gc)/\u.cell? ⟨g,k*2,T⟩=A (.int c c0))/\∀u,ae cz u->∃v1 s1 a1 a2 v2 fX dX jc,(xa 155 (.map (A ab)) (.int c gc)).run aa u= .ok (b8 #[v1,.int c s1]) a1/\(xb 155 (.map (A ab)) (.int c s1) (.int c i)).run aa a1= .ok () a2/\
   (xa 155 (.map (A ab)) (.int c c0)).run aa a2= .ok (b8 #[v2,.int c fX]) dX/\(xb 155 (.map (A ab)) (.int c fX) (.int c k)).run aa dX= .ok () jc/\
   hw jc p ab (E (A ⟨g,0,T⟩) L.length R) n (nQ L i k)/\Kept (mJ p ab (E (A ⟨g,0,T⟩) L.length R)) w jc from by
  intro q4 dV cz dm br a4;have h0:=h.below dm;have r1:=aag h0.row (gc,f8) ag;rw[<-br] at r1;have r2:=aag r1 (c0,cI) (i:=k) (by rw[gN];exact K);rw[<-a4] at r2;have al8:(L.set i (gc,f8)).set k (c0,cI)=nQ L i k:=by rw[j7,j8,mi,nN];rfl
  rw[al8] at r2;have hlen:=qY L i k;obtain⟨Ab,Ac⟩:=h.apart;obtain⟨Jm,GF⟩:=Ac g rfl;have e6:∀j,j≠g->cz.heap[j]? =q4.heap[j]? :=λj av=>by
   rw[a4,d7 _ _ _ _ av,d7 _ _ _ _ av,br,d7 _ _ _ _ av,d7 _ _ _ _ av]
  have pS:V cz p #[E (A ⟨g,0,T⟩) L.length R,.map (A ab),.int c n] 356:=(e6 p (h8 Jm)).trans h0.aH;obtain⟨aF,e4,g7,lI⟩:=h0.map;have ry:=u_ e4 (e6 ab (h8 GF));have mo:Kept (mJ p ab (E (A ⟨g,0,T⟩) L.length R)) w cz:=by
   rw[a4,br];exact((((Kept.bg dm).setCell (.inr (.inr rfl)) _).setCell (.inr (.inr rfl)) _).setCell (.inr (.inr rfl)) _).setCell (.inr (.inr rfl)) _
  obtain⟨al9,al_⟩:=aaf ag K;refine⟨λu Z=>?_,λu Z=>?_⟩
  ·have ar:=o' r2 Z;have q1:=(Jl ar (by rw[hlen]) i (by rw[hlen];exact ag)).1;have q2:=(Jl ar (by rw[hlen]) k (by rw[hlen];exact K)).1;rw[al9,<-mi] at q1;rw[al_,<-j7] at q2;exact⟨(pS.aq Z).cell 0,(pS.aq Z).cell 1,q1,q2⟩
  ·have Jn:=u_ ry (Z.block ab (Dp ry));have aai:∀j:Nat,j<=16777216->(vZ c (j:Int)).wf=ad:=λj av=>t5 G;have aaj:∀j,j<L.length->(vZ c (cn L j).1).wf=ad:=λj av=>t5 (g3 (h.hS j av) h.z8);have key:∀x:Int,(vZ c x).wf=ad->keyOf aa 3 (.int c x)=A (hv x):=λx ak=>Dq qP ak;obtain⟨v1,s1,a1,a2,lC,mD,_,xf,FY⟩:=Sf Jn n' yp (by unfold ff;omega) BP (key gc (by rw[mi];exact aaj k K)) (BQ (aai i G));have FZ:=Se xf;have g4:=aah Jn ((g7.1 gc).2 ⟨k,K,mi.symm⟩) (.lit (.int c (i:Int)));rw[g4,lI] at FZ;obtain⟨v2,fX,dX,jc,Iu,X2,_,Mm,uP⟩:=Sf FZ n' yp (by unfold ff;omega) BP (key c0 (by rw[j7];exact aaj i ag)) (BQ (aai k G));have t10:=Se Mm;have al':o6 (aF.put (hv gc) (.lit (.int c (i:Int)))) (hv c0)=ad:=by
    by_cases e:c0=gc
    ·rw[e];exact Im (aBv e4) (t4 _) _
    ·rw[Dn (pc e)];exact(g7.1 c0).2 ⟨i,ag,j7.symm⟩
   have hK:=aah FZ al' (.lit (.int c (k:Int)));rw[hK,g4,lI] at t10;have dj:=nS.swap g7 (aBv e4) h.ids ag K;rw[<-mi,<-j7] at dj;have k1:=(z5 FY).trans (z5 uP);refine⟨v1,s1,a1,a2,v2,fX,dX,jc,lC,mD,Iu,X2,⟨?_,?_,⟨_,?_,dj,?_⟩,h.ids.swap ag K,λj av=>?_,h.z8⟩,?_⟩
   ·exact k1.aH (pS.aq Z) Ab
   ·rw[hlen];exact fB (o' r2 Z) λj av=>by
     obtain rfl:g=j:=by simpa [A9] using av
     exact k1.block g (di (o' r2 Z) rfl).2.choose_spec.lt GF
   ·rw[hlen];exact t10
   ·rw[hK,g4,lI,hlen]
   ·rw[hlen] at av;have hm:=(M7 ag K (cn (nQ L i k) j)).1 (nb.2 ⟨j,by rw[hlen];exact av,rfl⟩);obtain⟨D1,yw,fm⟩:=nb.1 hm;rw[<-fm];exact h.hS D1 yw
   ·exact(mo.trans (Kept.bg Z)).trans (k1.mono λj av=> .inr (.inl av)))
 have yP:(i:Int)<L.length:=G;have Jo:(k:Int)<L.length:=G;clear h m9 se Sq j7 j8 mi nN ag K iH;go_in
 go_upto_region 0 with fail
 refine jQ (λD=>D.cell? ⟨p,0,T⟩=A (E (A ⟨g,0,T⟩) L.length R)/\D.cell? ⟨g,i*2,T⟩=A (.int c c0)/\D.cell? ⟨g,i*2+1,T⟩=A (.int c cI)/\D.cell? ⟨g,k*2,T⟩=A (.int c gc)/\D.cell? ⟨g,k*2+1,T⟩=A (.int c f8)/\D.frozen? ⟨g,i*2,T⟩=ao/\D.frozen? ⟨g,i*2+1,T⟩=ao/\D.frozen? ⟨g,k*2,T⟩=ao/\D.frozen? ⟨g,k*2+1,T⟩=ao) 25 rfl ?_;change ej _ _ _ _ _ _ _ 28 _ _ w.drew;obtain⟨et,dm⟩:=al w.drew;have aL:=I (show ae w et by rw[dm];exact(bx _ _).drew);rw[<-dm];clear dm;have ax:=bC.o _ aL.o;repeat first|refine fS ?_|refine ea ?_
 clear ax;obtain⟨jI,oL,oK,Sr,aak,ama,amb,amc,amd⟩:=bC.o et aL.o;obtain⟨dV,dz⟩:=al ((et.setCell ⟨g,i*2,T⟩ (.int c gc)).setCell ⟨g,i*2+1,T⟩ (.int c f8));have Be:dV.frozen? ⟨g,k*2,T⟩=ao:=by rw[dz];go_simp
 have aiY:dV.frozen? ⟨g,k*2+1,T⟩=ao:=by rw[dz];go_simp
 have rz:∃z,dV.cell? ⟨g,k*2,T⟩=A z:=by
  rw[dz];by_cases e:i=k
  ·subst e;exact⟨_,by go_simp;rfl⟩
  ·have br:¬i*2=k*2:=G;have a4:¬i*2+1=k*2:=G;exact⟨_,by go_simp;rfl⟩
 have D4:∃z,dV.cell? ⟨g,k*2+1,T⟩=A z:=by
  rw[dz];by_cases e:i=k
  ·subst e;exact⟨_,by go_simp;rfl⟩
  ·have br:¬i*2=k*2+1:=G;have a4:¬i*2+1=k*2+1:=G;exact⟨_,by go_simp;rfl⟩
 obtain⟨Nt,rz⟩:=rz;obtain⟨ame,D4⟩:=D4;refine dJ 25 ?_;refine lG dV ?_ (he:=by rw[dz];go_simp);have jW:=I dz;clear dz;refine⟨gj,?_⟩;repeat refine ea ?_
 obtain⟨cz,hu⟩:=al ((dV.setCell ⟨g,k*2,T⟩ (.int c c0)).setCell ⟨g,k*2+1,T⟩ (.int c cI));refine dJ 27 ?_;refine lG cz ?_ (he:=by rw[hu];go_simp);have iG:=I hu;clear hu jI oL oK Sr aak ama amb amc amd Be aiY rz D4;refine⟨gj,?_⟩;refine fc ?_;have dq:=I (vb.o et dV cz aL.o jW.o iG.o);clear jW iG aL
 go_upto_region 1 with fail
 refine jQ (λD=>D.cell? ⟨p,0,T⟩=A (E (A ⟨g,0,T⟩) L.length R)/\D.cell? ⟨p,1,T⟩=A (.map (A ab))/\D.cell? ⟨g,i*2,T⟩=A (.int c gc)/\D.cell? ⟨g,k*2,T⟩=A (.int c c0)) 26 rfl ?_;change ej _ _ _ _ _ _ _ 32 _ _ cz.drew;obtain⟨et,dm⟩:=al cz.drew;have aL:=I (show ae cz et by rw[dm];exact(bx _ _).drew);rw[<-dm];clear dm;refine ct 0 (J p 0) (λ_=>dq.o.1 _ aL.o) ?_;refine ct 1 (J p 0) (λ_=>dq.o.1 _ aL.o) ?_;refine ct 2 (J p 1) (λ_=>dq.o.1 _ aL.o) ?_;refine lH 3 (.map (A ab)) (dq.o.1 _ aL.o) ?_;refine ct 4 (J p 0) (λ_=>dq.o.1 _ aL.o) ?_;refine ct 5 (J p 0) (λ_=>dq.o.1 _ aL.o) ?_;refine ct 6 (J p 0) (λ_=>dq.o.1 _ aL.o) ?_;refine Q5 (i:=7) (v:=E (A ⟨g,0,T⟩) L.length R) [9,10,11,26] rfl rfl rfl bq bq bq bq bq bq (λ_ _ _ h=>h) (by rfl) (λw cb=>⟨by rfl,by obtain⟨jI,oL,oK,Sr⟩:=cb;go_simp⟩) (dq.o.1 _ aL.o) ?_;simp only[bN,bM,bO];refine ct 8 (.int c i) (λ_=>dq.o.1 _ aL.o) ?_;refine ct 9 (J g (i*2)) (λ_=>dq.o.1 _ aL.o) ?_;refine ct 10 (J g (i*2)) (λ_=>dq.o.1 _ aL.o) ?_;refine lH 11 (.int c gc) (dq.o.1 _ aL.o) ?_;refine ct 12 (J p 0) (λ_=>dq.o.1 _ aL.o) ?_;refine ct 13 (J p 0) (λ_=>dq.o.1 _ aL.o) ?_;refine ct 14 (J p 1) (λ_=>dq.o.1 _ aL.o) ?_;refine lH 15 (.map (A ab)) (dq.o.1 _ aL.o) ?_;refine ct 16 (J p 0) (λ_=>dq.o.1 _ aL.o) ?_;refine ct 17 (J p 0) (λ_=>dq.o.1 _ aL.o) ?_;refine ct 18 (J p 0) (λ_=>dq.o.1 _ aL.o) ?_;refine lH 19 (E (A ⟨g,0,T⟩) L.length R) (dq.o.1 _ aL.o) ?_;refine ct 20 (.int c k) (λ_=>dq.o.1 _ aL.o) ?_;refine ct 21 (J g (k*2)) (λ_=>dq.o.1 _ aL.o) ?_;refine ct 22 (J g (k*2)) (λ_=>dq.o.1 _ aL.o) ?_;refine lH 23 (.int c c0) (dq.o.1 _ aL.o) ?_;refine ct 24 (.int c i) (λ_=>dq.o.1 _ aL.o) ?_;refine ct 25 (.int c k) (λ_=>dq.o.1 _ aL.o) ?_;obtain⟨v1,s1,a1,a2,v2,fX,dX,jc,br,a4,en,od,GG⟩:=dq.o.2 et aL.o;have cH:=I GG;clear GG dq;refine kr 26 (b8 #[v1,.int c s1]) a1 ?_;repeat refine ea ?_
 refine jG 28 a2 ?_;refine kr 29 (b8 #[v2,.int c fX]) dX ?_;repeat refine ea ?_
 refine jG 31 jc ?_;refine fc ?_;go_wp2_with fail;go_end0;exact⟨rfl,cH.o⟩
theorem aan (p ab:Nat) (v:ac) (n:Int) (L:List bw) (i k:Nat) (ag:i<L.length) (K:k<L.length) (w:O) (h:hw w p ab v n L):
 aE aa 289 #[J p 0,r c i,r c k] w λe D=>e=au (aA (decide (a0 (cn L i) (cn L k))))/\ae w D:=by
 obtain⟨g,R,rfl,m9,_⟩:=h.form G;exact amg p g R L i k ag K w (h.aH.cell 0) m9
def yQ (L c':List bw):Prop:=c'.length=L.length/\∀x,x∈c'↔x∈L
theorem yQ.refl (L:List bw):yQ L L:=⟨rfl,λ_=>Iff.rfl⟩
theorem yQ.swap {hx:List bw} (h:yQ L hx) (ag:i<hx.length) (K:k<hx.length):yQ L (nQ hx i k):=⟨(qY _ _ _).trans h.1,λx=>(M7 ag K x).trans (h.2 x)⟩
def GH (w:O) (p ab:Nat) (v:ac) (n:Int) (L:List bw) (D:O):Prop:=∃c',hw D p ab v n c'/\j_ c'.length (cn c')/\yQ L c'/\Kept (mJ p ab v) w D
theorem Kept.belows {S:Nat->Prop} {a b R:O} (h:Kept S a b) (k:ae b R):Kept S a R:=h.trans (Kept.bg k)
def Sx (w:O) (p ab:Nat) (v:ac) (n:Int) (L:List bw) (j:Nat) (wr:O):Prop:=∃hx,j<hx.length/\hw wr p ab v n hx/\s3 hx.length (cn hx) j/\yQ L hx/\Kept (mJ p ab v) w wr
theorem aao (p ab:Nat) (v:ac) (n:Int) (L:List bw) (i:Nat) (ag:i<L.length) (w:O) (h:hw w p ab v n L) (Z:s3 L.length (cn L) i):
 aE aa 249 #[J p 0,r c i] w λe D=>e=au (b8 #[])/\GH w p ab v n L D:=by
 have bZ:=I (show Sx w p ab v n L i w from⟨L,ag,h,Z,yQ.refl _,Kept.refl _ _⟩);clear ag h Z;go_in;go_wp2_with fail;go_loopw [1] (λu wr=>∃j:Nat,u=r c j/\Sx w p ab v n L j wr) (λu _=>(cu u).toNat)
 ·exact⟨i,rfl,bZ.o⟩
 ·obtain⟨j,rfl,hx,av,cf,tT,cb,dQ⟩:=hrel;have iH:=cf.dR;by_cases h0:j=0
  ·subst h0;have dq:=I (show GH w p ab v n L wr from⟨hx,cf,tT.done (.inl rfl),cb,dQ⟩);clear av cf tT cb dQ bZ iH;go_wp2_with fail;go_end0;exact⟨rfl,dq.o⟩
  ·obtain⟨q,aO⟩:∃q:Nat,((j:Int)-1)/4=(q:Nat):=⟨(j-1)/4,G⟩;have Ad:q=(j-1)/4:=G;have Sy:q<j:=G;have n4:(1:Int)<=j:=G;have aC_:(j:Int)<=16777216:=G;have oe:q<hx.length:=G;have dM:=aan p ab v n hx j q av oe wr cf;by_cases aw:a0 (cn hx j) (cn hx q)
   ·rw[decide_eq_true aw] at dM;have dM:=I dM;have dN:aM (∀iV,ae wr iV->aE aa 251 #[J p 0,r c j,r c q] iV λe D=>e=au (b8 #[])/\Sx w p ab v n L q D):=λiV hb=>
     (Sp p ab v n hx j q av oe iV (cf.below hb)).mono λe D ⟨h1,h2,ap⟩=>⟨h1,nQ hx j q,by rw[qY];exact oe,h2,by
      have q1:=tT.step G av (by rw[<-Ad];exact aw);rw[<-Ad] at q1;rw[qY,BJ hx av oe];exact q1,cb.swap av oe,(dQ.belows hb).trans ap⟩
    have amh:=I Sy;clear av cf tT cb dQ bZ iH aw oe Ad Sy;go_wp2_with fail;refine dl dM.o λiV hb=>?_;have cj:=I (dN.o iV hb);clear dN dM hb;go_wp2_with fail;refine dl cj.o λj' cf=>?_;have dd:=I cf;clear cf cj;go_wp2_with fail;go_roundw
    ·exact⟨q,by first|rfl|go_num,dd.o⟩
    ·have:=amh.o;simp[cu];omega
   ·rw[decide_eq_false aw] at dM;have dM:=I dM;have dq:aM (∀iV,ae wr iV->GH w p ab v n L iV):=λiV hb=>⟨hx,cf.below hb,tT.done (.inr (by rw[<-Ad];exact aw)),cb,dQ.belows hb⟩;clear av cf tT cb dQ bZ iH aw oe Ad Sy;go_wp2_with fail;refine dl dM.o λiV hb=>?_;have dd:=I (dq.o iV hb);clear hb dq dM;go_wp2_with fail;go_end0;exact⟨rfl,dd.o⟩
section
attribute [local go_sem] f'
def it (f:Nat):ac:= .func (.func f) #[] #[]
theorem aad (w:O):aE aa 17 #[] w λe D=>∃b,e=au (.map (A b))/\pR D b [(0,it 51),(1,it 52)]/\ae w D:=by
 have lo:=@Bc aa;have yN:pR (w.alloc (.map #[] 0)) w.heap.size []:=pR.empty (vY _ _);obtain⟨v1,r1,e4,q1⟩:=yN.insert XH (k:=0) G (it 51) [(0,it 51)] a3 a3 a3 a3;obtain⟨v2,r2,g7,q2⟩:=e4.insert XH (k:=1) G (it 52) [(0,it 51),(1,it 52)] a3 a3 a3 a3;have eB:ae w v2:=((fb).trans (q1.below a3 (λk K=>by rw[K];exact bY _))).trans (q2.below (by have:=q1.size;simp at this;omega) (λk K=>by rw[K];exact bY _));have H:=db g7 eB;unfold it at r1 r2;go_in;go_wp2_with fail;go_ret;exact⟨_,rfl,H.o⟩
theorem aae (w:O):aE aa 21 #[] w λe D=>∃b,e=au (.map (A b))/\pR D b [(0,it 57),(1,it 58),(2,it 59)]/\ae w D:=by
 have lo:=@Bc aa;have yN:pR (w.alloc (.map #[] 0)) w.heap.size []:=pR.empty (vY _ _);obtain⟨v1,r1,e4,q1⟩:=yN.insert QI (k:=0) G (it 57) [(0,it 57)] a3 a3 a3 a3;obtain⟨v2,r2,g7,q2⟩:=e4.insert QI (k:=1) G (it 58) [(0,it 57),(1,it 58)] a3 a3 a3 a3;obtain⟨rx,eC,lI,bm⟩:=g7.insert QI (k:=2) G (it 59) [(0,it 57),(1,it 58),(2,it 59)] a3 a3 a3 a3;have g4:=q1.size;have hK:=q2.size;simp at g4;have el:ae w rx:=(((fb).trans (q1.below a3 (λk K=>by rw[K];exact bY _))).trans (q2.below G (λk K=>by rw[K];exact bY _))).trans (bm.below G (λk K=>by rw[K];exact bY _));have H:=db lI el;unfold it at r1 r2 eC;go_in;go_wp2_with fail;go_ret;exact⟨_,rfl,H.o⟩
def pe (fl fu:Int) (cU:ac) (eh bL:Int):ac:=aZ #[r c fl,r c fu,cU,r c eh,r c bL]
theorem al2 (h:0<=fl/\fl<=16) (w:O):aE aa 38 #[pe fl fu cU eh bL] w λe D=>e=au (aA ad)/\ae w D:=by
 have bP:=I ((bx w.heap.size w).alloc (bY _) (an #[r c fl,r c fu,cU,r c eh,r c bL] 39));obtain⟨h1,h2⟩:=h;unfold pe;go_in;go_wp2_with fail;go_ret;exact⟨rfl,bP.o⟩
theorem al3 (h:1<=bL/\bL<=256) (w:O):aE aa 41 #[pe fl fu cU eh bL] w λe D=>e=au (aA ad)/\ae w D:=by
 have bP:=I ((bx w.heap.size w).alloc (bY _) (an #[r c fl,r c fu,cU,r c eh,r c bL] 39));obtain⟨h1,h2⟩:=h;unfold pe;by_cases K:eh=0
 ·subst K;have yt:undef=Iq #[]:=rfl;go_in;go_wp2_with fail;go_ret;exact⟨rfl,bP.o⟩
 ·have e6:(eh==0)=ao:=beq_eq_false_iff_ne.2 K;go_in;go_wp2_with fail;go_ret;exact⟨rfl,bP.o⟩
theorem al4 (h:fu=0\/fu=1) (w:O):aE aa 39 #[pe fl fu cU eh bL] w λe D=>e=au (aA ad)/\ae w D:=by
 obtain⟨ai,cd⟩:=al w.heap.size;obtain⟨ay,bA⟩:=al (w.alloc (an #[r c fl,r c fu,cU,r c eh,r c bL] 39));have aX:=dx bA;have gS:=eK bA cd;have bC:aM (∀u,ae ay u->u.cell? (B ai 1)=A (r c fu)):=λu Z=>(gS.aq Z).cell 1;have dN:=db bA cd;unfold pe;clear bA cd;go_in;go_wp2_with fail;rw[<-dN.o.1,<-dN.o.2];refine pF 3 bC.o λdV dz ax=>?_;repeat first|refine fS ?_|refine ea ?_
 refine dJ 0 ?_;refine e3 17 #[] (aad dV) ?_;rintro e cz ⟨b,rfl,dU,a5⟩;have iG:=I (dz.next' a5);obtain⟨f,hf⟩:∃f,(fu,it f)∈[((0:Int),it 51),(1,it 52)]:=by
  rcases h with rfl|rfl
  all_goals simp
 have iD:=dU.look XH hf (by rcases h with rfl|rfl<;>omega);unfold it at iD;refine⟨_,rfl,λ_=>bC.o cz iG.o,?_⟩;simp only[bN,bM,bO];refine kr 3 (.func (.func f) #[] #[]) cz ?_;repeat refine ea ?_
 refine fc ?_;go_wp2_with fail;go_ret;exact⟨rfl,aX.next' iG.o⟩
theorem al5 (h:eh=0\/eh=1\/eh=2) (w:O):aE aa 40 #[pe fl fu cU eh bL] w λe D=>e=au (aA ad)/\ae w D:=by
 obtain⟨ai,cd⟩:=al w.heap.size;obtain⟨ay,bA⟩:=al (w.alloc (an #[r c fl,r c fu,cU,r c eh,r c bL] 39));have aX:=dx bA;have gS:=eK bA cd;have bC:aM (∀u,ae ay u->u.cell? (B ai 3)=A (r c eh)):=λu Z=>(gS.aq Z).cell 3;have dN:=db bA cd;unfold pe;clear bA cd;go_in;go_wp2_with fail;rw[<-dN.o.1,<-dN.o.2];refine pF 3 bC.o λdV dz ax=>?_;repeat first|refine fS ?_|refine ea ?_
 refine dJ 0 ?_;refine e3 21 #[] (aae dV) ?_;rintro e cz ⟨b,rfl,dU,a5⟩;have iG:=I (dz.next' a5);obtain⟨f,hf⟩:∃f,(eh,it f)∈[((0:Int),it 57),(1,it 58),(2,it 59)]:=by
  rcases h with rfl|rfl|rfl
  all_goals simp
 have iD:=dU.look QI hf (by rcases h with rfl|rfl|rfl<;>omega);unfold it at iD;refine⟨_,rfl,λ_=>bC.o cz iG.o,?_⟩;simp only[bN,bM,bO];refine kr 3 (.func (.func f) #[] #[]) cz ?_;repeat refine ea ?_
 refine fc ?_;go_wp2_with fail;go_ret;exact⟨rfl,aX.next' iG.o⟩
theorem al6 {p:ac} {yO:Nat} (aP:∃a b R d e,p=aZ #[a,b,R,d,e]) (qf:Nat->Nat) (cs:Nat->Int) (cd:V w yO #[it (qf 0),r c (cs 0),it (qf 1),r c (cs 1),it (qf 2),r c (cs 2),it (qf 3),r c (cs 3)] 103) (jm:∀j,j<4->∀args w,(callFunc (qf j) args).run aa w= .ok (.enter (qf j) args) w)
 (bJ:∀j,j<4->∀u,ae w u->aE aa (qf j) #[p] u λe D=>e=au (aA ad)/\ae u D):
 aE aa 37 #[p,E (A (B yO 0)) 4 4] w λe D=>e=au nj/\ae w D:=by
 obtain⟨a,b,R,d,e,rfl⟩:=aP;obtain⟨ai,So⟩:=al w.heap.size;obtain⟨ay,bA⟩:=al (w.alloc (an #[a,b,R,d,e] 39));have aX:=dx bA;have gS:=eK bA So;have dN:=db bA So;have sQ:∀u,ae w u->∀j,j<4->u.cell? (B yO (j*2))=A (it (qf j))/\u.cell? (B yO (j*2+1))=A (r c (cs j)):=λu Z j av=>by
  have q:=cd.aq Z;obtain rfl|rfl|rfl|rfl:j=0\/j=1\/j=2\/j=3:=G
  ·exact⟨q.cell 0,q.cell 1⟩
  ·exact⟨q.cell 2,q.cell 3⟩
  ·exact⟨q.cell 4,q.cell 5⟩
  ·exact⟨q.cell 6,q.cell 7⟩
 clear bA So;go_in;go_wp2_with fail;rw[<-dN.o.1,<-dN.o.2];go_loopw [9] (λi wr=>∃j:Nat,j<=4/\i=r c j/\aM (ae ay wr)) (λi _=>4-(cu i).toNat)
 ·exact⟨0,G,rfl,I (bx _ _)⟩
 ·obtain⟨j,av,rfl,bP⟩:=hrel;by_cases a0:j<4
  ·have ie:(j:Int)<4:=G;have ku:=ew j;have gQ:=aX.next' bP.o;obtain⟨bR,aV⟩:=sQ wr gQ j a0;unfold it at bR;have aC9:=jm j a0;have kO:=(bx wr.heap.size wr).alloc (bY _) (an #[.func (.func (qf j)) #[] #[],r c (cs j)] 103);have oW:=I (bJ j a0 _ (gQ.next' kO));have q:=gS.aq (bP.o.next' kO);have p0:=aR q 0;have p1:=aR q 1;have p2:=aR q 2;have e8:=aR q 3;have i6:=aR q 4;have t3:=I (bP.o.next' kO);clear gQ kO q a0;go_wp2_with fail;refine dl oW.o λaJ a5=>?_;have dT:=I (t3.o.next' a5);go_wp2_with fail;go_roundw
   ·exact⟨j+1,G,by go_num,dT⟩
   ·simp[cu];omega
  ·obtain rfl:j=4:=G;go_wp2_with fail;go_ret;exact⟨rfl,aX.next' bP.o⟩
theorem al7 (h1:0<=fl/\fl<=16) (h2:fu=0\/fu=1) (ap:eh=0\/eh=1\/eh=2) (bl:1<=bL/\bL<=256) (w:O):
 aE aa 14 #[pe fl fu cU eh bL] w λe D=>e=au nj/\ae w D:=by
 obtain⟨ay,bA⟩:=al (w.alloc (an #[r c fl,r c fu,cU,r c eh,r c bL] 39));obtain⟨aJ,cK⟩:=al (ay.alloc (an #[it 38,r c 11,it 39,r c 12,it 40,r c 13,it 41,r c 14] 103));have aX:=dx bA;have a5:=dx cK;have GE:=I (al6 (p:=pe fl fu cU eh bL) (w:=aJ) (yO:=ay.heap.size) ⟨_,_,_,_,_,rfl⟩ (λj=>match j with|0=>38|1=>39|2=>40|_=>41) (λj=>match j with|0=>11|1=>12|2=>13|_=>14) (by rw[cK];exact V.new _ _ _ _)
  (λj av=>by
   obtain rfl|rfl|rfl|rfl:j=0\/j=1\/j=2\/j=3:=G
   ·exact fg func38 bq rfl
   ·exact fg func39 bq rfl
   ·exact fg func40 bq rfl
   ·exact fg func41 bq rfl)
  (λj av u _=>by
   obtain rfl|rfl|rfl|rfl:j=0\/j=1\/j=2\/j=3:=G
   ·exact al2 h1 u
   ·exact al4 h2 u
   ·exact al5 ap u
   ·exact al3 bl u))
 have bP:=I (aX.next' a5);have dN:=db bA cK;unfold pe at GE⊢;unfold it at dN;clear bA cK;go_in;go_wp2_with fail;rw[show ay.heap.size=w.heap.size+1 from(by rw[dN.o.1];simp)] at GE;rw[<-dN.o.1,<-dN.o.2];refine dl GE.o λba ck=>?_;have dh:=I (bP.o.next' ck);go_wp2_with fail;go_ret;exact⟨rfl,dh.o⟩
abbrev xC (i n:Nat):={k:Nat//4*i+1<=k/\k<=4*i+4/\k<n}
def Nu {i n:Nat} (x:xC i n):Array ac:=#[r c (x.1:Nat)]
def GI {i n:Nat} (k:Nat) (ce:List (xC i n)):Prop:=∀j,4*i+1<=j->j<k->j<=4*i+4->j<n->∃x∈ce,x.1=j
theorem amj (p:Option Addr) (i:Nat) (w:O):aE aa 290 #[a6 p,r c i] w λe D=>e=au (.func (.func 310) #[] #[J (w.heap.size+1) 0,J w.heap.size 0])/\
 D=(w.alloc (an #[a6 p] 387)).alloc (an #[r c i] 3):=by
 have g_:=@hJ aa;go_in;go_wp2_with fail;go_ret;exact⟨rfl,rfl⟩
theorem amk (m:Nat) (hm:1<=m) (gd gZ cN am p i n R:Nat) (a:Option Addr) (ag:i<=16777216) (bG iu:List (xC i n)->O->Prop)
 (ei:∀(pre:List (xC i n)) (x:xC i n) W,bG pre W->pre.length<4->YieldAt dY (m-1) aa gd (Nu x) W λe W'=>
  (e=au (aA ad)/\bG (pre++[x]) W'/\nu am gZ cN W W')\/(e=au (aA ao)/\iu (pre++[x]) W'))
 (W:O) (Sz:p<am) (aP:W.cell? (B p 0)=A (E a n R)) (BX:V W gZ #[r c i] 3) (n3:V W cN #[J p 0] 387) (h0:bG [] W):
 CallsIn dY m aa 310 #[.func (.yield gd) #[] #[],J gZ 0,J cN 0] W λe W'=>(∃v,e=au v)/\
  ((∃ce,GI n ce/\bG ce W')\/(∃pre,True/\iu pre W')):=by
 have bZ:aM (∀wr,nu am gZ cN W wr->wr.cell? (B p 0)=A (E a n R)/\wr.cell? (B gZ 0)=A (r c i)/\wr.cell? (B cN 0)=A (J p 0)):=λwr K=>
  ⟨(mO (K.1.block p Sz)).trans aP,(show V wr gZ _ _ _ from K.2.1.trans BX).cell 0,(show V wr cN _ _ _ from K.2.2.trans n3).cell 0⟩
 obtain⟨aV,bb,ch⟩:=bZ.o W ⟨bx _ _,rfl,rfl⟩;have hM:=I h0;have ve:=ew i;have s7:(i:Int)<=16777216:=G;clear aP BX n3 h0;refine kL aBw rfl trivial ?_ rfl;simp only[ntmps310,g0,fV,gp,gA,g1,gI,gJ,gK,gL,f1,fW];gi_wp2_with fail;clear aV bb ch;gi_loopw [4] (λu wr=>∃(k:Nat) (pre:List (xC i n)),u=r c k/\pre.length+(4*i+1)=k/\k<=4*i+5/\aM (GI k pre)/\aM (nu am gZ cN W wr)/\aM (bG pre wr)) (λu _=>4*i+6-(cu u).toNat)
 ·exact⟨4*i+1,[],by first|rfl|exact congrArg (kK c) G,a3,G,I (λj h1 h2=>by omega),I ⟨bx _ _,rfl,rfl⟩,hM⟩
 ·obtain⟨k,pre,rfl,K,qn,cS,cw,ld⟩:=hrel;obtain⟨aV,bb,ch⟩:=bZ.o wr cw.o;have rA:(k:Int)<=4*16777216+5:=G;by_cases bl:k<=4*i+4
  ·have aml:(k:Int)<=4*(i:Int)+4:=G;by_cases s_:k<n
   ·have amm:(k:Int)<n:=G;have aw:pre.length<4:=G;obtain⟨x,ak⟩:∃x:xC i n,x.1=k:=⟨⟨k,G,bl,s_⟩,rfl⟩;obtain⟨fn,tmps,assign,body,az,cf⟩:=ei pre x wr ld.o aw;dsimp only[Nu] at az;rw[ak] at az;have e7:=I ak;have Jp:=ig K bl s_;clear aw K qn bl s_ ak;gi_wp2_with fail;refine cf.mono ?_;rintro e dI (⟨rfl,ho,dv⟩|⟨rfl,og⟩)
    ·have lf:=I ho;have GJ:=I (cw.o.trans dv);clear ho dv;gi_wp2_with fail;go_roundw
     ·exact⟨k+1,_,by go_num,by have:=Jp.o;rw[gW,w_];omega,bI Jp.o,I (λj h1 h2 ap cL=>by
      by_cases e:j=k
      ·exact⟨x,a3,e7.o.trans e.symm⟩
      ·obtain⟨x,ak,ex⟩:=cS.o j h1 G ap cL;exact⟨x,fJ.2 (.inl ak),ex⟩),GJ,lf⟩
     ·have:=Jp.o;simp[cu];omega
    ·gi_wp2_with fail;refine gh (mQ rfl _ _ _) rfl ?_;exact⟨⟨_,rfl⟩,.inr ⟨_,trivial,og⟩⟩
   ·have amm:¬(k:Int)<n:=G;have BY:=I (show GI n pre fromλj h1 h2 ap cL=>cS.o j h1 G ap cL);clear K qn bl s_;gi_wp2_with fail;go_end0;exact⟨⟨_,rfl⟩,.inl ⟨_,BY.o,ld.o⟩⟩
  ·have aml:¬(k:Int)<=4*(i:Int)+4:=G;have BY:=I (show GI n pre fromλj h1 h2 ap cL=>cS.o j h1 G ap cL);clear K qn bl;gi_wp2_with fail;go_end0;exact⟨⟨_,rfl⟩,.inl ⟨_,BY.o,ld.o⟩⟩
theorem amn (m:Nat) (hm:1<=m) (gZ cN am p i n R:Nat) (a:Option Addr) (ag:i<=16777216) (w:O) (Sz:p<am) (dC:am<=w.heap.size) (aP:w.cell? (B p 0)=A (E a n R)) (BX:V w gZ #[r c i] 3) (n3:V w cN #[J p 0] 387):
 SeqStopsK dY m aa 310 #[J gZ 0,J cN 0] (Nu (i:=i) (n:=n)) (nu am gZ cN) (GI n) (λ_=>True) 4 w:=λgd bG iu W hb _ _ ei h0=>
 amk m hm gd gZ cN am p i n R a ag bG iu ei W Sz ((mO (hb.block p G)).trans aP) (BX.aq hb) (n3.aq hb) h0
theorem KeepsFrom.s' {S:Nat->Prop} {W:O} (h:Kept S W W') (cb:∀k,S k->k<W.heap.size->k<ai\/∃cs t fr,V W k cs t fr):KeepsFrom ai W W':=
 ⟨h.size,λk o cd K aQ=>by
  by_cases aB:S k
  ·rcases cb k aB (gU.1 K).1 with h1|⟨cs,t,fr,hb⟩
   ·omega
   ·rw[show W.heap[k]? =_ from hb] at K;obtain rfl:=eT K;cases aQ
  ·exact(h.block k (gU.1 K).1 aB).trans K⟩
theorem KeepsFrom.one {z:Nat} {W:O} (h:Kept (λj=>j=z) W W') {t:cY} (hb:V W z cs t fr):KeepsFrom ai W W':=KeepsFrom.s' h λj av _=> .inr ⟨cs,t,fr,by subst av;exact hb⟩
def Nv (w:O) (p ab:Nat) (v:ac) (n:Int) (L:List bw) (j:Nat) (wr:O):Prop:=∃hx,(j<hx.length\/(hx.length=0/\j=0))/\hw wr p ab v n hx/\wl hx.length (cn hx) j/\yQ L hx/\Kept (mJ p ab v) w wr
def BZ (fQ:O) (lx:Nat) (L:List bw) (i:Nat) (pre:List (xC i L.length)) (W:O):Prop:=
 ∃b:Nat,V W lx #[r c b] 3 (0,0)/\(b=i\/(4*i+1<=b/\b<=4*i+4/\b<L.length))/\hle (cn L b) (cn L i)/\(∀x∈pre,hle (cn L b) (cn L x.1))/\bQ lx fQ W
theorem amo {a b:bw} (h:hle a b) (aC:a.1≠b.1):a0 a b:=by unfold hle a0 at*;omega
theorem B0 {Q C:O} {row:Option Nat} {n:Nat} (hg:Q.grownBy C row) (ar:∀U,row=A U->n<=U/\∃o:Obj,Q.heap[U]? =A o/\o.isCells=ao) {t:cY} (hb:V Q k cs t fr):V C k cs t fr:=
 (hg.block k hb.lt (λe=>by
  obtain⟨_,o,aQ,ah⟩:=ar _ e.symm;rw[show Q.heap[k]? =_ from hb] at aQ;obtain rfl:=eT aQ;cases ah)).trans hb
theorem amp {fQ:O} {lx n:Nat} (Ae:lx<=fQ.heap.size) (dC:lx<=n):OwnFrom n (BZ fQ lx L i):=λs Q C row aB hg ar=>by
 obtain⟨b,h1,h2,ap,bl,cL⟩:=aB;exact⟨b,B0 hg ar h1,h2,ap,bl,cL.grown hg (cM Ae cL.size) (λk e=>cM dC (ar k e).1)⟩
theorem BZ.step {fQ:O} {lx:Nat} {pre:List (xC i L.length)} {x:xC i L.length} (h2:b=i\/(4*i+1<=b/\b<=4*i+4/\b<L.length)) (ap:hle (cn L b) (cn L i)) (bl:∀x∈pre,hle (cn L b) (cn L x.1)) (cL:bQ lx fQ W'):
 (a0 (cn L x.1) (cn L b)->V W' lx #[r c (x.1:Nat)] 3 (0,0)->BZ fQ lx L i (pre++[x]) W')/\(¬a0 (cn L x.1) (cn L b)->V W' lx #[r c b] 3 (0,0)->BZ fQ lx L i (pre++[x]) W'):=by
 refine⟨λaw hb=>⟨x.1,hb,.inr x.2,DS (I6 aw) ap,λy az=>?_,cL⟩,λaw hb=>⟨b,hb,h2,ap,λy az=>?_,cL⟩⟩
 ·rcases fJ.1 az with az|az
  ·exact DS (I6 aw) (bl y az)
  ·rw[f2.1 az];exact RT _
 ·rcases fJ.1 az with az|az
  ·exact bl y az
  ·rw[f2.1 az];exact aw
theorem amq {n:Nat} {ce:List (xC i n)} (h:GI n ce) {f:Nat->bw} (hb:∀x∈ce,hle y (f x.1)):∀j,0<j->j<n->(j-1)/4=i->hle y (f j):=λj h0 av aP=>by
 obtain⟨x,ak,e⟩:=h j G av G av;rw[<-e];exact hb x ak
theorem amr (m:Nat) (hm:3<=m) (p ab:Nat) (v:ac) (n:Int) (L:List bw) (i:Nat) (ag:i<L.length\/(L.length=0/\i=0)) (w:O) (h:hw w p ab v n L) (a9:wl L.length (cn L) i):
 CallsIn dY m aa 252 #[J p 0,r c i] w λe D=>e=au (b8 #[])/\GH w p ab v n L D:=by
 have h1:1<=m:=G;have g_:=@hJ aa;obtain⟨bh,dW⟩:=al w.heap.size;obtain⟨ay,bA⟩:=al (w.alloc (an #[.func (.func 289) #[J p 0] #[]] 272));have aX:=dx bA;have bZ:=I (show Nv w p ab v n L i ay/\V ay bh #[.func (.func 289) #[J p 0] #[]] 272 (0,0) from⟨⟨L,ag,h.below aX,a9,yQ.refl _,Kept.bg aX⟩,by rw[bA,dW];exact V.new _ _ _ _⟩);have B1:aM (∀k,mJ p ab v k->k<bh):=λk K=>by rw[dW];exact h.lt K
 have cX:=I bA;have g6:=I dW;clear bA dW;refine sL func252 rfl trivial ?_ rfl;simp only[ntmps252,g0,fV,gp,gA,g1,gI,gJ,gK,gL,f1,fW];gi_wp2_with fail;rw[<-cX.o,<-g6.o];refine Xo (λa wr=>∃(j:Nat) (dV cz hI kw qq t8 u8 xD oh D7 xp wb xq Bv u16 Bw IL rr zJ zK zL zM xr zN zO:ac) (ds:List j2),a={tmps:=#[J p 0,dV,cz,hI,J bh 0,kw,qq,t8,u8,xD,oh,D7,xp,wb,xq,Bv,u16,Bw,IL,rr,zJ,zK,zL,zM,xr,zN,zO],defers:=ds}/\dV=r c j/\kq bh wr ds/\V wr bh #[.func (.func 289) #[J p 0] #[]] 272 (0,0)/\Nv w p ab v n L j wr) (λa _=>L.length-(cu (a.tmps.getD 1 undef)).toNat) ?_ ?_
 ·exact⟨i,_,_,_,_,_,_,_,_,_,_,_,_,_,_,_,_,_,_,_,_,_,_,_,_,_,[],rfl,rfl,trivial,bZ.o.2,bZ.o.1⟩
 rintro _ wr ⟨j,dV,cz,hI,kw,qq,t8,u8,xD,oh,D7,xp,wb,xq,Bv,u16,Bw,IL,rr,zJ,zK,zL,zM,xr,zN,zO,ds,rfl,rfl,yC,dW,hx,ams,cf,wg,cb,amt⟩;obtain⟨a,R,aK⟩:=cf.slice;have iH:=cf.dR;obtain⟨z,b5⟩:=al wr.heap.size;obtain⟨aJ,cK⟩:=al (wr.alloc (an #[r c j] 3));have amu:=dx cK;have hK:aJ.heap.size=z+1:=by rw[cK,b5];simp
 have k2:=eK cK b5;have B2:bh<z:=by rw[b5];exact dW.lt
 have bP:=I dW;have fR:=I b5;have mc:=I cK;have kx:=I aK;clear b5 cK aK;gi_wp2_with fail;rw[<-mc.o,<-fR.o];refine jb (amj _ j aJ) λfQ jy=>?_;rw[hK];have cT:=oQ jy;have amv:V fQ (z+1) #[J p 0] 387:=by rw[jy,<-hK];exact(V.new _ _ _ _).alloc _
 have amw:V fQ (z+1+1) #[r c j] 3:=by
  rw[jy,<-hK];have h:=V.new (aJ.alloc (an #[J p 0] 387)) #[r c j] 3 (0,0)
  rwa[d8] at h
 have kR:fQ.heap.size=z+3:=by rw[jy];simp[hK]
 have B3:=amu.next' cT;have kb:=k2.aq cT;have Gm:=cf.below B3;have qS:fQ.cell? (B p 0)=A (E a hx.length R):=by rw[<-kx.o];exact Gm.aH.cell 0
 have amx:p<z:=XI (B1.o p (.inl rfl)) B2;have amy:j<=16777216:=g3 ams iH;have hst:=amn (m-1) G (z+1+1) (z+1) z p j hx.length R a amy fQ amx G qS amw amv;have GK:=I (show BZ fQ z hx j [] fQ from⟨j,kb,.inl rfl,RT _,λ_ h=>(by cases h),bx _ _⟩);have hd:=I (B3.mono (tM fR.o));have aaq:=I (bP.o.aq B3);clear jy;gi_wp2_with fail;refine Ma (F:=dY) rfl h1 (gf:=310) (lb:=#[J (z+1+1) 0,J (z+1) 0]) rfl trivial (fg aBw bq rfl)
  hst nu.trans (nu.put (w:=fQ) (bI kR) ⟨bI kR,bI kR⟩) (bx _ _) (λ_=>rfl)
  (BZ fQ z hx j) (λ_ _ _=>False) (amp (bI kR) (bI kR)) (λ_ _ _ _ _ aB _ _=>aB) GK.o ?a1 ?assign ?body ?done ?stop
 case assign=>
  intro l x W aT dQ;dsimp only[Nu];gi_wp2;exact dQ
 case body=>
  rintro l pre x W ⟨b,GL,a5,ck,c_,cT⟩ _;have FV:=aR (aaq.o.below (cT.mono (bY _)) B2) 0;have Af:=aR GL 0;have amz:=GL.free 0 (.inr (cQ _));have Jq:hw W p ab v n hx:=Gm.dy λk K=>cT.block k (XI (B1.o k K) B2);have mT:b<hx.length:=by
   have:=x.2;rcases a5 with rfl|⟨_,_,h⟩
   ·omega
   ·exact h
  have dM:=I (aan p ab v n hx x.1 b x.2.2.2 mT W Jq);obtain⟨k,K⟩:=al x.1;rw[<-K] at dM;have Nw:=GL.lt;have cw:=I K;rw[<-K];clear K;gi_wp2_with fail;refine⟨trivial,λ_=>G,?_⟩;refine xj (FQ l (im.2 dM.o)) λfK B4=>?_;have aX:=GL.below B4 Nw;have aC':=aR aX 0;have aDa:=aX.free 0 (.inr (cQ _));have aar:=cT.trans (B4.mono (L0 Nw));by_cases aw:a0 (cn hx k) (cn hx b)
  ·rw[decide_eq_true aw];gi_wp2_with fail;have SA:V (fK.setCell (B z 0) (r c k)) z #[r c k] 3:=aX.set 0 _;have qr:Kept (λj=>j=z) W (fK.setCell (B z 0) (r c k)):=Kept.setCell (S:=λj=>j=z) (p:=B z 0) (Kept.bg B4) rfl _;refine⟨KeepsFrom.one qr GL,⟨qr.below (L0 Nw) (λj av=>by omega),qr.block _ (g3 cT.size kR) G,qr.block _ (g3 cT.size kR) G⟩,?_⟩;refine(BZ.step (x:=x) a5 ck c_ (aar.setCell (p:=B z 0) (bY _) _)).1 (by rw[<-cw.o];exact aw) (by rw[<-cw.o];exact SA)
  ·rw[decide_eq_false aw];gi_wp2_with fail;have qr:Kept (λj=>j=z) W fK:=Kept.bg B4;refine⟨KeepsFrom.one qr GL,⟨qr.below (L0 Nw) (λj av=>by omega),qr.block _ (g3 cT.size kR) G,qr.block _ (g3 cT.size kR) G⟩,?_⟩;exact(BZ.step (x:=x) a5 ck c_ aar).2 (by rw[<-cw.o];exact aw) aX
 case done=>
  rintro aF ce W fh SB ⟨b,aX,a5,ck,c_,cT⟩ ly;have Af:=aR aX 0;have Jq:hw W p ab v n hx:=Gm.dy λk K=>cT.block k (XI (B1.o k K) B2);have xs:bQ z wr W:=hd.o.trans cT;have jT:=yC.aap (D:=W) (λk _ K _ _=>xs.block k (by rw[fR.o];exact K)) (g3 kR fR.o) (g3 B2 fR.o) ly;have Nx:=amt.belows (xs.mono (tM fR.o.symm));have amA:=aaq.o.below cT B2;have nU:=amq SB c_;by_cases e:b=j
  ·subst e;have cH:=I (show GH w p ab v n L W from⟨hx,Jq,wg.done nU,cb,Nx⟩);gi_wp2_with fail;refine vc a3 _ _ jT λD eQ fi=>?_;obtain⟨t9,q1,q2,bm,cZ⟩:=cH.o;have aDb:w.heap.size<=bh:=tM g6.o.symm;exact⟨_,by simp[gq,results252,go_sem],rfl,t9,q1.dy (λk K=>fi.block k (B1.o k K)),q2,bm,⟨fi.os.trans cZ.os,fi.tape.trans cZ.tape,fi.output.trans cZ.output,cM cZ.size fi.size,λk K aB=>(fi.block k G).trans (cZ.block k K aB)⟩⟩
  ·have o_:4*j+1<=b/\b<=4*j+4/\b<hx.length:=by
    rcases a5 with h|h
    ·exact absurd h e
    ·exact h
   have aDc:((b:Int)==(j:Int))=ao:=by rw[beq_eq_false_iff_ne];omega
   have pH:j<hx.length:=G;have Ny:=I (Sp p ab v n hx j b pH o_.2.2 W Jq);have aC:=wg.step G o_.2.2 G nU (amo ck (λa4=>e (Jq.ids b j o_.2.2 pH a4)));have hrel:∀dI,hw dI p ab v n (nQ hx j b)->Kept (mJ p ab v) W dI->Nv w p ab v n L b dI:=λdI q1 q2=>⟨nQ hx j b,.inl (by rw[qY];exact o_.2.2),q1,by rw[qY,BJ hx pH o_.2.2];exact aC,cb.swap pH o_.2.2,Nx.trans q2⟩;have nv:=I (show hx.length=L.length/\j<b/\b<hx.length from⟨cb.1,G,o_.2.2⟩);have aas:=I (show z<W.heap.size from aX.lt);gi_wp2_with fail;refine pD Ny.o ?_;rintro e dI ⟨rfl,BB,Jr⟩;have dv:∀k,bh<=k->k<W.heap.size->dI.heap[k]? =W.heap[k]? :=λk h1 h2=>Jr.block k h2 (λhf=>by have:=B1.o k hf;omega);have aDd:=aR (show V dI z #[r c b] 3 (0,0) from(dv z (L0 B2) aas.o).trans aX) 0;have SC:=I (show kq bh dI _/\V dI bh #[.func (.func 289) #[J p 0] #[]] 272 (0,0)/\Nv w p ab v n L b dI from⟨jT.a_ λe9 h1 ⟨dS,fy,fm⟩=>dv e9 h1 (jT.lt dS fy e9 fm),(dv bh (bY _) (XI B2 aas.o)).trans amA,hrel dI BB Jr⟩);gi_wp2_with fail;refine⟨⟨b,_,_,_,_,_,_,_,_,_,_,_,_,_,_,_,_,_,_,_,_,_,_,_,_,_,_,rfl,rfl,SC.o.1,SC.o.2.1,SC.o.2.2⟩,?_⟩;show L.length-((b:Int)).toNat<L.length-((j:Int)).toNat;have:=nv.o;omega
 case stop=>
  rintro aF R pre W _ _ h _;exact h.elim
theorem amB (p ab:Nat) (v:ac) (n:Int) (L:List bw) (i:Nat) (ag:i<L.length\/(L.length=0/\i=0)) (w:O) (h:hw w p ab v n L) (a9:wl L.length (cn L) i):
 aE aa 252 #[J p 0,r c i] w λe D=>e=au (b8 #[])/\GH w p ab v n L D:=
 im.1 (amr 4 G p ab v n L i ag w h a9)
end
theorem SD (h:hw w p ab v n L) (ak:0<=x/\x<n):(vZ c x).wf=ad:=t5 (bI h.z8)
theorem aat (h:hw w p ab v n L) (ag:i<L.length):(l' 155 (.map (A ab)) (.int c (cn L i).1) ad).run aa w= .ok (b8 #[.int c i,.bool ad]) w:=by
 obtain⟨aF,h1,h2,_⟩:=h.map;obtain⟨v0,c7,iD,cf⟩:=h1.look_ok n' yp (BP w) (BQ (a:=0) bj) (Dq qP (SD h (h.hS i ag)));obtain⟨aV,rfl,pI,_⟩:=XD qP cf;have br:aF.atKey (hv (cn L i).1) _=_:=congrArg XE pI;rw[h2.2 i ag] at br;simp at br;have a4:o6 aF (hv (cn L i).1)=ad:=(h2.1 _).2 ⟨i,ag,rfl⟩;change _=QG (Iq #[kK c aV,Ir (o6 aF (hv (cn L i).1))]) w at iD;rw[a4,<-br] at iD;exact iD
theorem aau (h:hw w p ab v n L) (ak:0<=x/\x<n) (aC:∀j,j<L.length->(cn L j).1≠x):∃R,(l' 155 (.map (A ab)) (.int c x) ad).run aa w= .ok (b8 #[.int c R,.bool ao]) w:=by
 obtain⟨aF,h1,h2,_⟩:=h.map;obtain⟨v0,c7,iD,cf⟩:=h1.look_ok n' yp (BP w) (BQ (a:=0) bj) (Dq qP (SD h ak));obtain⟨aV,rfl,pI,_⟩:=XD qP cf;change _=QG (Iq #[kK c aV,Ir (o6 aF (hv x))]) w at iD;have a4:o6 aF (hv x)=ao:=by
  rcases ZQ h2 x with⟨_,i,ag,e,_⟩|⟨e,_⟩
  ·exact absurd e (aC i ag)
  ·exact e
 rw[a4] at iD;exact⟨aV,iD⟩
theorem GM (h:hw w p ab v n L):aE aa 250 #[J p 0] w λe D=>e=au (.int c (L.length:Nat))/\D=w:=by
 obtain⟨a,R,rfl⟩:=h.slice;have bR:=aR h.aH 0;clear h;go_in;go_wp2_with fail;go_ret;exact⟨rfl,rfl⟩
theorem amC (h:hw w p ab v n []):aE aa 219 #[J p 0] w λe D=>e=au (b8 #[.int c 0,.bool ao])/\D=w:=by
 have fG:=I (GM h);clear h;go_in;go_wp2_with fail;refine eO fG.o ?_;go_wp2_with fail
 go_ret2
 exact⟨rfl,rfl⟩
theorem least_some (h:hw w p ab v n L) (aw:0<L.length):aE aa 219 #[J p 0] w λe D=>e=au (b8 #[.int c (cn L 0).2,.bool ad])/\D=w:=by
 have fG:=I (GM h);obtain⟨g,R,rfl,m9,_⟩:=h.form aw;have bR:=aR h.aH 0;have aV:=(m9 0 aw).2;rw[Qo,jC] at aV;obtain⟨x,ak⟩:=al ((cn L 0).2);obtain⟨N,b1⟩:=al L.length;rw[<-ak] at aV⊢;rw[<-b1] at bR fG aw;have r':((N:Int)==0)=ao:=by rw[beq_eq_false_iff_ne];omega
 have aDe:(0:Int)<N:=G;clear h m9 ak b1 aw;go_in;go_wp2_with fail;refine eO fG.o ?_;go_wp2_with fail
 go_ret2
 exact⟨rfl,rfl⟩
theorem amD (h:hw w p ab v n L) (ag:i<L.length):aE aa 254 #[J p 0,.int c (cn L i).1] w λe D=>e=au (b8 #[.int c (cn L i).2,.bool ad])/\D=w:=by
 have fG:=I (GM h);have iD:=aat h ag;obtain⟨g,R,rfl,m9,_⟩:=h.form G;have bR:=aR h.aH 0;have bX:=aR h.aH 1;have aV:=(m9 i ag).2;obtain⟨x,ak⟩:=al ((cn L i).2);obtain⟨y,az⟩:=al ((cn L i).1);obtain⟨N,b1⟩:=al L.length;rw[<-ak] at aV⊢;rw[<-az] at iD⊢;rw[<-b1] at bR fG ag;have r':((N:Int)==0)=ao:=by rw[beq_eq_false_iff_ne];omega
 have yP:(i:Int)<N:=G;have ve:=ew i;clear h m9 ak az b1 ag;go_in;go_wp2_with fail;refine eO fG.o ?_;go_wp2_with fail
 go_ret2
 exact⟨rfl,rfl⟩
theorem amE (h:hw w p ab v n L) {y:Int} (az:0<=y/\y<n) (aC:∀j,j<L.length->(cn L j).1≠y):aE aa 254 #[J p 0,.int c y] w λe D=>e=au (b8 #[.int c 0,.bool ao])/\D=w:=by
 have fG:=I (GM h);obtain⟨Nz,iD⟩:=aau h az aC;have bX:=aR h.aH 1;obtain⟨N,b1⟩:=al L.length;rw[<-b1] at fG;clear h az aC b1;by_cases h0:N=0
 ·subst h0;clear iD;go_in;go_wp2_with fail;refine eO fG.o ?_;go_wp2_with fail
  go_ret2
  exact⟨rfl,rfl⟩
 ·have r':((N:Int)==0)=ao:=by rw[beq_eq_false_iff_ne];omega
  clear h0;go_in;go_wp2_with fail;refine eO fG.o ?_;go_wp2_with fail
  go_ret2
  exact⟨rfl,rfl⟩
theorem aav (n:Nat) (aC:n<=16777216) (w:O):aE aa 162 #[.int c n] w λe D=>∃p ab,e=au (J p 0)/\hw D p ab (E T 0 0) n []/\(w.heap.size<=p/\w.heap.size<=ab)/\ae w D:=by
 have lo:=@Bc aa;have Nm:=XC w aa 3 (sN (H:=Unit) aa 3);have eU:=I Nm;have aDf:(if(n:Int)<0 then(0:Int) else(n:Int))=(n:Int):=if_neg G;have aDg:(if(0:Int)<(n:Int) then(n:Int) else(0:Int))=(n:Int):=by split<;>omega
 have c9:=I aC;clear Nm aC;go_in;go_wp2_with fail;go_ret;refine⟨_,w.heap.size,rfl,⟨?_,oG _ _ _ _,⟨.map [],eU.o.alloc _,nS.nil (λk=>by simp[o6]),rfl⟩,λi j ag _ _=>by simp at ag,λj av=>by simp at av,bI c9.o⟩,⟨a3,bY _⟩,(fb).alloc a3 _⟩;have h:=V.new (w.alloc (.map #[] 0)) #[E T 0 0,.map (A w.heap.size),.int c n] 356 (0,0)
 rwa[d8] at h
def aaw (w:O) (p ab:Nat) (v:ac) (n:Int) (L:List bw) (id key:Int) (D:O):Prop:=
 ∃ca c',hw D p ab ca n c'/\j_ c'.length (cn c')/\(∀x,x∈c'↔x=(id,key)\/x∈L)/\Kept (mJ p ab v) w D/\(ca.ownBlock=v.ownBlock\/∃k,w.heap.size<=k/\ca.ownBlock=A k)
theorem amF:(prog.info? 361).map (λi=>(i.zero,i.size,i.bytes))=A (A (aZ #[.int c 0,.int c 0]),2,16):=bq
theorem amG (base:Nat) (v:ac) (L:List bw) (x:bw) (u:O) (ai:Nat) (fZ:u.ownsRow base 361 2 v L.length (L.flatMap bJ)) (cd:V u ai #[.int c x.1,.int c x.2] 361 fr) (aw:L.length<=16777216) (qh:base<=u.heap.size):
 ∃a n R D,(Builtin.append_ #[352,352] 352 #[v,E (A (B ai 0)) 1 1]).run aa u= .ok (E a n R) D/\D.ownsRow base 361 2 (E a n R) (L++[x]).length ((L++[x]).flatMap bJ)/\u.grownBy D v.ownBlock/\((iB a n R).ownBlock=v.ownBlock\/(iB a n R).ownBlock=A u.heap.size):=by
 obtain⟨eP,ag,fL,gi,gt⟩:=m6 amF;have aB:r_ 2 u (E (A (B ai 0)) 1 1) 1 (bJ x):=⟨rfl,λu Z=>by simp only[bJ,gg,iS,or_false] at Z;rcases Z with rfl|rfl<;>rfl,_,1,rfl,bY _,by unfold ff;omega,λj q aO=>⟨ai,0,rfl,by rw[jC,cd.cell,la];exact aO⟩⟩;obtain⟨ca,D,ar,aQ,hg,gP,_⟩:=tU (P:=aa) base 352 352 361 eP _ 2 16 aBx ag fL gi gt rfl G v L.length _ fZ _ 1 _ aB (by unfold ff;omega) G qh;obtain⟨a,n,R,rfl⟩:∃a n R,ca=E a n R:=by
  obtain⟨_,h2⟩:=aQ;rcases h2 with⟨e,_⟩|⟨g,R,cur,e,_⟩
  ·exact⟨_,_,_,e⟩
  ·exact⟨_,_,_,e⟩
 exact⟨a,n,R,D,ar,by rw[gW,w8];simpa using aQ,hg,gP⟩
def aax (w:O) (p ab:Nat) (v:ac) (n:Int) (L:List bw) (id key:Int) (aI:O):Prop:=
 V aI p #[v,.map (A ab),.int c n] 356 (0,0)/\aI.ownsRow 0 361 2 v L.length (L.flatMap bJ)/\(∃aF:kc Unit,aI.ownsMap aa 3 (sN aa 3) ab (L++[(id,key)]).length aF/\nS aF (L++[(id,key)])/\Do aF=(L++[(id,key)]).length)/\Kept (mJ p ab v) w aI
theorem amH (h:hw w p ab v n L) {key:Int} (hid:∀j,j<L.length->(cn L j).1≠id) (ar:0<=id/\id<n) {bH:O} (bU:Kept (mJ p ab v) bH w):
 ∃aI,(uN 155 (.map (A ab)) (.int c id) (.int c (L.length:Nat))).run aa w= .ok () aI/\aax bH p ab v n L id key aI:=by
 obtain⟨aF,h1,h2,ap⟩:=h.map;have iH:=h.dR;obtain⟨aI,hE,aQ,ht⟩:=h1.store n' yp (by unfold ff;omega) (Dq qP (SD h ar)) (BQ (a:=(L.length:Nat)) (t5 G));obtain⟨Ab,Ac⟩:=h.apart;have K:=z5 ht;refine⟨aI,hE,K.aH h.aH Ab,fB h.row (λj av=>K.block j (di h.row av).2.choose_spec.lt (Ac j av).2),⟨_,?_,h2.push h1.isMap hid,?_⟩,bU.trans (K.mono λj av=> .inr (.inl av))⟩
 ·rw[gW];exact aQ
 ·have:=ait (k:=hv id) (h1.tidy n') (.lit (.int c (L.length:Nat)));rcases ZQ h2 id with⟨_,i,ag,e,_⟩|⟨e,_⟩
  ·exact absurd e (hid i ag)
  ·rw[e] at this;rw[this,ap,gW];rfl
theorem amI (h:hw w p ab v n L) (bK:j_ L.length (cn L)) (key:Int) (hid:∀j,j<L.length->(cn L j).1≠id) (ar:0<=id/\id<n):
 aE aa 165 #[J p 0,.int c id,.int c key] w λe D=>e=au (.int c 0)/\aaw w p ab v n L id key D:=by
 have iH:=h.dR;obtain⟨Nz,iD⟩:=aau h ar hid;obtain⟨a,R,rfl⟩:=h.slice;have bR:=aR h.aH 0;have bX:=aR h.aH 1;have aay:=aR h.aH 2;have bC:aM (∀u,ae w u->u.cell? (B p 0)=A (E a L.length R)/\u.cell? (B p 1)=A (.map (A ab))):=λu Z=>⟨(h.below Z).aH.cell 0,(h.below Z).aH.cell 1⟩;have lp:aM (∀u,ae w u->∃aI,(uN 155 (.map (A ab)) (.int c id) (.int c (L.length:Nat))).run aa u= .ok () aI/\aax w p ab (E a L.length R) n L id key aI):=λu Z=>amH (h.below Z) hid ar (Kept.bg Z);have dd:=ig h bK hid;obtain⟨N,b1⟩:=al L.length;have c9:=I b1;rw[<-b1] at bC lp iH bR;obtain⟨nr,ml⟩:=ar;have aDh:=ew N;have DN:(N:Int)<=16777216:=G;obtain⟨M,dU⟩:=al (N+1);have B5:IntKind.i64.wrap ((M:Int)-1)=(N:Int):=by rw[dU];simp only[QK,Int.cast_ofNat_Int,Int.add_sub_cancel];exact o7 _ G
 have eU:=I dU;have SE:=I B5;clear b1 dU;rw[<-c9.o];go_in
 go_upto_region 6 with fail
 refine jQ (λD=>D.cell? (B p 0)=A (E a N R)/\D.cell? (B p 1)=A (.map (A ab))) 12 rfl ?_;change ej _ _ _ _ _ _ _ 13 _ _ w.drew;obtain⟨et,dm⟩:=al w.drew;have aL:=I (show ae w et by rw[dm];exact(bx _ _).drew);rw[<-dm];clear dm;have ax:=bC.o _ aL.o;repeat first|refine fS ?_|refine ea ?_
 refine dJ 12 ?_;obtain⟨aI,hE,hV⟩:=lp.o et aL.o;have kx:=I hV;refine lG aI ?_;refine⟨gj,?_⟩;refine fc ?_;have hh:=kx.o;obtain⟨q1,q2,bm,cZ⟩:=hh;obtain⟨ez,NA⟩:=al (aI.alloc (an #[.int c id,.int c key] 361));have aX:=dx NA;have gS:=eK NA rfl;have aaz:ez.ownsRow 0 361 2 (E a N R) L.length (L.flatMap bJ):=o' q2 aX;obtain⟨a2,cm,bb,kh,hE,es,kH,gP⟩:=amG 0 _ L (id,key) ez aI.heap.size aaz gS dd.o.1.dR (cQ _);obtain⟨Ab,Ac⟩:=dd.o.1.apart;have q5:V kh p #[E a N R,.map (A ab),.int c n] 356:=Sd aaz kH (q1.aq aX) bj;have e0:=aR q5 0;have j5:=q5.free 0 (.inr (cQ _));have d0:=aR q1 0;rw[NA] at hE;have kA:cm=M:=by
  have:=es.2;rw[eU.o,c9.o];rcases this with⟨e,h0⟩|⟨g,q6,cur,e,_⟩
  ·simp at h0
  ·simp at e;omega
 subst kA;obtain⟨dn,rB⟩:=al (kh.setCell (B p 0) (E a2 cm bb));have Js:hw dn p ab (E a2 cm bb) n (L++[(id,key)])/\Kept (mJ p ab (E a N R)) w dn/\((iB a2 cm bb).ownBlock=(iB a N R).ownBlock\/∃k,w.heap.size<=k/\(iB a2 cm bb).ownBlock=A k):=by
  have B6:∀g,(iB a2 cm bb).ownBlock=A g->g≠p:=λg hg e=>by
   obtain⟨_,_,aO⟩:=di es hg;have:=er (e▸q5) aO;revert this;decide
  have amJ:∀g,(iB a N R).ownBlock=A g->g≠ab:=λg hg=>(Ac g (show(iB a L.length R).ownBlock=A g by rw[<-c9.o];exact hg)).2;obtain⟨aF,e4,g7,lI⟩:=bm;have mT:=Dp e4;have amK:kh.heap[ab]? =aI.heap[ab]? :=(kH.block ab (jP mT aX.size) (λe=>amJ ab e.symm rfl)).trans (aX.block ab mT);have xv:w.heap.size<=aI.heap.size:=cZ.size;refine⟨⟨?_,?_,⟨aF,?_,g7,lI⟩,?_,?_,dd.o.1.z8⟩,?_,?_⟩
  ·rw[rB];exact q5.set 0 _
  ·rw[rB];exact fB es λg hg=>d7 _ _ _ _ (B6 g hg)
  ·rw[rB];exact u_ e4 ((d7 _ _ _ _ (h8 Ab)).trans amK)
  ·exact dd.o.1.ids.push dd.o.2.2
  ·intro j av;rw[gW,w_] at av;by_cases kD:j<L.length
   ·rw[Jf kD];exact dd.o.1.hS j kD
   ·obtain rfl:j=L.length:=G;rw[Sg];exact⟨nr,ml⟩
  ·rw[rB];have ek:Kept (mJ p ab (E a N R)) w ez:=cZ.belows aX;have jg:Kept (mJ p ab (E a N R)) w kh:=⟨kH.os.trans ek.os,kH.tape.trans ek.tape,kH.output.trans ek.output,cM ek.size kH.size,λk K aB=>(kH.block k (jP K ek.size) (λe=>aB (.inr (.inr e.symm)))).trans (ek.block k K aB)⟩;exact jg.setCell (.inl rfl) _
  ·rcases gP with h|h
   ·exact .inl h
   ·exact .inr ⟨_,cM xv aX.size,h⟩
 have mX:=I Js;have amL:aM (∀u,ae dn u->u.cell? (B p 0)=A (E a2 cm bb)):=λu Z=>(mX.o.1.below Z).aH.cell 0;have NB:aM (∀u,ae dn u->aE aa 249 #[J p 0,.int c N] u λe D=>e=au (b8 #[])/\aaw w p ab (E a N R) n L id key D):=λu Z=>by
  have BT:=alC dd.o.2.1 (id,key);have B7:N<(L++[(id,key)]).length:=by rw[c9.o,gW];simp
  refine(aao p ab _ n _ N B7 u (mX.o.1.below Z) (by rw[c9.o];exact BT)).mono ?_;rintro e D ⟨rfl,c',p1,p2,e8,i6⟩;refine⟨rfl,_,c',p1,p2,λx=>?_,?_,mX.o.2.2⟩
  ·rw[e8.2 x,fJ,f2,or_comm]
  ·have k1:=mX.o.2.1.belows Z;refine⟨i6.os.trans k1.os,i6.tape.trans k1.tape,i6.output.trans k1.output,cM k1.size i6.size,λk K aB=>?_⟩;refine(i6.block k (jP K k1.size) (λhf=>?_)).trans (k1.block k K aB);rcases hf with hf|hf|hf
   ·exact aB (.inl hf)
   ·exact aB (.inr (.inl hf))
   ·rcases mX.o.2.2 with h|⟨hY,h1,h2⟩
    ·exact aB (.inr (.inr (h▸hf)))
    ·rw[h2] at hf;have:=eT hf;omega
 have rC:=I hE;have Ag:=I rB;clear NA rB;go_wp2_with(at_builtin;refine uX rfl _ _ _ _ rfl rC.o ?_)
 rw[<-Ag.o];have B5:=SE.o;refine jQ (λD=>D.cell? (B p 0)=A (E a2 cm bb)) 10 rfl ?_;change ej _ _ _ _ _ _ _ 11 _ _ dn.drew;obtain⟨et,dm⟩:=al dn.drew;have aL:=I (show ae dn et by rw[dm];exact(bx _ _).drew);rw[<-dm];clear dm;have ax:=amL.o _ aL.o;repeat first|refine fS ?_|refine ea ?_
 refine dJ 10 ?_;refine e3 249 #[J p 0,.int c N] (NB.o et aL.o) ?_;rintro e cz ⟨rfl,tT⟩;have i7:=I tT;refine⟨_,rfl,gj,?_⟩;refine fc ?_;go_wp2_with fail;go_ret;exact⟨rfl,i7.o⟩
def aaA (w:O) (p ab:Nat) (v:ac) (n:Int) (L:List bw) (id key:Int) (D:O):Prop:=
 ∃c',hw D p ab v n c'/\j_ c'.length (cn c')/\(∀x,x∈c'↔x=(id,key)\/(x∈L/\x.1≠id))/\Kept (mJ p ab v) w D
theorem amM (h:hw w p ab v n L) (bK:j_ L.length (cn L)) (ag:i<L.length) (key:Int) (K:key<=(cn L i).2):
 aE aa 218 #[J p 0,r c (cn L i).1,r c key] w λe D=>e=au (r c 0)/\aaA w p ab v n L (cn L i).1 key D:=by
 have iH:=h.dR;have iD:=aat h ag;have ar:=h.hS i ag;obtain⟨g,R,aK,m9,se,cur,Sq⟩:=h.form G;obtain⟨aI,hV⟩:=al (w.setCell (B g (i*2+1)) (r c key));have NB:=I (show aE aa 249 #[J p 0,r c i] aI λe D=>e=au (b8 #[])/\aaA w p ab v n L (cn L i).1 key D from by
  obtain⟨Ab,Ac⟩:=h.apart;have pL:v.ownBlock=A g:=by rw[aK];rfl
  obtain⟨Jm,GF⟩:=Ac g pL;have es:aI.ownsRow 0 361 2 v (L.set i ((cn L i).1,key)).length ((L.set i ((cn L i).1,key)).flatMap bJ):=by
   have r0:=h.row;rw[aK] at r0⊢;have q:=Bt r0 (i*2+1) (r c key);have e:=DA 2 bJ BO L i 1 ((cn L i).1,key) (r c key) ag G (λx ak=>by
    rw[eA ag] at ak;obtain rfl:=eT ak;rw[I7 ag];rfl)
   rw[e] at q;rw[hV,gN];exact q
  have dQ:Kept (mJ p ab v) w aI:=by rw[hV];exact(Kept.refl _ _).setCell (.inr (.inr pL)) _
  have b9:∀j,j≠g->aI.heap[j]? =w.heap[j]? :=λj av=>by rw[hV];exact d7 _ _ _ _ av
  obtain⟨aF,e4,g7,lI⟩:=h.map;have cf:hw aI p ab v n (L.set i ((cn L i).1,key)):=⟨(b9 p (h8 Jm)).trans h.aH,es,⟨aF,by rw[gN];exact u_ e4 (b9 ab (h8 GF)),g7.lower ag key,by rw[gN];exact lI⟩,h.ids.lower ag key,λj av=>by
   rw[gN] at av;rw[z4 ag];by_cases e:j=i
   ·rw[if_pos e];exact h.hS i ag
   ·rw[if_neg e];exact h.hS j av,h.z8⟩
  refine(aao p ab v n _ i (by rw[gN];exact ag) aI cf (alD bK ag K)).mono ?_;rintro e D ⟨rfl,c',p1,p2,e8,i6⟩;exact⟨rfl,c',p1,p2,λx=>(e8.2 x).trans (alE h.ids ag key x),dQ.trans i6⟩)
 have bR:=aR h.aH 0;have bX:=aR h.aH 1;have aay:=aR h.aH 2;have aV:=(m9 i ag).2;have f6:=se (i*2+1);rw[aK] at bR;obtain⟨k0,jl⟩:=al ((cn L i).2);obtain⟨y,az⟩:=al ((cn L i).1);obtain⟨N,b1⟩:=al L.length;rw[<-jl] at aV K;rw[<-az] at iD NB ar⊢;rw[<-b1] at bR ag iH;obtain⟨nr,ml⟩:=ar;have yP:(i:Int)<N:=G;have ve:=ew i;have kx:=I hV;clear h bK m9 se Sq aK jl az b1 ag hV iH;go_in;go_wp2_with fail;rw[<-kx.o];refine dl NB.o λD hL=>?_;have fG:=I hL;clear hL;go_wp2_with fail;go_ret;exact⟨rfl,fG.o⟩
def aaB (w:O) (p ab:Nat) (v:ac) (n:Int) (L:List bw) (id:Int) (D:O):Prop:=
 ∃ca c',hw D p ab ca n c'/\j_ c'.length (cn c')/\(∀x,x∈c'↔x∈L/\x.1≠id)/\Kept (mJ p ab v) w D/\ca.ownBlock=v.ownBlock
theorem amN (h:hw w p ab v n []):aE aa 166 #[J p 0] w λe D=>e=au (b8 #[r c 0,r c 0,aA ao])/\D=w:=by
 have fG:=I (GM h);clear h;go_in;go_wp2_with fail;refine eO fG.o ?_;go_wp2_with fail
 go_ret3
 exact⟨rfl,rfl⟩
theorem amO (L:List bw) (k:Nat):(L.flatMap bJ).take (k*2)=(L.take k).flatMap bJ:=by
 induction L generalizing k with
 |nil=>simp
 |cons x L d4=>
  cases k with
  |zero=>simp
  |succ k=>rw[uJ,LZ,uJ,<-d4,show(k+1)*2=(bJ x).length+k*2 by rw[BO];omega,List.take_length_add_append]
theorem amP {g N M:Nat} (dU:M=N+1) (h:hw w p ab (E (A (B g 0)) M R) n (nQ L 0 N)) (hL:L.length=M) (bS:n_ L) (ar:∀j,j<L.length->0<=(cn L j).1/\(cn L j).1<n) {ba:O} (cg:ba=w.setCell (B p 0) (E (A (B g 0)) N R)) {u:O} (Z:ae ba u):
 ∃aI,(aBy #[155,3] 0 #[.map (A ab),r c (cn L 0).1]).run aa u= .ok (b8 #[]) aI/\hw aI p ab (E (A (B g 0)) N R) n (q3 L)/\Kept (λk=>k=ab) u aI/\ab<ba.heap.size:=by
 have B7:L.length-1=N:=G;have h0:0<L.length:=G;obtain⟨Ab,Ac⟩:=h.apart;obtain⟨Jm,GF⟩:=Ac g rfl;obtain⟨aF,e4,g7,lI⟩:=h.map;have hP:ba.heap.size=w.heap.size:=by rw[cg];simp
 have b9:∀j,j≠p->ba.heap[j]? =w.heap[j]? :=λj av=>by rw[cg];exact d7 _ _ _ _ av
 have k3:V ba p #[E (A (B g 0)) N R,.map (A ab),r c n] 356:=by rw[cg];exact h.aH.set 0 _
 have mT:=Dp e4;have aaC:=u_ e4 ((Z.block ab (by rw[hP];exact mT)).trans (b9 ab (h8 Ab)));obtain⟨aI,hE,aQ,ht⟩:=aaC.drop n' yp (Dq qP (t5 (a:=(cn L 0).1) (g3 (ar 0 h0) h.z8))) 0;have K:=z5 ht;have aaD:ba.ownsRow 0 361 2 (E (A (B g 0)) N R) N ((q3 L).flatMap bJ):=by
  have r1:=h.row;rw[qY,hL] at r1;obtain⟨r2,eC⟩:=r1;refine⟨by rw[alG,BN,B7],?_⟩;rcases eC with⟨e,_⟩|⟨qi,rm,cur,e,q1,q2,bm,cZ,ek,jg⟩
  ·cases e
  ·obtain⟨rfl,rfl⟩:g=qi/\R=rm:=by simpa using e
   refine .inr ⟨g,R,cur,rfl,q1,(b9 g Jm).trans q2,G,cZ,ek,?_⟩;have:((q3 L).flatMap bJ)=((nQ L 0 N).flatMap bJ).take (N*2):=by
    unfold q3;rw[B7,amO]
   rw[this,<-jg,QL,XJ G]
 have q7:Do (aF.del (hv (cn L 0).1))=N:=by
  have q:=Maps.size_del (k:=hv (cn L 0).1) (aaC.tidy n');have hh:o6 aF (hv (cn L 0).1)=ad:=(g7.1 _).2 ⟨N,by rw[qY];omega,by rw[(aaf h0 (show N<L.length by omega)).2]⟩;rw[hh,lI,qY] at q;simp at q;omega
 have dj:=nS.Ji (by rw[B7];exact g7) bS h0;refine⟨aI,hE,⟨K.aH (k3.aq Z) Ab,?_,⟨_,?_,dj,?_⟩,bS.pop h0,λj av=>?_,h.z8⟩,K,by rw[hP];exact mT⟩
 ·rw[BN,B7];exact fB (o' aaD Z) λj av=>by
   obtain rfl:g=j:=by simpa [A9] using av
   exact K.block g (di (o' aaD Z) rfl).2.choose_spec.lt GF
 ·have q:aI.ownsMap aa 3 (sN aa 3) ab (Do (aF.del (hv (cn L 0).1))) (aF.del (hv (cn L 0).1)):=Se aQ;rw[q7] at q;rw[BN,B7];exact q
 ·rw[q7,BN,B7]
 ·rw[BN] at av;have hm:=(ZP bS h0 (cn (q3 L) j)).1 (nb.2 ⟨j,by rw[BN];exact av,rfl⟩);obtain⟨D1,yw,fm⟩:=nb.1 hm.1;rw[<-fm];exact ar D1 yw
theorem amQ (h:hw w p ab v n L) (bK:j_ L.length (cn L)) (aw:0<L.length):
 aE aa 166 #[J p 0] w λe D=>e=au (b8 #[r c (cn L 0).1,r c (cn L 0).2,aA ad])/\aaB w p ab v n L (cn L 0).1 D:=by
 have iH:=h.dR;have fG:=I (GM h);obtain⟨g,R,rfl,m9,_⟩:=h.form aw;obtain⟨id,hid⟩:=al ((cn L 0).1);obtain⟨key,pP⟩:=al ((cn L 0).2);obtain⟨M,dU⟩:=al L.length;obtain⟨N,b1⟩:∃N,M=N+1:=⟨L.length-1,G⟩;have iD:L.length-1=N:=G;have bC:aM (∀u,ae w u->u.cell? (B p 0)=A (E (A (B g 0)) M R)/\u.cell? (B g 0)=A (r c id)/\u.cell? (B g 1)=A (r c key)):=λu Z=>by
  have q:=Jl (h.below Z).row rfl 0 aw;rw[dU,hid,pP];rw[Qo,jC] at q;exact⟨(h.below Z).aH.cell 0,q.1,q.2.1⟩
 have Jt:aM (∀(u:O) (ai:Nat) (ay:O),ae w u->V u ai #[r c 0,r c 0] 361 (0,0)->w.heap.size<=ai->ay=(u.setCell (B ai 0) (r c id)).setCell (B ai 1) (r c key)->
  hw ay p ab (E (A (B g 0)) L.length R) n L/\V ay ai #[r c id,r c key] 361 (0,0)/\ae w ay/\w.heap.size<=ai):=λu ai ay Z cd hle e=>by
  have aX:ae w ay:=by rw[e];exact(Z.setCell (p:=B ai 0) hle _).setCell (p:=B ai 1) hle _
  exact⟨h.below aX,by rw[e];exact(cd.set 0 _).set 1 _,aX,hle⟩
 have dd:=qV h bK aw dU b1;rw[<-dU] at fG iH;rw[<-hid,<-pP];have wo:((M:Int)==0)=ao:=by rw[beq_eq_false_iff_ne];omega
 have yN:(0:Int)<M:=G;have amR:M≠0:=G;have ak1:(M:Int)<=16777217:=G;have B5:IntKind.i64.wrap ((M:Int)-1)=(N:Int):=by rw[show(M:Int)-1=(N:Int) by omega];exact o7 _ G
 have aaE:=db hid pP;have SE:=I B5;clear h bK aw m9 hid pP dU b1 iD iH B5;go_in;go_wp2_with fail;refine eO fG.o ?_;clear fG
 go_upto_region 3 with fail
 have B5:=SE.o;refine jQ (λD=>D.cell? (B p 0)=A (E (A (B g 0)) M R)/\D.cell? (B g 0)=A (r c id)/\D.cell? (B g 1)=A (r c key)) 16 rfl ?_;change ej _ _ _ _ _ _ _ 17 _ _ w.drew;obtain⟨et,dm⟩:=al w.drew;have aL:=I (show ae w et by rw[dm];exact(bx _ _).drew);rw[<-dm];clear dm;refine ct 0 (J p 0) (λ_=>bC.o _ aL.o) ?_;refine ct 1 (J p 0) (λ_=>bC.o _ aL.o) ?_;refine ct 2 (J p 0) (λ_=>bC.o _ aL.o) ?_;refine ct 3 (J p 0) (λ_=>bC.o _ aL.o) ?_;refine lH 4 (E (A (B g 0)) M R) (bC.o _ aL.o) ?_;refine ct 5 (J g 0) (λ_=>bC.o _ aL.o) ?_;refine lH 6 (aZ #[r c id,r c key]) (bC.o _ aL.o) ?_;refine ct 7 (J p 0) (λ_=>bC.o _ aL.o) ?_;refine ct 8 (J p 0) (λ_=>bC.o _ aL.o) ?_;refine ct 9 (J p 0) (λ_=>bC.o _ aL.o) ?_;refine ct 10 (J p 0) (λ_=>bC.o _ aL.o) ?_;refine lH 11 (E (A (B g 0)) M R) (bC.o _ aL.o) ?_;refine ct 12 (r c M) (λ_=>bC.o _ aL.o) ?_;refine ct 13 (r c N) (λ_=>bC.o _ aL.o) ?_;refine Bl ?_;intro H fH be b3;have dd:=I fH;have eW:=I b3;clear fH b3;suffices SF:∀(u:O) (ai:Nat),aM (ae w u)->aM (V u ai #[r c 0,r c 0] 361 (0,0)/\w.heap.size<=ai)->H 2 #[ad,ad,ad,ad,ad,ad,ad,ad,ad,ad,ad,ad,ad,ad,ad,ao,ao] {tmps:=(be.setIfInBounds 5 (J ai 0)),defers:=[]} u from by
  have ta:∀(u:O),aM (ae w u)->H 3 #[ad,ad,ad,ad,ad,ad,ad,ad,ad,ad,ad,ad,ad,ad,ao,ao,ao] {tmps:=be,defers:=[]} u:=by
   clear aL;intro u aL;rw[dd.o,eW.o];refine dJ 14 ?_;have hb:ae u (u.alloc (an #[r c 0,r c 0] 361)):=fb;have hf:V (u.alloc (an #[r c 0,r c 0] 361)) u.heap.size #[r c 0,r c 0] 361 (0,0)/\w.heap.size<=u.heap.size:=⟨V.new _ _ _ _,aL.o.size⟩;refine gD (J u.heap.size 0) (u.alloc (an #[r c 0,r c 0] 361)) ?_;have kI:=aL;have aL:aM (ae w (u.alloc (an #[r c 0,r c 0] 361))):=I (kI.o.trans (hb.mono kI.o.size));refine⟨λ_=>bC.o _ aL.o,?_⟩;simp only[bN,bM,bO];have q:=SF _ u.heap.size aL (I hf);rw[dd.o,eW.o] at q;simp only[bN,bM,bO] at q⊢;exact q
  exact ta et aL
 clear aL;intro u ai aL B8;rw[dd.o,eW.o];simp only[bN,bM,bO];clear dd eW;have amS:=aR B8.o.1 0;have amT:=aR B8.o.1 1;have SG:=λi=>B8.o.1.free i (hD (cQ _));have amU:=SG 0;have amV:=SG 1;obtain⟨ay,bA⟩:=al ((u.setCell (B ai 0) (r c id)).setCell (B ai 1) (r c key));refine dJ 15 ?_;refine lG ay ?_ (he:=by rw[bA];go_simp);have cX:=I (Jt.o u ai ay aL.o B8.o.1 B8.o.2 bA);refine⟨λ_=>bC.o _ cX.o.2.2.1,?_⟩;clear amS amT SG amU amV bA B8 aL Jt bC;refine kr 16 (r c N) ay ?_;refine fc ?_;clear B5 amR;have Ny:=I (Sp p ab _ n L 0 N dd.o.2.2.1 (bI dd.o.2.2.2) ay cX.o.1);go_wp2_with fail;refine Ny.o.mono ?_;rintro e aJ ⟨rfl,lE,mo⟩;have mR:=dd.o.1.apart;have aaF:∀k,mJ p ab (E (A (B g 0)) L.length R) k->k<w.heap.size:=λk K=>dd.o.1.lt K;have NC:¬mJ p ab (E (A (B g 0)) L.length R) ai:=λhf=>by have:=aaF ai hf;have:=cX.o.2.2.2;omega
 have ND:V aJ ai #[r c id,r c key] 361:=mo.aH cX.o.2.1 NC;have aaG:=(Kept.bg cX.o.2.2.1 (S:=mJ p ab (E (A (B g 0)) L.length R))).trans mo;have dk:=aR lE.aH 0;have du:=lE.aH.free 0 (.inr (cQ _));rw[<-dd.o.2.2.2.1] at dk lE;have amW:M<=R:=by
  rcases lE.row.2 with⟨e,_⟩|⟨_,_,_,e,_,_,cL,_⟩
  ·cases e
  ·simp at e;have:=qY L 0 N;have:=dd.o.2.2.2.1;omega
 have qS:∀u,(Instr.slice 352 (E (A (B g 0)) M R) T (A (r c N)) T).run aa u= .ok (E (A (B g 0)) N R) u:=λu=>Ro 352 361 _ M R N aBx rfl (bI dd.o.2.2.2.2) u;obtain⟨ba,cg⟩:=al (aJ.setCell (B p 0) (E (A (B g 0)) N R));have aaH:∀u,ae ba u->∃aI,(aBy #[155,3] 0 #[.map (A ab),r c id]).run aa u= .ok (b8 #[]) aI/\hw aI p ab (E (A (B g 0)) N R) n (q3 L)/\Kept (λk=>k=ab) u aI/\ab<ba.heap.size:=λu Z=>by
  rw[aaE.o.1];exact amP dd.o.2.2.2.2 lE dd.o.2.2.2.1.symm dd.o.1.ids dd.o.1.hS cg Z
 have SH:V ba ai #[r c id,r c key] 361:=by rw[cg];exact ND.gr _ _ (λe=>NC (.inl e))
 have aaI:V ba p #[E (A (B g 0)) N R,.map (A ab),r c n] 356:=by rw[cg];exact lE.aH.set 0 _
 have aaJ:Kept (mJ p ab (E (A (B g 0)) L.length R)) w ba:=by rw[cg];exact aaG.setCell (.inl rfl) _
 have B9:aM (∀u,ae ba u->u.cell? (B p 1)=A (.map (A ab))/\u.cell? (B ai 0)=A (r c id)):=λu Z=>⟨(aaI.aq Z).cell 1,(SH.aq Z).cell 0⟩;have Jt:=I aaH;have dh:=ig SH aaJ NC;have h4:=I cg;clear lE mo mR aaF NC ND aaG amW aaH SH aaI aaJ cg Ny
 go_upto_region 6 with fail
 rw[<-h4.o];clear dk du qS;refine jQ (λD=>D.cell? (B p 1)=A (.map (A ab))/\D.cell? (B ai 0)=A (r c id)) 7 rfl ?_;change ej _ _ _ _ _ _ _ 8 _ _ ba.drew;obtain⟨et,dm⟩:=al ba.drew;have aL:=I (show ae ba et by rw[dm];exact(bx _ _).drew);rw[<-dm];clear dm;refine ct 0 (J p 0) (λ_=>B9.o _ aL.o) ?_;refine ct 1 (J p 0) (λ_=>B9.o _ aL.o) ?_;refine ct 2 (J p 0) (λ_=>B9.o _ aL.o) ?_;refine ct 3 (J p 1) (λ_=>B9.o _ aL.o) ?_;refine lH 4 (.map (A ab)) (B9.o _ aL.o) ?_;refine ct 5 (J ai 0) (λ_=>B9.o _ aL.o) ?_;refine lH 6 (r c id) (B9.o _ aL.o) ?_;refine dJ 7 ?_;obtain⟨aI,hE,hV⟩:=Jt.o et aL.o;have kx:=I hV;clear hV;refine ajb (v:=b8 #[]) (D:=aI) rfl rfl rfl (by rfl) (by rfl) (by go_simp) ?_;refine⟨gj,?_⟩;refine fc ?_;clear hE Jt B9;have M1:=alF dd.o.2.1 dd.o.2.2.1;have Ju:=I (amB p ab _ n (q3 L) 0 (by rcases Qq (q3 L).length with h|h;exact .inr ⟨h,rfl⟩;exact .inl h) aI kx.o.1 M1);have uW:=I (show V aI ai #[r c id,r c key] 361 (0,0)/\Kept (mJ p ab (E (A (B g 0)) L.length R)) w aI from⟨kx.o.2.1.aH (dh.o.1.aq aL.o) (λe=>dh.o.2.2 (.inr (.inl e))),(dh.o.2.1.belows aL.o).trans (kx.o.2.1.mono λj av=> .inr (.inl av))⟩);clear M1;go_wp2_with fail;refine Ju.o.mono ?_;rintro e bD ⟨rfl,c',p1,p2,e8,i6⟩;have SI:V bD ai #[r c id,r c key] 361:=i6.aH uW.o.1 dh.o.2.2;have cj:aM (∀u,ae bD u->u.cell? (B ai 0)=A (r c id)/\u.cell? (B ai 1)=A (r c key)):=λu Z=>⟨(SI.aq Z).cell 0,(SI.aq Z).cell 1⟩;have d':=I (bx bD.heap.size bD);have cH:aM (∀u,ae bD u->aaB w p ab (E (A (B g 0)) L.length R) n L id u):=λu Z=>⟨_,c',p1.below Z,p2,λx=>by rw[e8.2 x,aaE.o.1];exact ZP dd.o.1.ids dd.o.2.2.1 x,(uW.o.2.trans i6).belows Z,rfl⟩;clear p1 p2 e8 i6 SI
 go_upto_region 8 with fail
 refine jj (S:=λD=>D.cell? (B ai 0)=A (r c id)/\D.cell? (B ai 1)=A (r c key)) rfl ?_;have ax:=cj.o bD.drew (d'.o.drew);change wpAnyH _ _ _ _ _ 7 _ _ bD.drew;have bf:=I (d'.o.drew);refine eZ 0 (J ai 0) ax ?_;refine eZ 1 (r c id) ax ?_;refine eZ 2 (J ai 1) ax ?_;refine eZ 3 (r c key) ax ?_;refine eZ 4 (r c id) ax ?_;refine eZ 5 (r c key) ax ?_;refine eZ 6 (aA ad) ax ?_;refine i4 ?_;go_wp2_with fail
 go_ret3
 exact⟨rfl,cH.o _ bf.o⟩
def i8 (F:Nat->Prop) (w:O) (p ab:Nat) (n:Int) (L:List bw):Prop:=∃v,hw w p ab v n L/\j_ L.length (cn L)/\(∀k,mJ p ab v k->F k)/\∀k,F k->k<w.heap.size
def t_ (F:Nat->Prop) (w D:O) (k:Nat):Prop:=F k\/(w.heap.size<=k/\k<D.heap.size)
theorem i8.dy (h:i8 F w p ab n L) (aB:w.heap.size<=D.heap.size) (hb:∀k,F k->D.heap[k]? =w.heap[k]?):i8 F D p ab n L:=by
 obtain⟨v,h1,h2,ap,bl⟩:=h;exact⟨v,h1.dy λk K=>hb k (ap k K),h2,ap,λk K=>jP (bl k K) aB⟩
theorem i8.below (h:i8 F w p ab n L) (hb:ae w D):i8 F D p ab n L:=h.dy hb.size λk K=>hb.block k (h.choose_spec.2.2.2 k K)
theorem i8.lt (h:i8 F w p ab n L) (K:F k):k<w.heap.size:=h.choose_spec.2.2.2 k K
theorem i8.mono {yr:Nat->Prop} (h:i8 F w p ab n L) (amX:∀k,F k->yr k) (l2:∀k,yr k->k<w.heap.size):i8 yr w p ab n L:=by
 obtain⟨v,h1,h2,ap,bl⟩:=h;exact⟨v,h1,h2,λk K=>amX k (ap k K),l2⟩
theorem i8.grown {Q C:O} (h:i8 F Q p ab n L) {row:Option Nat} (hg:Q.grownBy C row) (ar:∀U,row=A U->ai<=U/\∃o:Obj,Q.heap[U]? =A o/\o.isCells=ao) (hb:ab<ai):i8 F C p ab n L:=by
 obtain⟨v,h1,h2,ap,bl⟩:=h;refine⟨v,h1.dy λk K=>?_,h2,ap,λk K=>jP (bl k K) hg.size⟩;rcases K with e|e|e
 ·subst e;exact(B0 hg ar h1.aH).trans (show _=_ from h1.aH).symm
 ·subst e;exact hg.block _ (h1.lt (.inr (.inl rfl))) (λe=>by have:=(ar _ e.symm).1;omega)
 ·obtain⟨_,_,aO⟩:=di h1.row e;exact(B0 hg ar aO).trans (show _=_ from aO).symm
theorem i8.amY (h:i8 F w p ab n L):F ab/\F p:=by
 obtain⟨v,h1,h2,ap,bl⟩:=h;exact⟨ap ab (.inr (.inl rfl)),ap p (.inl rfl)⟩
theorem SJ {ca:ac} (ap:∀k,mJ p ab v k->F k) (cf:hw D p ab ca n L) (aK:ca.ownBlock=v.ownBlock\/∃k,w.heap.size<=k/\ca.ownBlock=A k):∀k,mJ p ab ca k->t_ F w D k:=λk K=>by
 rcases K with e|e|e
 ·exact .inl (ap k (.inl e))
 ·exact .inl (ap k (.inr (.inl e)))
 ·rcases aK with h|⟨hY,h1,h2⟩
  ·exact .inl (ap k (.inr (.inr (h▸e))))
  ·have:hY=k:=by rw[h2] at e;exact eT e
   subst this;exact .inr ⟨h1,cf.lt (.inr (.inr e))⟩
theorem SK (h:∀k,F k->k<w.heap.size) (aB:w.heap.size<=D.heap.size):∀k,t_ F w D k->k<D.heap.size:=λk K=>by
 rcases K with K|K
 ·exact jP (h k K) aB
 ·exact K.2
def GN (ab:Nat) (w D:O):Prop:=∀(k:Nat) (o:Obj),k≠ab->w.heap[k]? =A o->o.isCells=ao->D.heap[k]? =A o
theorem SL (h:hw w p ab v n L) (K:Kept (mJ p ab v) w D):GN ab w D:=λk o b9 aQ ah=>by
 refine(K.block k (gU.1 aQ).1 (λhf=>?_)).trans aQ;rcases hf with e|e|e
 ·subst e;rw[show w.heap[k]? =_ from h.aH] at aQ;obtain rfl:=eT aQ;cases ah
 ·exact b9 e
 ·obtain⟨_,_,aO⟩:=di h.row e;rw[show w.heap[k]? =_ from aO] at aQ;obtain rfl:=eT aQ;cases ah
def rD (F:Nat->Prop) (w:O) (p ab:Nat) (n:Int) (H:bw->Prop) (D:O):Prop:=∃c',i8 (t_ F w D) D p ab n c'/\(∀x,x∈c'↔H x)/\Kept F w D/\GN ab w D
theorem amZ (n:Nat) (aC:n<=16777216) (w:O):aE aa 162 #[r c n] w λe D=>∃p ab,e=au (J p 0)/\i8 (λk=>w.heap.size<=k/\k<D.heap.size) D p ab n []/\ae w D:=by
 refine(aav n aC w).mono ?_;rintro e D ⟨p,ab,rfl,cf,⟨h1,h2⟩,hb⟩;refine⟨p,ab,rfl,⟨_,cf,λj h0 av=>by simp at av,λk K=>?_,λk K=>K.2⟩,hb⟩;rcases K with e|e|e
 ·subst e;exact⟨h1,cf.aH.lt⟩
 ·subst e;exact⟨h2,cf.lt (.inr (.inl rfl))⟩
 ·cases e
theorem NE (h:i8 F w p ab n L) (key:Int) (hid:∀k,(id,k)∉L) (ar:0<=id/\id<n):
 aE aa 165 #[J p 0,r c id,r c key] w λe D=>e=au (r c 0)/\rD F w p ab n (λx=>x=(id,key)\/x∈L) D:=by
 obtain⟨v,h1,h2,ap,bl⟩:=h;refine(amI h1 h2 key (λj av e=>hid (cn L j).2 (by rw[<-e];exact nb.2 ⟨j,av,rfl⟩)) ar).mono ?_;rintro e D ⟨rfl,ca,c',p1,p2,e8,i6,rE⟩;exact⟨rfl,c',⟨ca,p1,p2,SJ ap p1 rE,SK bl i6.size⟩,e8,i6.mono ap,SL h1 i6⟩
theorem SM (h:i8 F w p ab n L) {k0 key:Int} (hid:(id,k0)∈L) (K:key<=k0):
 aE aa 218 #[J p 0,r c id,r c key] w λe D=>e=au (r c 0)/\rD F w p ab n (λx=>x=(id,key)\/(x∈L/\x.1≠id)) D:=by
 obtain⟨v,h1,h2,ap,bl⟩:=h;obtain⟨j,av,e⟩:=nb.1 hid;have q:=amM h1 h2 av key (by rw[e];exact K);rw[e] at q;refine q.mono ?_;rintro e D ⟨rfl,c',p1,p2,e8,i6⟩;exact⟨rfl,c',⟨v,p1,p2,SJ ap p1 (.inl rfl),SK bl i6.size⟩,e8,i6.mono ap,SL h1 i6⟩
theorem SN (h:i8 F w p ab n L) (az:y∈L):
 ∃id key,(id,key)∈L/\(∀x∈L,key<=x.2)/\aE aa 166 #[J p 0] w λe D=>e=au (b8 #[r c id,r c key,aA ad])/\rD F w p ab n (λx=>x∈L/\x.1≠id) D:=by
 obtain⟨v,h1,h2,ap,bl⟩:=h;obtain⟨j,av,_⟩:=nb.1 az;have aw:0<L.length:=G;refine⟨(cn L 0).1,(cn L 0).2,nb.2 ⟨0,aw,rfl⟩,λx ak=>?_,(amQ h1 h2 aw).mono ?_⟩
 ·obtain⟨i,ag,rfl⟩:=nb.1 ak;exact Zw (h2.least i ag)
 ·rintro e D ⟨rfl,ca,c',p1,p2,e8,i6,rE⟩;exact⟨rfl,c',⟨ca,p1,p2,SJ ap p1 (.inl rE),SK bl i6.size⟩,e8,i6.mono ap,SL h1 i6⟩
theorem aaK (h:i8 F w p ab n L) (az:∀y,y∉L):
 aE aa 166 #[J p 0] w λe D=>e=au (b8 #[r c 0,r c 0,aA ao])/\D=w:=by
 obtain rfl:L=[]:=XK.2 az;obtain⟨v,h1,h2,ap,bl⟩:=h;exact amN h1
theorem am0 (h:i8 F w p ab n L) (az:y∈L):
 ∃id key,(id,key)∈L/\(∀x∈L,key<=x.2)/\aE aa 219 #[J p 0] w λe D=>e=au (b8 #[r c key,aA ad])/\D=w:=by
 obtain⟨v,h1,h2,ap,bl⟩:=h;obtain⟨j,av,_⟩:=nb.1 az;have aw:0<L.length:=G;refine⟨(cn L 0).1,(cn L 0).2,nb.2 ⟨0,aw,rfl⟩,λx ak=>?_,least_some h1 aw⟩;obtain⟨i,ag,rfl⟩:=nb.1 ak;exact Zw (h2.least i ag)
theorem am1 (h:i8 F w p ab n L) (az:∀y,y∉L):
 aE aa 219 #[J p 0] w λe D=>e=au (b8 #[r c 0,aA ao])/\D=w:=by
 obtain rfl:L=[]:=XK.2 az;obtain⟨v,h1,h2,ap,bl⟩:=h;exact amC h1
theorem SO (h:i8 F w p ab n L) {k:Int} (hid:(id,k)∈L):
 aE aa 254 #[J p 0,r c id] w λe D=>e=au (b8 #[r c k,aA ad])/\D=w:=by
 obtain⟨v,h1,h2,ap,bl⟩:=h;obtain⟨j,av,e⟩:=nb.1 hid;have q:=amD h1 av;rw[e] at q;exact q
theorem SP (h:i8 F w p ab n L) (hid:∀k,(id,k)∉L) (ar:0<=id/\id<n):
 aE aa 254 #[J p 0,r c id] w λe D=>e=au (b8 #[r c 0,aA ao])/\D=w:=by
 obtain⟨v,h1,h2,ap,bl⟩:=h;exact amE h1 ar λj av e=>hid (cn L j).2 (by rw[<-e];exact nb.2 ⟨j,av,rfl⟩)
end Go.Proofs.YtnmliebconiefaaGreatDoor
