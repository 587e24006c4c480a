/- Texts of TopTriangle's and TopMoved's walks, made small by a printer; no conditions. -/
import Derived.Test.YtnmliebconiefaaGreatDoorQ04
import Derived.Deep.Quiet
import Derived.Laws.BitsAllLaws
import Derived.Deep.RegionHeld3
import Derived.Lib.BufferWrite
open And renaming intro→cv
open Bool renaming false→ao,true→ad
open Go renaming Addr→cp,Calls→aE,CallsIn→ge,Value→ac,World→O,YieldAt→o4,callFunc→gM,maxLen→ff,wpAnyH→gV
open Go.Ending renaming returned→au
open Go.Fence renaming wide→dY
open Go.IntKind renaming i64→c,u8→dA
open Go.Obj renaming cells→an
open Go.Proofs.Tryz renaming func258→aiF,func268→aBS,func275→aB3,func282→aiE,prog→aa
open Go.RowKit renaming Below→bQ,intOf→cu
open Go.Value renaming bool→aA,int→r,pointer→a6,slice→E,tuple→b8,oneCell'→v7
open List renaming length→pA,range→m8,replicate→d5
open Nat renaming and_le_left→aBV,div_eq_of_lt→aB1,mul_add_div→aB0,reduceAdd→gA,reduceSub→g1
open Option renaming none→T,some→A
open Or renaming inr→hD
open UInt8 renaming ofNat→aBT
namespace Go.Proofs.YtnmliebconiefaaGreatDoor
open Go.RowKit Go.Shelf Go.Proofs.Tryz
set_option linter.all false
set_option maxRecDepth 100000
set_option maxHeartbeats 32000000
def aBW:=@Array.append_empty
def XR:=@Bool.true_and
def Mf:=@Int.tdiv_eq_ediv_of_nonneg
def aiL:=@Go.IntWalk.wrap64_in
def QN:=@Go.KeepsOthers.setCell
def aiH:=@List.getElem?_set
def Mg:=@List.getElem_set_self
def Mh:=@List.getElem_take
def aiI:=@List.headD_cons
def aiJ:=@List.length_pos_iff
def XT:=@List.mem_of_mem_take
def QO:=@List.tail_cons
def aiG:=@List.take_append_getElem
def aiN:=@Nat.add_assoc
def aBY:=@Nat.le_div_iff_mul_le
def aBU:=@Nat.lt_of_le_of_lt
def aiM:=@Nat.mul_comm
def aiK:=@Nat.pow_lt_pow_right
def XS:=@UInt8.toNat_ofNat_of_lt'
variable {R b d dF many s t v x:Int} {aG:List Bool} {L Q b0 of pi:List Int} {l:List UInt8} {N X a' aW aY ab af aj am b' bE bF bh bn bs cc dk dp du fF gz hG i k n n1 p q:Nat} {C D ai bH:O} {dG:Option cp} {g:Raw} {cB cy jX:ac}
theorem dP.apZ {Q ai:List bd} {o:Int->Prop} (cd:∀a∈Q,o a.1->o a.2.1->a∈ai) (aQ:∀v d e,dP Q s v d->dP Q v t e->o v) {u:Int} (h:dP Q s u d):∀e,dP Q u t e->dP ai s u d:=by
 induction h with
 |nil=>exactλ_ _=> .nil
 |@snoc u d a Z ha he d4=>
  intro e bU;subst he;have h1:dP Q a.1 t (a.2.2+e):=(dP.one ha).trans bU;exact dP.snoc a (d4 _ h1) (cd a ha (aQ _ _ _ Z h1) (aQ _ _ _ (Z.snoc a ha rfl) bU)) rfl
theorem ap0 {Q ai:List bd} {o:Int->Prop} (cd:∀a∈Q,o a.1->o a.2.1->a∈ai) (Ek:∀a∈ai,a∈Q) (aQ:∀v d e,dP Q s v d->dP Q v t e->o v):c1 ai s t=c1 Q s t:=
 Tv λ_=>⟨dP.mono Ek,λh=>h.apZ cd aQ 0 .nil⟩
theorem dP.acW (bK:g.e2) (ht:0<=t/\t<g.nodes) (h:dP g.arcs v t d):0<=v/\v<g.nodes:=by
 induction h with
 |nil=>exact ht
 |snoc a _ ha he d4=>exact d4 (he▸(bK.aS a ha).1)
noncomputable def y7 (g:Raw) (N:Nat) (l:List Int) (t:Int):List Int:=(m8 N).map λ(v:Nat)=>jO g.arcs l v t
theorem acX (f:Nat->Int) (aK:0<=v/\v<N):ev ((m8 N).map f) v=f v.toNat:=by
 unfold ev;rw[w',Ik G];rfl
theorem ap1 {l:List Int} (aK:0<=v/\v<N):ev (y7 g N l t) v=jO g.arcs l v t:=by
 have e:((v.toNat:Nat):Int)=v:=G;unfold y7;rw[acX _ aK,e]
theorem ap2 (g:Raw) (N:Nat) (l:List Int) (t:Int):(y7 g N l t).length=N:=by unfold y7;rw[iT,tK]
theorem OB (v:Int):ev [] v=0:=by unfold ev;rfl
def qC (g:Raw) (N:Nat) (t:Int) (pi:List Int):Prop:=pi=[]\/∃l:List Int,(∀m∈l,0<=m/\m<g.nodes)/\pi=y7 g N l t
theorem qC.t7 (bK:g.e2) (b1:(N:Int)=g.nodes) (ht:0<=t/\t<g.nodes) (h:qC g N t pi):∃p,ny g g.arcs t p/\∀v,0<=v/\v<g.nodes->ev pi v=p v:=by
 rcases h with rfl|⟨l,aw,rfl⟩
 ·exact⟨_,ny.zero bK t,λv _=>OB v⟩
 ·exact⟨_,ny.Cg bK ht l aw,λv aK=>ap1 (by rw[b1];exact aK)⟩
theorem qC.pos (bK:g.e2) (ht:0<=t/\t<g.nodes) (h:qC g N t pi):∀x∈pi,0<=x:=λx ak=>by
 rcases h with rfl|⟨l,aw,rfl⟩
 ·cases ak
 ·obtain⟨v,_,rfl⟩:=jB.1 ak;exact((ny.Cg bK ht l aw).range _).1
theorem qC.len (h:qC g N t pi):pi.length=0\/pi.length=N:=by
 rcases h with rfl|⟨l,aw,rfl⟩
 ·exact .inl rfl
 ·exact .inr (ap2 _ _ _ _)
theorem T1:kj g aG pi n=ad↔ox aG n=ad/\ev pi (gw g n).2.1<72057594037927936:=by
 unfold kj;rw[tH,decide_eq_true_iff]
theorem qC.arcs (bK:g.e2) (b1:(N:Int)=g.nodes) (ht:0<=t/\t<g.nodes) (h:qC g N t pi) (aG:List Bool):∀a∈fa g.arcs (kj g aG pi),ev pi a.1<=1*a.2.2+ev pi a.2.1:=λa ha=>by
 obtain⟨p,aP,aK⟩:=h.t7 bK b1 ht;obtain⟨n,aC,K,rfl⟩:=sx.1 ha;have lN:=bK.aS _ (gB aC);have K:=(T1.1 K).2;rw[oY aC,aK _ lN.2.1] at K;rw[aK _ lN.1,aK _ lN.2.1,aiD];exact aP.aS _ (gB aC) K
theorem qC.cl (bK:g.e2) (b1:(N:Int)=g.nodes) (aB:0<=s/\s<g.nodes) (ht:0<=t/\t<g.nodes) (h:qC g N t pi) (aG:List Bool) (hf:72057594037927936<=ev pi s):∀d,¬dP (fa g.arcs (kj g aG pi)) s t d:=λd a9=>by
 obtain⟨p,aP,aK⟩:=h.t7 bK b1 ht;obtain⟨e,he⟩:=f_.BU bK.s8 (a9.mono y2);have:=aP.least s e aB he;rw[aK s aB] at hf;omega
theorem qC.same (bK:g.e2) (b1:(N:Int)=g.nodes) (ht:0<=t/\t<g.nodes) (h:qC g N t pi) (xW:c1 (fa g.arcs (ox aG)) s t=c1 g.arcs s t):c1 (fa g.arcs (kj g aG pi)) s t=c1 g.arcs s t:=by
 obtain⟨p,aP,aK⟩:=h.t7 bK b1 ht;rw[<-xW];refine aor (o:=λv=>ev pi v<72057594037927936) (λa ha aQ=>?_) (λa ha=>?_) (λv e bU=>?_) s
 ·obtain⟨n,aC,K,rfl⟩:=sx.1 ha;exact sx.2 ⟨n,aC,T1.2 ⟨K,by rw[oY aC];exact aQ⟩,rfl⟩
 ·obtain⟨n,aC,K,rfl⟩:=sx.1 ha;exact sx.2 ⟨n,aC,(T1.1 K).1,rfl⟩
 ·have cK:=bU.mono y2;obtain⟨d,a9⟩:=f_.BU bK.s8 cK;have ar:=cK.acW bK ht;show ev pi v<_;rw[aK v ar];have:=aP.least v d ar a9;omega
theorem ap3 (Q:List bd):fa Q (ox [])=Q:=by
 have e:(λn=>if ox [] n=ad then Q[n]? else T)=λn=>Q[n]? :=by funext n;exact if_pos rfl
 unfold fa;rw[e];apply QB;intro i;have key:∀(Q:List bd) (m:Nat),m<=Q.length->(m8 m).filterMap (λn=>Q[n]?)=Q.take m:=λQ m=>by
  induction m with
  |zero=>intro _;rfl
  |succ m d4=>
   intro hm;rw[Io,List.filterMap_append,d4 G,XO]
   congr 1
 rw[key Q Q.length (bY _),v3]
theorem qC.acY (bK:g.e2) (b1:(N:Int)=g.nodes) (ht:0<=t/\t<g.nodes) (h:qC g N t pi):c1 (fa g.arcs (kj g [] pi)) s t=c1 g.arcs s t:=h.same bK b1 ht (by rw[ap3])
def Cs (x y:Int):Int:=if x<72057594037927936/\y<72057594037927936 then x-y else 72057594037927936
noncomputable def AF (g:Raw) (N:Nat) (l:List Int) (s t:Int):List Int:=(m8 N).map λ(v:Nat)=>Cs (jO g.arcs l v t) (jO g.arcs l s v)
theorem ap4 (g:Raw) (N:Nat) (l:List Int) (s t:Int):(AF g N l s t).length=N:=by unfold AF;rw[iT,tK]
theorem T2 {l:List Int} (aK:0<=v/\v<N):ev (AF g N l s t) v=Cs (jO g.arcs l v t) (jO g.arcs l s v):=by
 have e:((v.toNat:Nat):Int)=v:=G;unfold AF;rw[acX _ aK,e]
theorem T3 {y:Int} (ak:0<=x) (az:0<=y):iX (Cs x y)=ad↔x<72057594037927936/\y<72057594037927936:=by
 rw[T0];unfold Cs;split<;>omega
def Ct (g:Raw) (N:Nat) (s t:Int) (pi:List Int):Prop:=pi=[]\/∃l:List Int,(∀m∈l,0<=m/\m<g.nodes)/\pi=AF g N l s t
theorem Ct.len (h:Ct g N s t pi):pi.length=0\/pi.length=N:=by
 rcases h with rfl|⟨l,aw,rfl⟩
 ·exact .inl rfl
 ·exact .inr (ap4 _ _ _ _ _)
theorem Cu (bK:g.e2) {l:List Int} (aw:∀m∈l,0<=m/\m<g.nodes) (ht:0<=t/\t<g.nodes):0<=jO g.arcs l v t/\jO g.arcs l v t<=72057594037927936:=(ny.Cg bK ht l aw).range v
theorem acZ (aC:n<g.arcs.length):jY g aG pi n=ad↔ox aG n=ad/\iX (ev pi g.arcs[n].1)=ad/\iX (ev pi g.arcs[n].2.1)=ad:=by
 rw[OA aC ao,tH,tH];rfl
theorem Ct.arcs (bK:g.e2) (b1:(N:Int)=g.nodes) (aB:0<=s/\s<g.nodes) (ht:0<=t/\t<g.nodes) (h:Ct g N s t pi):∀a∈fa g.arcs (jY g [] pi),ev pi a.1<=2*a.2.2+ev pi a.2.1:=λa ha=>by
 obtain⟨n,aC,K,rfl⟩:=sx.1 ha;have lN:=bK.aS _ (gB aC);obtain⟨_,h1,h2⟩:=(acZ aC).1 K;rcases h with rfl|⟨l,aw,rfl⟩
 ·rw[OB,OB];have:=lN.2.2;omega
 ·rw[T2 (by rw[b1];exact lN.1)] at h1⊢;rw[T2 (by rw[b1];exact lN.2.1)] at h2⊢;have h1:=(T3 (Cu bK aw ht).1 (Cu bK aw lN.1).1).1 h1;have h2:=(T3 (Cu bK aw ht).1 (Cu bK aw lN.2.1).1).1 h2;unfold Cs;rw[if_pos h1,if_pos h2];exact aot bK aB ht aw (gB aC) h2.1 h1.2
theorem Ct.same (bK:g.e2) (b1:(N:Int)=g.nodes) (aB:0<=s/\s<g.nodes) (ht:0<=t/\t<g.nodes) (h:Ct g N s t pi):c1 (fa g.arcs (jY g [] pi)) s t=c1 g.arcs s t:=by
 refine ap0 (o:=λv=>iX (ev pi v)=ad) (λa ha h1 h2=>?_) y2 (λv d e h1 h2=>?_)
 ·obtain⟨n,aC,rfl⟩:=Bd ha;exact sx.2 ⟨n,aC,(acZ aC).2 ⟨rfl,h1,h2⟩,rfl⟩
 ·show iX (ev pi v)=ad;rcases h with rfl|⟨l,aw,rfl⟩
  ·rw[OB];decide
  ·have ar:=h2.acW bK ht;rw[T2 (by rw[b1];exact ar)];exact(T3 (Cu bK aw ht).1 (Cu bK aw ar).1).2 (aou bK aB ht ar aw h1 h2)
def p3 (of:List Int) (v:Int):Int:=of[v.toNat]?.getD (-1)
def xY (g:Raw) (b:Int) (a:bd):Prop:=∃e,f_ g.arcs a.2.1 b e/\f_ g.arcs a.1 b (a.2.2+e)
def T9 (g:Raw) (of:List Int) (R b:Int):Prop:=∃x∈g.arcs,x.2.1=b/\p3 of b=R/\p3 of x.1≠R
structure rg (g:Raw) (of:List Int) (R:Int) (aG:List Bool):Prop where
 len:aG.length=g.arcs.length
 inside:∀n,∀h:n<g.arcs.length,p3 of g.arcs[n].1=R->p3 of g.arcs[n].2.1=R->aG[n]? =A ad
 tight:∀b,T9 g of R b->∀n,∀h:n<g.arcs.length,xY g b g.arcs[n]->aG[n]? =A ad
theorem rg.same (bK:g.e2) (h:rg g of R aG) (ht:p3 of t=R):c1 (fa g.arcs (ox aG)) s t=c1 g.arcs s t:=by
 have hf:∀n,∀aC:n<g.arcs.length,aG[n]? =A ad->g.arcs[n]∈fa g.arcs (ox aG):=λn aC ak=>by
  refine sx.2 ⟨n,aC,?_,rfl⟩;unfold ox;rw[if_neg (by rw[h.len];omega),ak];rfl
 refine aos (cell:=λv=>p3 of v=R) bK.s8 y2 (λa ha h1 h2=>?_) (λx ak h1 h2 a ha e k1 k2=>?_) s ht
 ·obtain⟨n,aC,rfl⟩:=Bd ha;exact hf n aC (h.inside n aC h1 h2)
 ·obtain⟨n,aC,rfl⟩:=Bd ha;exact hf n aC (h.tight x.2.1 ⟨x,ak,rfl,h1,h2⟩ n aC ⟨e,k1,k2⟩)
theorem xY.cl (bK:g.e2) {a:bd} (ha:a∈g.arcs) (h:xY g b a):c1 g.arcs a.2.1 b+a.2.2=c1 g.arcs a.1 b/\c1 g.arcs a.1 b<72057594037927936:=by
 obtain⟨e,h1,h2⟩:=h;have lN:=bK.aS a ha;rw[sl h1,sl h2];have:=h2.bound bK lN.1;omega
def Hn (b4:List Int) (a:bd):Bool:=decide (iw (ra iw [b4[a.2.1.toNat]?.getD 0,a.2.2])<72057594037927936)&&decide (ra iw [b4[a.2.1.toNat]?.getD 0,a.2.2]=b4[a.1.toNat]?.getD 0)
theorem aqg (x y:Int):ra iw [x,y]=iw (iw (0+iw x)+iw y):=rfl
theorem aqh (bK:g.e2) (b1:(N:Int)=g.nodes) {b4 aS C:List Int} (ht:vo (g.arcs.map kF) b N b4 aS C) {a:bd} (ha:a∈g.arcs) (h:xY g b a):Hn b4 a=ad:=by
 obtain⟨h1,h2⟩:=h.cl bK ha;obtain⟨a1,a2,dX,jc⟩:=bK.aS a ha;have br:b4[a.2.1.toNat]? =A (c1 g.arcs a.2.1 b):=by
  rw[ht.b4 a.2.1.toNat G,show((a.2.1.toNat:Nat):Int)=a.2.1 by omega,BV]
 have a4:b4[a.1.toNat]? =A (c1 g.arcs a.1 b):=by
  rw[ht.b4 a.1.toNat G,show((a.1.toNat:Nat):Int)=a.1 by omega,BV]
 have r1:=wG bK a2 b;have r2:=wG bK a1 b;have aV:iw (c1 g.arcs a.2.1 b)=c1 g.arcs a.2.1 b:=qy r1;have bb:iw a.2.2=a.2.2:=qy G;have ch:iw (c1 g.arcs a.1 b)=c1 g.arcs a.1 b:=qy r2;have e:ra iw [c1 g.arcs a.2.1 b,a.2.2]=c1 g.arcs a.1 b:=by
  rw[aqg,aV,bb,aix,aV,h1,ch]
 unfold Hn;rw[br,a4,sM,sM,e,ch,decide_eq_true h2,decide_eq_true rfl];rfl
def rR (l:List Bool) (b7:List Int):List Bool:=b7.foldl (λl x=>l.set x.toNat ad) l
theorem OD (l:List Bool) (b7:List Int):(rR l b7).length=l.length:=by
 induction b7 generalizing l with
 |nil=>rfl
 |cons x U d4=>exact(d4 _).trans (gN ..)
theorem ac8 (l:List Bool) (b7:List Int) (x:Int):rR l (b7++[x])=(rR l b7).set x.toNat ad:=by
 unfold rR;rw[L6];rfl
theorem aqi {l:List Bool} {b7:List Int} (h:l[i]? =A ad):(rR l b7)[i]? =A ad:=by
 induction b7 generalizing l with
 |nil=>exact h
 |cons x U d4=>
  refine d4 ?_;have ag:=(r4.1 h).1;rw[aiH];split
  ·rename_i e;rw[if_pos G]
  ·exact h
theorem ac9 {l:List Bool} {b7:List Int} (ag:i<l.length) (h:(i:Int)∈b7):(rR l b7)[i]? =A ad:=by
 induction b7 generalizing l with
 |nil=>cases h
 |cons x U d4=>
  rcases gg.1 h with e|e
  ·subst e;show(rR (l.set (Int.toNat i) ad) U)[i]? =A ad;refine aqi ?_;rw[aiH,if_pos (ko i),if_pos G]
  ·exact d4 (by rw[gN];exact ag) e
theorem aqj (aN o1:ac) (Q ai:List Int) (w:O) (ha:cR w aN Q) (hb:cR w o1 ai):aE aa 53 #[aN,o1] w λe D=>e=au (aA (decide (Q=ai)))/\ae w D:=by
 have tn:=ha;have gQ:=hb;obtain⟨dG,ga,rfl,BI,I9,_⟩:=ha;obtain⟨Kk,tp,rfl,Nb,Gq,_⟩:=hb;unfold ff at I9 Gq;by_cases hlen:Q.length=ai.length
 ·have o9:(ai.length:Int)=Q.length:=G;rw[show ai.length=Q.length from hlen.symm] at gQ;rw[<-hlen] at Nb;have EJ:=I tn;have aqk:=I gQ;have IE:=I hlen;have aql:∀k,k<Q.length->k<ai.length:=λk h=>by omega
  have wv:=I aql;rw[show ai.length=Q.length from hlen.symm];go_in;go_wp2_with fail;go_loopw [13] (λi wr=>∃(k:Nat),k<=Q.length/\i=r c k/\aM (Q.take k=ai.take k)/\aM (ae w wr)) (λi _=>Q.length-(cu i).toNat)
  ·exact⟨0,cQ _,rfl,I rfl,I (bx _ _)⟩
  ·obtain⟨k,K,rfl,nJ,xs⟩:=hrel;by_cases a0:k<Q.length
   ·have AG:=bu.bg xs.o;obtain⟨kC,cx,rfl,qF⟩:=(EJ.o.a_ AG).at k a0;obtain⟨TQ,aDK,rfl,Af⟩:=(aqk.o.a_ AG).at k (wv.o k a0);have aDL:=I (xs.o.drew);have js:=ew k;have mC:(k:Int)<Q.length:=G;have rS:aM (Q.take (k+1)=Q.take k++[Q[k]]):=I (uI a0);have je:aM (ai.take (k+1)=ai.take k++[ai[k]'(wv.o k a0)]):=I (uI (wv.o k a0));obtain⟨x,ak⟩:=al (Q[k]);obtain⟨y,az⟩:=al (ai[k]'(wv.o k a0));rw[<-ak] at qF;rw[<-az] at Af;have e7:=I ak.symm;have ju:=I az.symm;clear ak az;go_wp2_with fail
    go_quiet (fail)
    generalize Ho:wr.drewN _=b' at*;by_cases qU:x=y
    ·subst qU;have RR:(x==x)=ad:=a3;go_wp2_with fail;go_roundw
     ·refine⟨k+1,G,by go_num,I ?_,I ?_⟩
      ·rw[rS.o,je.o,nJ.o,e7.o,ju.o]
      ·rw[<-Ho];exact below_drewN xs.o _
     ·simp[cu];omega
    ·have b9:aM (Q≠ai):=I (λe=>qU (by rw[<-e7.o,<-ju.o];simp[e]));have RR:(x==y)=ao:=by simpa using qU
     go_wp2_with fail;go_ret;refine⟨?_,by rw[<-Ho];exact below_drewN xs.o _⟩;rw[decide_eq_false b9.o];rfl
   ·obtain rfl:k=Q.length:=G;go_wp2_with fail;go_ret;refine⟨?_,xs.o⟩;have h:=nJ.o;rw[v3,IE.o,v3] at h;rw[decide_eq_true h];rfl
 ·have b9:Q≠ai:=λh=>hlen (by rw[h]);have aC:¬(Q.length:Int)=ai.length:=G;have kA:((Q.length:Int)==(ai.length:Int))=ao:=by simpa using aC
  rw[decide_eq_false b9];go_in;go_wp2_with fail;go_ret;exact⟨rfl,bx _ _⟩
def qG (L:List Int):Int:=L.tail.foldl max (L.headD 0)
theorem aqm (K:0<k) (h:k<L.length):qG (L.take (k+1))=max (qG (L.take k)) L[k]:=by
 cases L with
 |nil=>simp at h
 |cons a L=>
  obtain⟨j,rfl⟩:∃j,k=j+1:=⟨k-1,G⟩;have av:j<L.length:=by simpa using h
  unfold qG;rw[LZ,LZ,QO,QO,uI av,L6];rfl
theorem aqn (a b:Int):(if a<b then b else a)=max a b:=by split<;>omega
theorem aqo (aN:ac) (Q:List Int) (w:O) (ha:cR w aN Q) (h0:0<Q.length):aE aa 54 #[aN] w λe D=>e=au (r c (qG Q))/\D=w:=by
 have dM:=I ha;obtain⟨a,ga,rfl,BI,I9,_⟩:=ha;unfold ff at I9;obtain⟨kC,cx,rfl,d0⟩:=dM.o.at 0 h0;obtain⟨c0,j7⟩:=al (Q[0]);rw[<-j7,uH] at d0;have lu:qG (Q.take 1)=c0:=by
  cases Q with
  |nil=>simp at h0
  |cons a L=>rw[j7];rfl
 have eU:=I lu;have vF:(1:Int)<=Q.length:=G;clear j7;go_in;go_wp2_with fail;go_loopw [3,4] (λm i wr=>∃(k:Nat) (x:Int),m=r c x/\i=r c k/\aM (0<k/\k<=Q.length/\x=qG (Q.take k)/\wr=w)) (λ_ i _=>Q.length-(cu i).toNat)
 ·exact⟨1,c0,rfl,rfl,I ⟨G,G,eU.o.symm,rfl⟩⟩
 ·obtain⟨k,x,rfl,rfl,bZ⟩:=hrel;obtain⟨jl,K,ak,bU⟩:=bZ.o;subst bU;by_cases a0:k<Q.length
  ·obtain⟨qR,dt,fm,d⟩:=dM.o.at k a0;obtain⟨rfl,rfl⟩:kC=qR/\cx=dt:=by simpa using fm
   obtain⟨y,az⟩:=al (Q[k]);rw[<-az] at d;have e6:(k:Int)<Q.length:=G;have dv:=ew k;have ks:=I (show max x y=qG (Q.take (k+1)) by rw[aqm jl a0,ak,az]);clear ak az;go_wp2_with fail;go_roundw
   ·exact⟨k+1,_,rfl,by go_num,I ⟨G,G,by first|exact(aqn x y).trans ks.o|exact ks.o,by first|rfl|trivial⟩⟩
   ·simp[cu];omega
  ·obtain rfl:k=Q.length:=G;have e7:=I (show x=qG Q by rw[ak,v3]);clear ak;go_wp2_with fail;go_ret;exact⟨by rw[e7.o];rfl,rfl⟩
def mw (w:O) (p:Nat) (L:List Int) (many:Int):Prop:=∃v,V w p #[v,r c many] 125 (0,0)/\cR w v L
theorem mw.a_ {w:O} (h:mw w p L many) (K:bu w D):mw D p L many:=by
 obtain⟨v,h1,h2⟩:=h;exact⟨v,K.aH h1,h2.a_ K⟩
theorem mw.cells {w:O} (h:mw w p L many):∃a R,w.cell? (B p 0)=A (E a L.length R)/\w.cell? (B p 1)=A (r c many)/\cR w (E a L.length R) L:=by
 obtain⟨v,h1,h2⟩:=h;obtain⟨a,R,rfl,_⟩:=id h2;exact⟨a,R,h1.cell 0,h1.cell 1,h2⟩
theorem ac_ (p:Nat) (L:List Int) (many:Int) (w:O) (h:mw w p L many):aE aa 62 #[J p 0] w λe D=>e=au (r c many)/\D=w:=by
 obtain⟨a,R,bR,aV,_⟩:=h.cells;go_in;go_wp2_with fail;go_ret;exact⟨rfl,rfl⟩
theorem aqp (p:Nat) (L:List Int) (many:Int) (w:O) (h:mw w p L many) (aw:L.length<=1000000):aE aa 107 #[J p 0] w λe D=>∃v,e=au v/\D.ownsRow w.heap.size 3 1 v L.length (L.flatMap ec)/\ae w D:=by
 obtain⟨a,R,bR,aV,aB⟩:=h.cells;have cS:=I (D' _ L w aB G);go_in;go_wp2_with fail;refine cS.o.mono ?_;rintro e D ⟨v,rfl,aQ,hb⟩;have H:=db aQ hb;go_wp2_with fail;go_ret;exact⟨v,rfl,H.o.1,H.o.2⟩
def rT (L:List Int) (v:Int):Int:=if 0<=v/\v<L.length then L[v.toNat]?.getD 0 else-1
theorem ac' (p:Nat) (L:List Int) (many v:Int) (w:O) (h:mw w p L many):aE aa 124 #[J p 0,r c v] w λe D=>e=au (r c (rT L v))/\D=w:=by
 obtain⟨a,R,bR,aV,aB⟩:=h.cells;by_cases h1:v<0
 ·have e:rT L v=-1:=by unfold rT;rw[if_neg G]
  rw[e];go_in;go_wp2_with fail;go_ret;exact⟨rfl,rfl⟩
 ·by_cases h2:(L.length:Int)<=v
  ·have e:rT L v=-1:=by unfold rT;rw[if_neg G]
   rw[e];go_in;go_wp2_with fail;go_ret;exact⟨rfl,rfl⟩
  ·obtain⟨n,rfl⟩:=r6 (show 0<=v by omega);obtain⟨b,o,rfl,d⟩:=aB.at n G;have js:=ew n;have mC:(n:Int)<L.length:=G;have e:rT L n=L[n]'G:=by unfold rT;rw[if_pos ⟨js,mC⟩,ko,eA G];rfl
   rw[e];obtain⟨x,ak⟩:=al (L[n]'G);rw[<-ak] at d⊢;clear ak;go_in;go_wp2_with fail;go_ret;exact⟨rfl,rfl⟩
theorem T_ (h:x∈l1 L):0<=x/\x<L.length:=by
 unfold l1 at h;rw[ZW] at h;obtain⟨y,az,rfl⟩:=jB.1 h;have h1:=Ip (ZT L [] y (.inr az));have h2:=Sj L [];simp at h2;omega
theorem ada:∀(L:List Int) (a:Int),L.foldl max a=a\/L.foldl max a∈L
 |[],a=> .inl rfl
 |x::L,a=>by
  rw[FM];rcases ada L (max a x) with h|h
  ·rcases Int.le_total a x with h2|h2
   ·right;rw[h,Int.max_eq_right h2];exact uL
   ·left;rw[h,Int.max_eq_left h2]
  ·exact .inr (uK _ h)
theorem aqq (h:L≠[]):qG L∈L:=by
 cases L with
 |nil=>exact absurd rfl h
 |cons a L=>
  unfold qG;rcases ada L a with e|e
  ·rw[QO,aiI,e];exact uL
  ·rw[QO,aiI];exact uK _ e
def T' (L:List Int):Prop:=L≠[]/\l1 L=L/\qG L<256
theorem adb (h:L≠[]) (aC:l1 L=L):0<=qG L/\qG L<L.length:=T_ (L:=L) (by rw[aC];exact aqq h)
theorem aqr (aN:ac) (L:List Int) (hL:L.length<=100000) (s6:∀x∈L,(Lit.int c x).wf=ad) (w:O) (ha:cR w aN L):
 aE aa 19 #[aN] w λe D=>((¬T' L/\e=au (a6 T))\/(T' L/\∃p,e=au (J p 0)/\w.heap.size<=p/\mw D p L (qG L+1)))/\ae w D:=by
 have dM:=I ha;have Jj:=I s6;obtain⟨a,ga,rfl,_⟩:=ha;clear s6;by_cases h0:L.length=0
 ·have aC:L=[]:=ah2 h0;have hl:((L.length:Int)==0)=ad:=by rw[h0];rfl
  clear h0;go_in;go_wp2_with fail;go_ret;exact⟨.inl ⟨λh=>h.1 aC,rfl⟩,bx _ _⟩
 ·have Kl:L≠[]:=λe=>h0 (by rw[e];rfl);have hl:((L.length:Int)==0)=ao:=by rw[beq_eq_false_iff_ne];omega
  have cS:=I (Z6 _ L hL Jj.o w dM.o);have OE:=I Kl;clear h0 Kl;have qB:¬L=[]:=OE.o;go_in;go_wp2_with fail;refine cS.o.mono ?_;rintro e ay ⟨v,rfl,aQ,hb⟩;have ft:=I hb;have cH:=I (aqj v (E a L.length ga) (l1 L) L ay (jv rfl aQ) (dM.o.a_ (bu.bg hb)));obtain⟨aDM,aDN,aDO,rfl⟩:=aQ.ic;clear hb aQ cS;go_wp2_with fail;refine dl cH.o λaJ hb=>?_;have dT:=I (ft.o.next' hb);clear hb cH;by_cases nH:l1 L=L
  ·have a9:decide (l1 L=L)=ad:=decide_eq_true nH;have gn:=I nH;rw[a9];clear a9 nH;have kl:=I (D' _ L aJ (dM.o.a_ (bu.bg dT.o)) G);go_wp2_with fail;refine kl.o.mono ?_;rintro e ba ⟨dw,rfl,aQ,hb⟩;have dh:=I (dT.o.next' hb);have sT:=I (show cR ba dw L from jv rfl aQ);have eU:=I (aqo _ L ba (dM.o.a_ (bu.bg dh.o)) (by have:=OE.o;exact aiJ.2 this));have ar:=adb OE.o gn.o;obtain⟨EK,xm⟩:=al (qG L);rw[<-xm] at eU ar;have Ua:=I xm;have o2:0<=EK/\EK<100000:=G;obtain⟨aqs,aqt,aqu,rfl⟩:=aQ.ic;clear hb aQ kl ar xm;go_wp2_with fail;refine eU.o.mono ?_;rintro e bi ⟨rfl,rfl⟩;obtain⟨p,aP⟩:=al bi.heap.size;obtain⟨bD,gm⟩:=al (bi.alloc (an #[E aqs aqt aqu,.int c (EK+1)] 125));have cT:=dx gm;have k5:=eK gm aP;have aqv:=I (show mw bD p L (EK+1) from⟨_,k5,sT.o.a_ (bu.bg cT)⟩);have aV:=aR k5 1;rw[gm] at aV;have nX:=I gm;have e_:=I aP;have hd:=I (dh.o.next' cT);have wz:=I (show w.heap.size<=p by rw[aP];exact dh.o.size);clear gm cT k5 aP eU;rw[e_.o] at aV;by_cases lo:EK<256
   ·have ry:¬(256:Int)<EK+1:=G;go_wp2_with fail;go_ret;rw[<-nX.o,<-e_.o];exact⟨.inr ⟨⟨OE.o,gn.o,by rw[<-Ua.o];exact lo⟩,p,rfl,wz.o,by rw[<-Ua.o];exact aqv.o⟩,hd.o⟩
   ·have ry:(256:Int)<EK+1:=G;go_wp2_with fail;go_ret;rw[<-nX.o];exact⟨.inl ⟨λh=>absurd h.2.2 (by rw[<-Ua.o];omega),rfl⟩,hd.o⟩
  ·have a9:decide (l1 L=L)=ao:=decide_eq_false nH;rw[a9];clear a9;go_wp2_with fail;go_ret;exact⟨.inl ⟨λh=>nH h.2.1,rfl⟩,dT.o⟩
theorem Ub (p:Nat) (g:Raw) (i:Int) (w:O) (h:eq w p g):aE aa 197 #[J p 0,r c i] w λe D=>e=au (b8 #[vl ((kE g i).getD (0,0,0)),aA (kE g i).isSome])/\ae w D:=by
 have br:(if 0<=i/\i<(g.arcs.length:Int) then g.arcs[i.toNat]?.getD (0,0,0) else(0,0,0))=(kE g i).getD (0,0,0):=by unfold kE;split<;>rfl
 have a4:decide (0<=i/\i<(g.arcs.length:Int))=(kE g i).isSome:=by
  unfold kE;split
  ·rename_i h;rw[decide_eq_true h,eA G];rfl
  ·rename_i h;rw[decide_eq_false h];rfl
 have:=D_ p g i w h;rw[br,a4] at this;exact this
structure aqR (ai:Nat) (bH:O) where
 w:O
 h:bQ ai bH w
instance{ai:Nat} {bH:O}:Nonempty (aqR ai bH):=⟨⟨bH,bx _ _⟩⟩
structure fE (w:O) (p g n b':Nat) (l:List UInt8):Prop where
 head:V w p #[r c n,r c b',r c ((b'+7)/8:Nat),E (A (B g 0)) l.length l.length] 183
 body:V w g (oH l) 5
 ne:p≠g
 AJ:l.length=n*((b'+7)/8)
 wide:b'<=67108864
 rows:n<=9223372036854775807
 cr:l.length<=268435456
theorem EP (p g n b':Nat) (l:List UInt8) (w:O) (h:fE w p g n b' l):
 aE aa 118 #[J p 0] w λe D=>e=au (r c n)/\w=D:=by
 have ah:=h.head.cell 0;change w.cell? (B p 0)=A (r c n) at ah;go_in;go_wp2;go_ret;exact⟨rfl,rfl⟩
theorem Hs (p g n b':Nat) (l:List UInt8) (w:O) (h:fE w p g n b' l):
 aE aa 119 #[J p 0] w λe D=>e=au (r c b')/\w=D:=by
 have ah:=h.head.cell 1;change w.cell? (B p 1)=A (r c b') at ah;go_in;go_wp2;go_ret;exact⟨rfl,rfl⟩
theorem aqS (x:UInt8) (k:Nat) (K:k<8):(bits .and dA (x.toNat:Int) ((2^k:Nat):Int)!=0)=x.toNat.testBit k:=by
 have ak:x.toNat<256:=x.toNat_lt;have h2:2^k<256:=aiK G (show k<8 from K);rw[u8_and_nat _ _ ak h2,nat_bit,Nat.testBit_eq_decide_div_mod_eq];have aP:0<2^k:=Nat.pow_pos G;rcases Nat.mod_two_eq_zero_or_one (x.toNat/2^k) with h|h<;>rw[h]
 ·simp
 ·rw[Nat.one_mul];have ap:(((2^k:Nat):Int)==0)=ao:=by rw[beq_eq_false_iff_ne];omega
  simp only[bne,ap,decide_true,Bool.not_false]
theorem adg (k:Nat) (K:k<8):IntKind.u8.wrap ((2:Int)^k)=((2^k:Nat):Int)/\IntKind.u8.wrap ((2:Int)^min k 8)=((2^k:Nat):Int):=by
 have:k=0\/k=1\/k=2\/k=3\/k=4\/k=5\/k=6\/k=7:=G;rcases this with rfl|rfl|rfl|rfl|rfl|rfl|rfl|rfl<;>decide
theorem aqT (a:cp) (x:UInt8) (M:Int) (b:Bool) (w:O) (ah:w.cell? a=A (r dA (x.toNat:Int))) (hb:(bits .and dA (x.toNat:Int) M !=0)=b):
 aE aa 323 #[a6 (A a),r dA M] w λe D=>e=au (aA b)/\w=D:=by
 go_in;go_wp2;go_ret;exact⟨rfl,rfl⟩
def m3 (n b':Nat) (l:List UInt8) (U i:Int):Bool:=
 decide (0<=U/\U<n/\0<=i/\i<b')&&((l[U.toNat*((b'+7)/8)+i.toNat/8]?.getD 0).toNat.testBit (i.toNat%8))
theorem adh (p g n b':Nat) (l:List UInt8) (U i:Int) (f:ac) (w:O) (h:fE w p g n b' l) (rU:¬(0<=U/\U<n/\0<=i/\i<b')):
 aE aa 115 #[J p 0,r c U,r c i,f] w λe D=>e=au (aA ao)/\w=D:=by
 go_in;by_cases h1:U<0
 ·go_wp2;go_ret;exact⟨rfl,rfl⟩
 ·by_cases h2:(n:Int)<=U
  ·go_wp2_with fail;refine(EP p g n b' l _ h).mono ?_;rintro e D ⟨rfl,rfl⟩;go_wp2;go_ret;exact⟨rfl,rfl⟩
  ·by_cases ap:i<0
   ·go_wp2_with fail;refine(EP p g n b' l _ h).mono ?_;rintro e D ⟨rfl,rfl⟩;go_wp2;go_ret;exact⟨rfl,rfl⟩
   ·have bl:(b':Int)<=i:=G;go_wp2_with fail;refine(EP p g n b' l _ h).mono ?_;rintro e D ⟨rfl,rfl⟩;go_wp2_with fail;refine(Hs p g n b' l _ h).mono ?_;rintro e D ⟨rfl,rfl⟩;go_wp2;go_ret;exact⟨rfl,rfl⟩
theorem Uf {d:Nat} (h:aj<n) (a9:d<gz):aj*gz+d<n*gz:=by
 have:(aj+1)*gz<=n*gz:=Nat.mul_le_mul_right gz h;rw[LW] at this;omega
theorem aqU (p g n b' aj dp:Nat) (l:List UInt8) (w:O) (h:fE w p g n b' l) (cf:aj<n) (bS:dp<b') (x:UInt8) (ak:l[aj*((b'+7)/8)+dp/8]? =A x):
 aE aa 115 #[J p 0,r c aj,r c dp,.func (.func 323) #[] #[]] w λe D=>e=au (aA (x.toNat.testBit (dp%8)))/\ae w D:=by
 have h0:=h;obtain⟨hh,sr,Ug,aw,bU,aC,hm⟩:=h;obtain⟨gz,ur⟩:=al ((b'+7)/8);obtain⟨d,a9⟩:=al (dp/8);obtain⟨k,K⟩:=al (dp%8);obtain⟨m,lo⟩:=al (aj*gz);obtain⟨j,av⟩:=al (m+d);rw[<-ur] at hh aw ak;rw[<-a9,<-lo,<-av] at ak;have pH:j<l.length:=by rw[aw,av,lo];exact Uf cf G
 have br:IntKind.i64.wrap ((aj:Int)*(gz:Int))=m:=by rw[lo,<-H8];exact ll _ G G
 have a4:(dp:Int).tdiv 8=d:=by rw[Mf G];omega
 have en:(dp:Int).tmod 8=k:=by rw[Dl G];omega
 have od:IntKind.i64.wrap ((m:Int)+(d:Int))=j:=by rw[av,<-QK];exact ll _ G G
 obtain⟨M,dU⟩:∃M:Int,M=((2^k:Nat):Int):=⟨_,rfl⟩;obtain⟨s1,fX⟩:=adg k G;rw[<-dU] at s1 fX;have hb:=aqS x k G;rw[<-dU] at hb;have sb:IntKind.i64.wrap (d:Int)=d:=ll _ G G;have y9:IntKind.i64.wrap (k:Int)=k:=ll _ G G;have wB:=ew j;have rp:(j:Int)<l.length:=G;have Yh:¬(l.length:Int)<=j:=G;have jl:=ew k;have pa:¬(k:Int)<0:=G;have e6:(k:Int)<8:=G;have aV:=hh.cell 2;have bb:=hh.cell 3;have ch:=sr.cell j;rw[show oH l=oH l++#[] by simp,QV _ _ _ pH] at ch;have Ht:l[j]=x:=by rw[eA pH] at ak;simpa using ak
 rw[Ht] at ch;change w.cell? (B p 2)=A (r c gz) at aV;change w.cell? (B p 3)=A (E (A (B g 0)) l.length l.length) at bb;have qv:k<8:=G;rw[<-K];have bw:=I a9;have Jp:=I K;have adi:=I lo;have aqV:=I av;have aqW:=I ur;have aqX:=I aw;have eU:=I dU;have Uh:=I hb;clear hb;have hM:=I h0;clear a9 K lo av ur aw h0 ak Ht hh sr dU;go_in;go_wp2_with fail;refine(EP p g n b' l _ hM.o).mono ?_;rintro e D ⟨rfl,rfl⟩;go_wp2_with fail;refine(Hs p g n b' l _ hM.o).mono ?_;rintro e D ⟨rfl,rfl⟩;go_wp2_with fail
 go_region_held3 (λD=>D.cell? (B p 2)=A (r c gz)/\D.cell? (B p 3)=A (E (A (B g 0)) l.length l.length)/\D.cell? (B g j)=A (r dA (x.toNat:Int))) (exact⟨aV,bb,ch⟩)
  (first
   |(go_at_call 323;(with_reducible refine(aqT _ x M _ _ ?_ Uh.o).mono ?_);exact ch;rintro e D ⟨rfl,rfl⟩))
 go_wp2;go_ret;exact⟨rfl,(bx _ _).drew⟩
theorem aqY {x:UInt8} (cf:aj<n) (bS:dp<b') (ak:l[aj*((b'+7)/8)+dp/8]? =A x):m3 n b' l aj dp=x.toNat.testBit (dp%8):=by
 unfold m3;rw[decide_eq_true (show(0:Int)<=aj/\(aj:Int)<n/\(0:Int)<=dp/\(dp:Int)<b' by omega),XR];simp only[ko,ak,sM]
theorem aqZ {U i:Int} (h:¬(0<=U/\U<n/\0<=i/\i<b')):m3 n b' l U i=ao:=by
 unfold m3;rw[decide_eq_false h,Bool.false_and]
theorem fE.at {w:O} {g:Nat} (h:fE w p g n b' l) (cf:aj<n) (bS:dp<b'):aj*((b'+7)/8)+dp/8<l.length:=by
 rw[h.AJ];exact Uf cf G
theorem aq0 (p g n b':Nat) (l:List UInt8) (U i:Int) (w:O) (h:fE w p g n b' l):
 aE aa 305 #[J p 0,r c U,r c i] w λe D=>e=au (aA (m3 n b' l U i))/\ae w D:=by
 by_cases rU:0<=U/\U<n/\0<=i/\i<b'
 ·obtain⟨aj,rfl⟩:=r6 rU.1;obtain⟨dp,rfl⟩:=r6 rU.2.2.1;have cf:aj<n:=G;have bS:dp<b':=G;have ak:=eA (h.at cf bS);rw[aqY cf bS ak];generalize l[aj*((b'+7)/8)+dp/8]'(h.at cf bS)=x at*;have C:=I (aqU p g n b' aj dp l w h cf bS x ak);clear ak rU;generalize x.toNat.testBit (dp%8)=b at*;go_in;go_wp2_with fail;refine dl C.o λD hb=>?_;go_wp2;go_ret;exact⟨rfl,hb⟩
 ·rw[aqZ rU];have C:=I (adh p g n b' l U i (.func (.func 323) #[] #[]) w h rU);clear rU;go_in;go_wp2_with fail;refine C.o.mono ?_;rintro e D ⟨rfl,rfl⟩;go_wp2;go_ret;exact⟨rfl,bx _ _⟩
theorem aq1 (x:UInt8) (k:Nat) (K:k<8):∃R:UInt8,bits .andNot dA (x.toNat:Int) ((2^k:Nat):Int)=(R.toNat:Int)/\∀q,q<8->R.toNat.testBit q=(decide (q≠k)&&x.toNat.testBit q):=by
 have ak:x.toNat<256:=x.toNat_lt;have h2:2^k<256:=aiK G (show k<8 from K);refine⟨aBT (x.toNat&&&(255-2^k)),?_,λq aO=>?_⟩
 ·rw[u8_andNot_nat _ _ ak h2,XS (aBU aBV ak)]
 ·rw[XS (aBU aBV ak),Nat.testBit_and,Bool.and_comm]
  congr 1
  revert q k;decide
theorem aq2 (x:UInt8) (k:Nat) (K:k<8):∃R:UInt8,bits .or dA (x.toNat:Int) ((2^k:Nat):Int)=(R.toNat:Int)/\∀q,q<8->R.toNat.testBit q=(decide (q=k)||x.toNat.testBit q):=by
 have ak:x.toNat<256:=x.toNat_lt;have h2:2^k<256:=aiK G (show k<8 from K);have ap:x.toNat|||2^k<256:=Nat.or_lt_two_pow (n:=8) ak h2;refine⟨aBT (x.toNat|||2^k),?_,λq aO=>?_⟩
 ·rw[u8_or_nat _ _ ak h2,XS ap]
 ·rw[XS ap,Nat.testBit_or,Nat.testBit_two_pow,Bool.or_comm]
  congr 1
  simp[eq_comm]
theorem aq3 (g j ib:Nat) (l:List UInt8) (k:Nat) (dD:Bool) (M:Int) (w:O) (hg:V w g (oH l) 5) (av:j<l.length) (K:k<8) (dU:M=((2^k:Nat):Int)) (hb:V w ib #[aA dD] 4) (b9:g≠ib):
 aE aa 116 #[J g j,r dA M,J ib 0] w λe D=>∃y:UInt8,e=au (aA ad)/\(∀q,q<8->y.toNat.testBit q=if q=k then dD else l[j].toNat.testBit q)/\V D g (oH (l.set j y)) 5 (0,0)/\Kept (·=g) w D:=by
 obtain⟨R,h1,h2⟩:=aq1 l[j] k K;obtain⟨d,ap,bl⟩:=aq2 R k K;have aB:=λy=>X4 l #[] j av y;simp only[aBW] at aB;have aV:=hg.cell j;rw[show oH l=oH l++#[] by simp,QV _ _ _ av] at aV;have f6:=hg.free j (hD (cQ _));have bb:=hb.cell 0;change w.cell? (B ib 0)=A (aA dD) at bb;rw[<-dU] at h1 ap;generalize l[j]=x at*;have fC:=I h2;have i9:=I bl;have cj:=I aB;have HG:=I hg;have eU:=I dU;have qj:=hg.set j (r dA (R.toNat:Int));rw[aB] at qj;have ch:=qj.cell j;have f3:=qj.free j (hD (cQ _));rw[show oH (l.set j R)=oH (l.set j R)++#[] by simp,QV _ _ _ (by simpa using av)] at ch;simp only[Mg] at ch;have gR:(w.setCell (B g j) (r dA (R.toNat:Int))).cell? (B ib 0)=A (aA dD):=(hb.gr (B g j) _ (h8 b9)).cell 0;have GU:=I qj;clear h2 bl aB hg qj dU hb;go_in;cases dD with
 |true=>
  go_wp2;go_ret;refine⟨d,rfl,λq aO=>?_,?_,((Kept.refl (·=g) w).setCell (p:=B g j) rfl _).setCell (p:=B g j) rfl _⟩
  ·rw[i9.o q aO,fC.o q aO];by_cases e:q=k<;>simp[e]
  ·have:=GU.o.set j (r dA (d.toNat:Int));have hK:=X4 (l.set j R) #[] j (by simpa using av) d;simp only[aBW,QE] at hK;rw[hK] at this;exact this
 |false=>
  go_wp2;go_ret;refine⟨R,rfl,λq aO=>?_,GU.o,(Kept.refl (·=g) w).setCell (p:=B g j) rfl _⟩
  ·rw[fC.o q aO];by_cases e:q=k<;>simp[e]
theorem aq4 (p g n b' aj dp:Nat) (l:List UInt8) (w:O) (h:fE w p g n b' l) (cf:aj<n) (bS:dp<b') (ib:Nat) (dD:Bool) (tt:V w ib #[aA dD] 4) (DL:g≠ib):
 aE aa 115 #[J p 0,r c aj,r c dp,.func (.func 116) #[] #[J ib 0]] w λe D=>∃(y:UInt8) (av:aj*((b'+7)/8)+dp/8<l.length),e=au (aA ad)/\(∀q,q<8->y.toNat.testBit q=if q=dp%8 then dD else l[aj*((b'+7)/8)+dp/8].toNat.testBit q)/\V D g (oH (l.set (aj*((b'+7)/8)+dp/8) y)) 5 (0,0)/\Kept (·=g) w D:=by
 have h0:=h;obtain⟨hh,sr,Ug,aw,bU,aC,hm⟩:=h;obtain⟨gz,ur⟩:=al ((b'+7)/8);obtain⟨d,a9⟩:=al (dp/8);obtain⟨k,K⟩:=al (dp%8);obtain⟨m,lo⟩:=al (aj*gz);obtain⟨j,av⟩:=al (m+d);rw[<-ur] at hh aw;rw[<-ur,<-a9,<-lo,<-av];have pH:j<l.length:=by rw[aw,av,lo];exact Uf cf G
 have br:IntKind.i64.wrap ((aj:Int)*(gz:Int))=m:=by rw[lo,<-H8];exact ll _ G G
 have a4:(dp:Int).tdiv 8=d:=by rw[Mf G];omega
 have en:(dp:Int).tmod 8=k:=by rw[Dl G];omega
 have od:IntKind.i64.wrap ((m:Int)+(d:Int))=j:=by rw[av,<-QK];exact ll _ G G
 obtain⟨M,dU⟩:∃M:Int,M=((2^k:Nat):Int):=⟨_,rfl⟩;obtain⟨s1,fX⟩:=adg k G;rw[<-dU] at s1 fX;have sb:IntKind.i64.wrap (d:Int)=d:=ll _ G G;have y9:IntKind.i64.wrap (k:Int)=k:=ll _ G G;have wB:=ew j;have rp:(j:Int)<l.length:=G;have Yh:¬(l.length:Int)<=j:=G;have jl:=ew k;have pa:¬(k:Int)<0:=G;have e6:(k:Int)<8:=G;have aV:=hh.cell 2;have bb:=hh.cell 3;change w.cell? (B p 2)=A (r c gz) at aV;change w.cell? (B p 3)=A (E (A (B g 0)) l.length l.length) at bb;have qv:k<8:=G;rw[<-K];have bw:=I a9;have Jp:=I K;have adi:=I lo;have aqV:=I av;have aqW:=I ur;have aqX:=I aw;have eU:=I dU;have EQ:=I tt;have aq5:=I sr;clear tt sr;have hM:=I h0;clear a9 K lo av ur aw h0 hh dU;have nm:=hM.o.head.lt;go_in;go_wp2_with fail;refine(EP p g n b' l _ hM.o).mono ?_;rintro e D ⟨rfl,rfl⟩;go_wp2_with fail;refine(Hs p g n b' l _ hM.o).mono ?_;rintro e D ⟨rfl,rfl⟩;go_wp2_with fail
 go_region_held3 (λD=>D.cell? (B p 2)=A (r c gz)/\D.cell? (B p 3)=A (E (A (B g 0)) l.length l.length)) (first|exact⟨aV,bb⟩|exact⟨(mO (eQ.block p (by assumption) Ug)).trans aV,(mO (eQ.block p (by assumption) Ug)).trans bb⟩)
  (first
   |(go_at_call 116;(with_reducible refine(aq3 g j ib l k dD M _ ?_ pH qv eU.o ?_ DL).mono ?_);exact aq5.o;exact EQ.o;rintro e D ⟨y,rfl,az,mT,eQ⟩))
 go_wp2;go_ret;exact⟨y,pH,rfl,az,mT,⟨eQ.os,eQ.tape,eQ.output,eQ.size,eQ.block⟩⟩
theorem ara:(prog.info? 5).map (λi=>(i.zero,i.size,i.bytes))=A (A (r dA 0),1,1):=bq
theorem arb (b':Nat) (h:b'<=67108864):(IntKind.i64.wrap (IntKind.i64.wrap ((b':Int)+8)-1)).tdiv 8=((b'+7)/8:Nat):=by
 have h1:IntKind.i64.wrap ((b':Int)+8)=(b':Int)+8:=ll _ G G;rw[h1,ll _ G G,Mf G];omega
theorem arc (n b':Nat) (w:O) (bU:b'<=67108864) (aC:n<=9223372036854775807) (hm:n*((b'+7)/8)<=268435456):
 aE aa 61 #[r c n,r c b'] w λe D=>∃p g,e=au (J p 0)/\fE D p g n b' (d5 (n*((b'+7)/8)) 0)/\w.heap.size<=p/\w.heap.size<=g/\ae w D:=by
 obtain⟨gz,ur⟩:=al ((b'+7)/8);obtain⟨m,lo⟩:=al (n*gz);have br:=arb b' bU;have od:((b':Int)+8-1)/8=gz:=G;have sb:((b':Int)+7)/8=gz:=G;rw[<-ur] at br hm⊢;rw[<-lo] at hm⊢;have a4:IntKind.i64.wrap ((n:Int)*(gz:Int))=m:=by rw[lo,<-H8];exact ll _ G G
 have en:IntKind.i64.wrap (gz:Int)=gz:=ll _ G G;have jT:=ai1 (P:=aa) 22 5 underlying22 ara m G;have oz:∀D:O,D=(w.alloc (an (oH (d5 m 0)) 5)).alloc (an #[r c n,r c b',r c gz,E (A (B w.heap.size 0)) m m] 183)->fE D (w.heap.size+1) w.heap.size n b' (d5 m 0):=by
  rintro D rfl;have h1:=V.new (w.alloc (an (oH (d5 m 0)) 5)) #[r c n,r c b',r c gz,E (A (B w.heap.size 0)) m m] 183 (0,0);rw[d8] at h1;refine⟨by rw[jD,<-ur];exact h1,(V.new w _ _ _).alloc _,G,by rw[jD,lo,ur],bU,aC,by rw[jD];omega⟩
 have aO:∀aDP:0<gz,((268435456:Int).tdiv (gz:Int))=((268435456/gz:Nat):Int):=λ_=>by
  rw[Mf G];rfl
 have bP:=I oz;have adi:=I lo;clear oz;by_cases rc:gz=0
 ·have vF:decide ((0:Int)<gz)=ao:=by simp[rc]
  have o9:decide (0<gz)=ao:=by simp[rc]
  have aDQ:=I rc;clear rc aO ur lo;go_in;go_wp2;go_ret;exact⟨_,_,rfl,bP.o _ rfl,G,G,(fb).alloc a3 _⟩
 ·have vF:decide ((0:Int)<gz)=ad:=by simp;omega
  have o9:decide (0<gz)=ad:=by simp;omega
  have Ul:=aO G;have Az:(268435456:Int)/(gz:Int)=((268435456/gz:Nat):Int):=rfl;have hle:n<=268435456/gz:=(aBY G).2 G;have RU:268435456/gz<=268435456:=Nat.div_le_self _ _;generalize 268435456/gz=q at*;have aDR:¬(q:Int)<n:=G;have aDS:((gz:Int)==0)=ao:=by rw[beq_eq_false_iff_ne];omega
  have aDT:IntKind.i64.wrap (q:Int)=q:=ll _ G G;have aDU:wrap64 (q:Int)=q:=aiL _ ⟨G,G⟩;clear aO ur lo;go_in;go_wp2;go_ret;exact⟨_,rfl,_,bP.o _ rfl,G,G,(fb).alloc a3 _⟩
def Ko (gz:Nat) (l:List UInt8) (aj i:Nat):Bool:=(l[aj*gz+i/8]?.getD 0).toNat.testBit (i%8)
def Un (n gz:Nat) (l:List UInt8) (aj dp:Nat) (dD:Bool) (i3:List UInt8):Prop:=
 i3.length=l.length/\∀U,U<n->∀i,i<8*gz->Ko gz i3 U i=if U=aj/\i=dp then dD else Ko gz l U i
theorem ard {U d e:Nat} (a9:d<gz) (he:e<gz) (h:aj*gz+d=U*gz+e):aj=U/\d=e:=by
 have h1:(aj*gz+d)/gz=aj:=by rw[aiM,aB0 G,aB1 a9,uH]
 have h2:(U*gz+e)/gz=U:=by rw[aiM,aB0 G,aB1 he,uH]
 have ap:aj=U:=by rw[<-h1,<-h2,h]
 subst ap;exact⟨rfl,G⟩
theorem are {dD:Bool} {y:UInt8} (bS:dp<8*gz) (av:aj*gz+dp/8<l.length) (az:∀q,q<8->y.toNat.testBit q=if q=dp%8 then dD else l[aj*gz+dp/8].toNat.testBit q):Un n gz l aj dp dD (l.set (aj*gz+dp/8) y):=by
 refine⟨gN,λU ar i ag=>?_⟩;unfold Ko;by_cases e:aj*gz+dp/8=U*gz+i/8
 ·obtain⟨rfl,a4⟩:=ard G G e;rw[<-a4,tJ av,eA av];simp only[sM];rw[az _ (Nat.mod_lt _ G)];by_cases en:i=dp
  ·simp[en]
  ·have od:¬i%8=dp%8:=G;simp[en,od]
 ·rw[uM e,if_neg (λh=>e (by rw[h.1,h.2]))]
theorem arf (p g n b':Nat) (l:List UInt8) (U i:Int) (dD:Bool) (w:O) (h:fE w p g n b' l):
 aE aa 65 #[J p 0,r c U,r c i,aA dD] w λe D=>∃i3,e=au (aA (decide (0<=U/\U<n/\0<=i/\i<b')))/\fE D p g n b' i3/\Kept (·=g) w D/\
  ((0<=U/\U<n/\0<=i/\i<b')->Un n ((b'+7)/8) l U.toNat i.toNat dD i3)/\(¬(0<=U/\U<n/\0<=i/\i<b')->i3=l):=by
 have tt:=V.new w #[aA dD] 4 (0,0);have nV:fE (w.alloc (an #[aA dD] 4)) p g n b' l:=⟨h.head.alloc _,h.body.alloc _,h.ne,h.AJ,h.wide,h.rows,h.cr⟩;have hT:=h.body.lt;have nm:=h.head.lt;have uU:Kept (·=g) w (w.alloc (an #[aA dD] 4)):=(Kept.refl _ w).alloc _;by_cases rU:0<=U/\U<n/\0<=i/\i<b'
 ·rw[decide_eq_true rU];obtain⟨aj,rfl⟩:=r6 rU.1;obtain⟨dp,rfl⟩:=r6 rU.2.2.1;have cf:aj<n:=G;have bS:dp<b':=G;have C:=I (aq4 p g n b' aj dp l _ nV cf bS w.heap.size dD tt G);have Uo:=I nV;have Up:=I rU;have Uq:=I uU;clear tt nV rU uU;go_in;go_wp2_with fail;refine C.o.mono ?_;rintro e D ⟨y,av,rfl,az,mT,K⟩;go_wp2;go_ret;refine⟨_,rfl,?_,?_,λ_=>are G av az,λaC=>absurd Up.o aC⟩
  ·exact⟨by rw[gN];exact K.aH Uo.o.head (show¬p=g from h.ne),mT,h.ne,by rw[gN];exact h.AJ,h.wide,h.rows,by rw[gN];exact h.cr⟩
  ·exact Uq.o.trans K
 ·rw[decide_eq_false rU];have C:=I (adh p g n b' l U i (.func (.func 116) #[] #[J w.heap.size 0]) _ nV rU);have Uo:=I nV;have Up:=I rU;have Uq:=I uU;clear tt nV rU uU;go_in;go_wp2_with fail;refine C.o.mono ?_;rintro e D ⟨rfl,rfl⟩;go_wp2;go_ret;exact⟨l,rfl,Uo.o,Uq.o,λaz=>absurd az Up.o,λ_=>rfl⟩
theorem fE.later {w:O} {g:Nat} (h:fE w p g n b' l) (hb:ae w D):fE D p g n b' l:=
 ⟨h.head.aq hb,h.body.aq hb,h.ne,h.AJ,h.wide,h.rows,h.cr⟩
theorem arv {w:O} (b1:(N:Int)=g.nodes) (dE:eq w af g) {x:Nat} (ak:x<N):aE aa 269 #[J af 0,r c x] w λe D=>e=au (aA ad)/\D=w:=by
 have gn:=I (show aE aa 27 #[J af 0] w λe D=>e=au (r c N)/\D=w from by rw[b1];exact l3 af g w dE);have h1:(x:Int)<N:=G;have h0:=ew x;clear dE ak b1;go_in;go_wp2_with fail;refine eO gn.o ?_;go_wp2_with fail;go_ret;exact⟨rfl,rfl⟩
theorem arw (m:Int) (fn:Fn) (cap:Array ac) (w:O):aE aa 271 #[r c m,.func fn #[] cap] w λe D=>e=au (.func (.func 301) #[] #[J w.heap.size 0,J (w.heap.size+1) 0])/\D=(w.alloc (an #[r c m] 3)).alloc (an #[.func fn #[] cap] 90):=by
 have g_:=@hJ aa;go_in;go_wp2_with fail;go_ret;exact⟨rfl,rfl⟩
section
attribute [local go_sem] f'
def qD (F:Nat->Int) (k:Nat):List Int:=(m8 k).map F
theorem T4 (F:Nat->Int) (k:Nat):qD F (k+1)=qD F k++[F k]:=by unfold qD;rw[Io,qc];rfl
theorem T5 (F:Nat->Int) (k:Nat):(qD F k).length=k:=by unfold qD;rw[iT,tK]
theorem ap5 (F:Nat->Int) (K:k<=N):qD F k<+:qD F N:=by
 induction N with
 |zero=>
  obtain rfl:k=0:=G;exact L_
 |succ N d4=>
  by_cases e:k=N+1
  ·rw[e];exact L_
  ·rw[T4];exact(d4 G).trans (LU _ _)
theorem ac0 (p:Option cp) (fn:Fn) (cap:Array ac) (w:O):aE aa 231 #[a6 p,.func fn #[] cap] w λe D=>e=au (.func (.func 282) #[] #[J w.heap.size 0,J (w.heap.size+1) 0])/\
 D=(w.alloc (an #[a6 p] 65)).alloc (an #[.func fn #[] cap] 285):=by
 have g_:=@hJ aa;go_in;go_wp2_with fail;go_ret;exact⟨rfl,rfl⟩
theorem ac1 (m:Nat) (hm:1<=m) (gd gC hc am:Nat) (cJ:O) (bE:Nat) (g:Raw) (N:Nat) (b0:List Int) (bJ:∀u,bQ am cJ u->jq u bE g N b0) (iM:Nat) (jm:∀args w,(gM iM args).run aa w= .ok (.enter iM args) w) (eN:Array ac) (F:Nat->Int)
 (fH:∀u,bQ am cJ u->∀k,k<N->aE aa iM (#[r c k]++eN) u λe D=>e=au (r c (F k))/\ae u D) (bG iu:List Int->O->Prop)
 (ee:∀x Q ai,bG x Q->ae Q ai->bG x ai)
 (ei:∀(pre:List Int) (x:Int) W,bG pre W->pre.length<N->o4 dY (m-1) aa gd (iI x) W λe W'=>
  (e=au (aA ad)/\bG (pre++[x]) W'/\nu am gC hc W W')\/(e=au (aA ao)/\iu (pre++[x]) W'))
 (W:O) (hW:bQ am cJ W) (dC:am<=W.heap.size) (m':V W gC #[J bE 0] 65) (sA:V W hc #[.func (.func iM) #[] eN] 285) (h0:bG [] W):
 ge dY m aa 282 #[.func (.yield gd) #[] #[],J gC 0,J hc 0] W λe W'=>(∃v,e=au v)/\
  ((∃ce,ce=qD F N/\bG ce W')\/(∃pre,pre<+:qD F N/\iu pre W')):=by
 have aV:=m'.cell 0;change W.cell? (B gC 0)=A (J bE 0) at aV;have c9:=I (En (bJ W hW));have sq:=(bJ W hW).jo;have dd:=I fH;have dN:=db hW dC;have wA:=I m';have wQ:=I sA;have hM:=I h0;refine kL aiE rfl trivial ?_ rfl;simp only[ntmps282,g0,fV,gp,gA,g1,gI,gJ,gK,gL,f1,fW];gi_wp2_with fail;refine⟨trivial,?_⟩;refine yH (im.2 c9.o) ?_;gi_wp2_with fail;gi_loopw [7] (λi wr=>∃(k:Nat),k<=N/\i=r c k/\aM (bQ am cJ wr/\am<=wr.heap.size)/\aM (V wr gC #[J bE 0] 65)/\aM (V wr hc #[.func (.func iM) #[] eN] 285)/\aM (bG (qD F k) wr)) (λi _=>N-(cu i).toNat)
 ·exact⟨0,cQ _,rfl,dN,wA,wQ,hM⟩
 ·obtain⟨k,K,rfl,hk,wA,wQ,ky⟩:=hrel;by_cases a0:k<N
  ·have ie:(k:Int)<N:=G;have d1:=wQ.o.cell 0;change wr.cell? (B hc 0)=A (.func (.func iM) #[] eN) at d1;have iZ:=I (dd.o wr hk.o.1 k a0);have lT:=ap5 F (show k+1<=N from a0);rw[T4] at lT;have zF:=I lT;have EH:=I (show(qD F k).length<N by rw[T5];exact a0);gi_wp2_with fail;refine jb iZ.o λaJ a5=>?_;have uq:=db (hk.o.1.trans (a5.mono hk.o.2)) (cM hk.o.2 a5.size);have ft:=I (wA.o.aq a5);have dT:=I (wQ.o.aq a5);have Cv:=ee _ _ _ ky.o a5;obtain⟨fn,tmps,assign,body,az,cf⟩:=ei (qD F k) (F k) aJ Cv EH.o;dsimp only[iI] at az;gi_wp2_with fail;refine cf.mono ?_;rintro e dI (⟨rfl,ho,dv⟩|⟨rfl,og⟩)
   ·have hQ:=db (uq.o.1.trans dv.1) (cM uq.o.2 dv.1.size);have dh:=I (show V dI gC #[J bE 0] 65 (0,0) from dv.2.1.trans ft.o);have g6:=I (show V dI hc #[.func (.func iM) #[] eN] 285 (0,0) from dv.2.2.trans dT.o);have lf:=I (show bG (qD F (k+1)) dI by rw[T4];exact ho);gi_wp2_with fail;go_roundw
    ·exact⟨k+1,G,by go_num,hQ,dh,g6,lf⟩
    ·simp[cu];omega
   ·gi_wp2_with fail;refine gh (mQ rfl _ _ _) rfl ?_;exact⟨⟨_,rfl⟩,.inr ⟨_,zF.o,og⟩⟩
  ·obtain rfl:k=N:=G;gi_wp2;go_end0;exact⟨⟨_,rfl⟩,.inl ⟨_,rfl,ky.o⟩⟩
theorem ap6 (m:Nat) (hm:1<=m) (gC hc am:Nat) (cJ:O) (bE:Nat) (g:Raw) (N:Nat) (b0:List Int) (bJ:∀u,bQ am cJ u->jq u bE g N b0) (iM:Nat) (jm:∀args w,(gM iM args).run aa w= .ok (.enter iM args) w) (eN:Array ac) (F:Nat->Int)
 (fH:∀u,bQ am cJ u->∀k,k<N->aE aa iM (#[r c k]++eN) u λe D=>e=au (r c (F k))/\ae u D)
 (w:O) (hW:bQ am cJ w) (dC:am<=w.heap.size) (m':V w gC #[J bE 0] 65) (sA:V w hc #[.func (.func iM) #[] eN] 285):
 SeqStopsK dY m aa 282 #[J gC 0,J hc 0] iI (nu am gC hc) (λce=>ce=qD F N) (λpre=>pre<+:qD F N) N w:=λgd bG iu W hb ee _ ei h0=>
 ac1 m hm gd gC hc am cJ bE g N b0 bJ iM jm eN F fH bG iu (λx Q ai ak mf=>ee x Q ai T ak ⟨mf.os,mf.tape,mf.output,mf.size,λk K _=>mf.block k K⟩ (λU e=>by cases e)) ei W (hW.trans (hb.mono dC)) (cM dC hb.size) (m'.aq hb) (sA.aq hb) h0
theorem ap7 (m:Nat) (hm:1<=m) (gC hc am:Nat) (cJ:O) (bE:Nat) (g:Raw) (N:Nat) (b0:List Int) (bJ:∀u,bQ am cJ u->jq u bE g N b0) (iM:Nat) (jm:∀args w,(gM iM args).run aa w= .ok (.enter iM args) w) (eN:Array ac) (F:Nat->Int)
 (fH:∀u,bQ am cJ u->∀k,k<N->aE aa iM (#[r c k]++eN) u λe D=>e=au (r c (F k))/\ae u D)
 (w:O) (hW:bQ am cJ w) (dC:am<=w.heap.size) (m':V w gC #[J bE 0] 65) (sA:V w hc #[.func (.func iM) #[] eN] 285):
 tk m 282 #[J gC 0,J hc 0] iI (nu am gC hc) (λce _=>ce=qD F N) N w:=λgd bG W hb ee ei h0=>
 (ac1 m hm gd gC hc am cJ bE g N b0 bJ iM jm eN F fH bG (λ_ _=>False) ee (λpre x W av aw=>by
  obtain⟨fn,tmps,assign,body,az,cf⟩:=ei pre x W av aw;exact⟨fn,tmps,assign,body,az,cf.mono λe W' h=> .inl h⟩) W (hW.trans (hb.mono dC)) (cM dC hb.size) (m'.aq hb) (sA.aq hb) h0).mono (by
  rintro e W' ⟨aK,⟨ce,h1,h2⟩|⟨_,_,h⟩⟩
  ·exact⟨aK,ce,h1,h2⟩
  ·exact h.elim)
theorem nu.T6 {gC hc:Nat} {w:O} (dC:am<=w.heap.size) (hb:gC<w.heap.size/\hc<w.heap.size) (W:O) (l:Nat) (dt:Obj) (aw:w.heap.size<=l):nu am gC hc W (W.putObj l dt):=
 ⟨vx (bx _ _) G,jr G,jr G⟩
theorem ac2 {W ay:O} {z base:Nat} {v ca:ac} {b7:List ac} {tmp:Obj} (Cl:Boxed W z 28 v) (es:W.ownsRow base 2 1 v n b7) (hg:(W.alloc tmp).grownBy ay v.ownBlock) {cs:Array ac} {t:TypeId} {fr:Nat×Nat} (K:V W k cs t fr) (h1:t≠28) (h2:t≠2):(ay.setCell (B z 0) ca).heap[k]? =W.heap[k]? :=by
 have br:k≠z:=λe=>by subst e;exact h1 (er K Cl)
 have a4:A k≠v.ownBlock:=λe=>by
  obtain⟨_,_,aO⟩:=di es e.symm;exact h2 (er K aO)
 exact(d7 _ _ _ _ br).trans ((hg.block k (by have:=K.lt;simp;omega) a4).trans (px _ _ _ K.lt))
structure Kh (w W:O) (z gC hc bE iM:Nat) (eN:Array ac) (v:ac) (aj:List Int):Prop where
 box:Boxed W z 28 v
 row:W.ownsRow z 2 1 v aj.length (aj.flatMap ec)
 below:bQ z w W
 nC:V W gC #[J bE 0] 65
 OC:V W hc #[.func (.func iM) #[] eN] 285
theorem Kh.dy {w Q:O} {z gC hc iM:Nat} {eN:Array ac} {v:ac} {aj:List Int} (h:Kh w Q z gC hc bE iM eN v aj) (hb:∀k cs t fr,V Q k cs t fr->C.heap[k]? =Q.heap[k]?) (aw:bQ z w C):Kh w C z gC hc bE iM eN v aj:=
 ⟨(hb _ _ _ _ h.box).trans h.box,fB h.row λk e=>by obtain⟨_,_,aO⟩:=di h.row e;exact hb _ _ _ _ aO,aw,(hb _ _ _ _ h.nC).trans h.nC,(hb _ _ _ _ h.OC).trans h.OC⟩
theorem ap8 {u:O} (h:jq u bE g N b0) {aN:ac} (hA:cR u aN Q) (pO:Q.length<=1000) (uk:∀a∈Q,0<=a/\a<b0.length) {t:Nat} (ht:t<N) {bk:Nat} (ap:V u bk #[J bE 0] 65) (bl:V u bh #[aN] 41) (cL:V u bF #[r c t] 3) (K:k<N):
 aE aa 232 #[r c k,J bk 0,J bh 0,J bF 0] u λe D=>e=au (r c (jO g.arcs (l4 b0 Q) k t))/\ae u D:=by
 have bP:=I (TH h hA pO uk K ht);obtain⟨dG,fF,rfl,_⟩:=id hA;have ch:=aR ap 0;have gR:=aR bl 0;have gl:=aR cL 0;go_in;go_wp2_with fail;refine dl bP.o λay hb=>?_;have ft:=I hb;go_wp2_with fail;go_ret;exact⟨rfl,ft.o⟩
theorem ap9 (m:Nat) (hm:2<=m) {w:O} (h:jq w bE g N b0) (hA:cR w (E dG Q.length fF) Q) (pO:Q.length<=1000) (uk:∀a∈Q,0<=a/\a<b0.length) {t:Nat} (ht:t<N):
 ge dY m aa 142 #[J bE 0,E dG Q.length fF,r c t] w λe D=>∃v,e=au v/\D.ownsRow w.heap.size 2 1 v N ((qD (λk=>jO g.arcs (l4 b0 Q) k t) N).flatMap ec)/\ae w D:=by
 have h1:1<=m:=G;obtain⟨eP,ag,fL,gi,gt⟩:=m6 NM;have bZ:=jU ag fL gi gt;have sq:=h.jo;obtain⟨bk,el⟩:=al w.heap.size;obtain⟨bh,dW⟩:=al (bk+1);obtain⟨bF,eV⟩:=al (bh+1);obtain⟨z,b5⟩:=al (bF+1);obtain⟨bi,d6⟩:=al ((((w.alloc (an #[J bE 0] 65)).alloc (an #[E dG Q.length fF] 41)).alloc (an #[r c t] 3)).alloc (an #[E T 0 0] 28));have c_:ae w bi:=by rw[d6];exact(((fb).alloc a3 _).alloc (by simp;omega) _).alloc (by simp;omega) _
 have k3:V bi bk #[J bE 0] 65:=by rw[d6,el];exact(((V.new _ _ _ _).alloc _).alloc _).alloc _
 have k4:V bi bh #[E dG Q.length fF] 41:=by
  have k:=V.new (w.alloc (an #[J bE 0] 65)) #[E dG Q.length fF] 41 (0,0);rw[d8] at k;rw[d6,dW,el];exact(k.alloc _).alloc _
 have k5:V bi bF #[r c t] 3:=by
  have k:=V.new ((w.alloc (an #[J bE 0] 65)).alloc (an #[E dG Q.length fF] 41)) #[r c t] 3 (0,0);rw[d8,d8] at k;rw[d6,eV,dW,el];exact k.alloc _
 have k6:V bi z #[E T 0 0] 28:=by
  have k:=V.new (((w.alloc (an #[J bE 0] 65)).alloc (an #[E dG Q.length fF] 41)).alloc (an #[r c t] 3)) #[E T 0 0] 28 (0,0);rw[d8,d8,d8] at k;rw[d6,b5,eV,dW,el];exact k
 have mL:bi.heap.size=z+1:=by rw[d6,b5,eV,dW,el];simp
 obtain⟨cG,fq⟩:=al ((bi.alloc (an #[J bE 0] 65)).alloc (an #[.func (.func 232) #[] #[J bk 0,J bh 0,J bF 0]] 285));have jn:=oQ fq;have Cw:V cG (z+1) #[J bE 0] 65:=by rw[fq,<-mL];exact(V.new _ _ _ _).alloc _
 have Hm:V cG (z+1+1) #[.func (.func 232) #[] #[J bk 0,J bh 0,J bF 0]] 285:=by
  have k:=V.new (bi.alloc (an #[J bE 0] 65)) #[.func (.func 232) #[] #[J bk 0,J bh 0,J bF 0]] 285 (0,0);rw[d8,mL] at k;rw[fq];exact k
 have Cc:cG.heap.size=z+3:=by rw[fq];simp[mL]
 have Ki:∀u,bQ z cG u->jq u bE g N b0/\cR u (E dG Q.length fF) Q/\V u bk #[J bE 0] 65 (0,0)/\V u bh #[E dG Q.length fF] 41 (0,0)/\V u bF #[r c t] 3:=λu Z=>by
  have gQ:ae w u:=(c_.next' jn).trans (Z.mono G);have Cx:∀{b:Nat} {cs:Array ac} {t:TypeId} {fr:Nat×Nat},V bi b cs t fr->b<z->V u b cs t fr:=λ{b cs t fr} hb a0=>(Z.block b a0).trans (hb.aq jn);exact⟨h.a_ (bu.bg gQ),hA.a_ (bu.bg gQ),Cx k3 G,Cx k4 G,Cx k5 G⟩
 have iQ:tk (m-1) 282 #[J (z+1) 0,J (z+1+1) 0] iI (nu z (z+1) (z+1+1)) (λce _=>ce=qD (λk=>jO g.arcs (l4 b0 Q) k t) N) N cG:=
  ap7 (m-1) G (z+1) (z+1+1) z cG bE g N b0 (λu Z=>(Ki u Z).1) _ (fg func232 bq rfl) #[J bk 0,J bh 0,J bF 0] _ (λu Z k K=>by
   obtain⟨q1,q2,bm,cZ,ek⟩:=Ki u Z;exact ap8 q1 q2 pO uk ht bm cZ ek K) cG (bx _ _) G Cw Hm
 have ap_:=I (J1 (h.a_ (bu.bg c_)) (v:=(t:Int)) ⟨G,G⟩);have Kj:=I (ac0 (A (B bE 0)) (.func 232) #[J bk 0,J bh 0,J bF 0] bi);rw[mL] at Kj;have ap':Kh cG cG z (z+1) (z+1+1) bE 232 #[J bk 0,J bh 0,J bF 0] (E T 0 0) []:=⟨k6.aq jn,oG _ _ _ _,bx _ _,Cw,Hm⟩;have aqa:=I ap';have vt:=I iQ;have mM:=I d6;have g8:=I fq;have qE:=I (cv el (cv dW (cv eV (cv b5 (cv mL (cv Cc (c_.next' jn)))))));have ch:=aR k3 0;have gl:=aR k5 0;rw[d6,el] at ch;rw[d6,eV,dW,el] at gl;have g_:=@hJ aa;have GJ:=I k3;clear d6 fq;refine sL func142 rfl trivial ?_ rfl;simp only[ntmps142,g0,fV,gp,gA,g1,gI,gJ,gK,gL,f1,fW];gi_wp2_with fail;rw[<-mM.o,<-el,<-dW,<-eV,<-b5];clear el dW eV b5;refine⟨trivial,?_⟩;refine yH (im.2 ap_.o) ?_;have ch:=aR GJ.o 0;gi_wp2_with fail;refine jb Kj.o λeM h=>?_;rw[<-g8.o] at h;subst eM;gi_wp2_with fail;refine J2 h1 (gf:=282) (lb:=#[J (z+1) 0,J (z+1+1) 0]) rfl (fg aiE bq rfl) vt.o (λa b=>a.trans b) (λW l o dt aw aQ ah=>nu.T6 (w:=cG) G G W l dt aw) (λ_=>rfl)
  (λce Q l o dt az aw aQ ah=>az)
  (λpre W=>∃v,Kh cG W z (z+1) (z+1+1) bE 232 #[J bk 0,J bh 0,J bF 0] v pre)
  (λs Q C ⟨v,h⟩ hb=>⟨v,h.dy (λk cs t fr K=>hb.block k K.lt) (h.below.trans (hb.mono (bI h.below.size)))⟩)
  (λs Q l o dt ⟨v,h⟩ aw aQ ah=>⟨v,h.dy (λk cs t fr K=>rJ aQ ah K) (vx h.below G)⟩)
  ⟨_,aqa.o⟩ ?a1 ?assign ?body ?done
 case assign=>
  intro l x W aT dQ;dsimp only[iI];gi_wp2;exact dQ
 case body=>
  rintro l pre x W ⟨v,gF⟩ a0;have ah:=gF.box.cell;have es:=gF.row;obtain⟨aN,eu,dw,rfl⟩:=es.ic;have hP:=gF.below.size;have xR:=I (show z<=W.heap.size from G);gi_wp2_with(gi_at_builtin;refine FR (F:=_) _ rfl _ _ 28 rfl z 2 eP (r c 0) 1 8 v5 bZ.o.1 bZ.o.2.1 bZ.o.2.2.1 bZ.o.2.2.2 rfl bj _ _ _ rfl (es.alloc _) (B W.heap.size 0) 1 1 [r c x] rfl rfl (FT _ _ _) (by simp[v7]) (by unfold ff;omega) G (by have:=xR.o;simp;omega) ?_;intro ca ay ow kH _ _;obtain⟨qi,nl,rfl⟩:=FU ow;obtain⟨h5,lw,iq,e6,a5⟩:=gF.box.appended bj es xR.o (bY _) ow kH;have HG:=I kH;have pI:=h5.cell;have xS:=h5.frozen)
  have EI:=ac2 gF.box es HG.o gF.nC bj bj (ca:=E (A (B qi 0)) (pre.length+1) nl);have ac3:=ac2 gF.box es HG.o gF.OC bj bj (ca:=E (A (B qi 0)) (pre.length+1) nl);refine⟨e6.from _,⟨a5,EI,ac3⟩,⟨_,lw,?_,gF.below.trans a5,EI.trans gF.nC,ac3.trans gF.OC⟩⟩;rw[gW,w8];simpa [ec] using iq
 case done=>
  rintro aF ce W fh rfl ⟨v,gF⟩ ly;obtain⟨aN,eu,dw,rfl⟩:=gF.row.ic;have ah:=gF.box.cell;have hf:=gF.box.frozen;have c9:=I gF;gi_wp2_with fail;have lw:=c9.o.box.set (E aN eu dw);have mo:=(QN W (B z 0) (E aN eu dw)).same aF _ ly rfl;have iq:(W.setCell (B z 0) (E aN eu dw)).ownsRow z 2 1 (E aN eu dw) _ _:=fB c9.o.row λk e=>by
   obtain⟨_,_,aO⟩:=di c9.o.row e;exact d7 _ _ _ _ (show k≠z fromλa4=>by subst a4;exact absurd (er aO c9.o.box) bj)
  have a5:bQ z cG (W.setCell (B z 0) (E aN eu dw)):=c9.o.below.setCell (p:=B z 0) (bY _) _;refine vc (ai:=z) a3 _ _ ⟨⟨aF,rfl,G,mo,λdS h=>by cases h⟩,trivial⟩ λD eQ fi=>?_;have wR:D.cell? (B z 0)=A (E aN eu dw):=by
   have ap:=aR (eQ.aH (show V (W.setCell (B z 0) (E aN eu dw)) z _ _ _ from lw)) 0;exact ap
  refine⟨E aN eu dw,by simp[results,wR,go_sem],E aN eu dw,rfl,?_,?_⟩
  ·have bl:=fB iq (λk e=>by obtain⟨_,_,aO⟩:=di iq e;exact(eQ.aH aO).trans (show _=_ from aO).symm);rw[T5] at bl;exact Am bl λk K=>cM (bI qE.o) (bl.lt k K).1
  ·exact(qE.o.2.2.2.2.2.2.trans ((a5.trans fi).mono (bI qE.o)))
theorem ac4 {w:O} (h:jq w bE g N b0) (hA:cR w (E dG Q.length fF) Q) (pO:Q.length<=1000) (uk:∀a∈Q,0<=a/\a<b0.length) {t:Nat} (ht:t<N):
 aE aa 142 #[J bE 0,E dG Q.length fF,r c t] w λe D=>∃a R,e=au (E a (y7 g N (l4 b0 Q) t).length R)/\cR D (E a (y7 g N (l4 b0 Q) t).length R) (y7 g N (l4 b0 Q) t)/\ae w D:=by
 refine(im.1 (ap9 4 G h hA pO uk ht)).mono ?_;rintro e D ⟨v,rfl,ar,hb⟩;have ak:=jv (T5 _ _) ar;obtain⟨a,R,aK,_⟩:=id ak;subst aK;exact⟨a,R,rfl,ak,hb⟩
def y8 (am hG:Nat) (Q ai:O):Prop:=bQ am Q ai/\ai.heap[hG]? =Q.heap[hG]?
theorem y8.trans {Q:O} (h:y8 am hG Q ai) (k:y8 am hG ai C):y8 am hG Q C:=⟨h.1.trans k.1,k.2.trans h.2⟩
theorem T7 (cP:Option cp) (n cC:Nat) (w:O):aE aa 181 #[E cP n cC] w λe D=>e=au (.func (.func 258) #[] #[J w.heap.size 0])/\D=w.alloc (an #[E cP n cC] 41):=by
 have g_:=@hJ aa;go_in;go_wp2_with fail;go_ret;exact⟨rfl,rfl⟩
theorem ac5 (m:Nat) (hm:1<=m) (gd hG am:Nat) (cJ:O) (cP:Option cp) (cC:Nat) (L:List Int) (aw:L.length<=1000) (hy:∀u,bQ am cJ u->cR u (E cP L.length cC) L) (bG:List Int->O->Prop)
 (ei:∀(pre:List Int) (x:Int) W,bG pre W->pre++[x]<+:L->o4 dY (m-1) aa gd (iI x) W λe W'=>e=au (aA ad)/\bG (pre++[x]) W'/\y8 am hG W W')
 (W:O) (hW:bQ am cJ W) (dC:am<=W.heap.size) (cd:V W hG #[E cP L.length cC] 41) (h0:bG [] W):
 ge dY m aa 258 #[.func (.yield gd) #[] #[],J hG 0] W λe W'=>(∃v,e=au v)/\bG L W':=by
 have aV:W.cell? (B hG 0)=A (E cP L.length cC):=cd.cell 0;have e7:=I hy;have dN:=db hW dC;have bP:=I cd;have hM:=I h0;clear hy hW cd h0 dC;refine kL aiF rfl trivial ?_ rfl;simp only[ntmps258,g0,fV,gp,gA,g1,gI,gJ,gK,gL,f1,fW];gi_wp2_with fail;clear aV;gi_loopw [7] (λi wr=>∃(k:Nat),k<=L.length/\i=r c k/\aM (bQ am cJ wr/\am<=wr.heap.size)/\aM (V wr hG #[E cP L.length cC] 41)/\aM (bG (L.take k) wr)) (λi _=>L.length-(cu i).toNat)
 ·exact⟨0,cQ _,rfl,dN,bP,hM⟩
 ·obtain⟨k,K,rfl,hk,rb,ky⟩:=hrel;by_cases a0:k<L.length
  ·have ie:(k:Int)<L.length:=G;have k0:=ew k;obtain⟨kC,cx,rfl,d⟩:=(e7.o wr hk.o.1).at k a0;obtain⟨x,ak⟩:=al (L[k]);rw[<-ak] at d;have sk:L.take k++[x]=L.take (k+1):=by rw[ak];exact aiG a0
   have lT:L.take k++[x]<+:L:=by rw[sk];exact Qn _ _
   obtain⟨fn,tmps,assign,body,az,cf⟩:=ei (L.take k) x wr ky.o lT;dsimp only[iI] at az;have eW:=I sk;clear lT ak sk;gi_wp2_with fail;refine cf.mono ?_;rintro e dI ⟨rfl,ho,dv⟩;have hQ:=db (hk.o.1.trans dv.1) (cM hk.o.2 dv.1.size);have dh:=I (show V dI hG _ 41 (0,0) from dv.2.trans rb.o);rw[eW.o] at ho;have lf:=I ho;clear dv ho;gi_wp2_with fail;go_roundw
   ·exact⟨k+1,G,by go_num,hQ,dh,lf⟩
   ·simp[cu];omega
  ·obtain rfl:k=L.length:=G;gi_wp2;go_end0;exact⟨⟨_,rfl⟩,by have:=ky.o;rwa[v3] at this⟩
theorem aqb {w:O} {cP:Option cp} {cC:Nat} (hL:cR w (E cP L.length cC) L) (aw:L.length<=1000) (cd:V w hG #[E cP L.length cC] 41):
 aE aa 23 #[.func (.func 258) #[] #[J hG 0]] w λe D=>∃v,e=au v/\D.ownsRow w.heap.size 3 1 v L.length (L.flatMap ec)/\Kept (λk=>k=hG) w D:=by
 refine im.1 (acp 5 G _ _ L G (y8 w.heap.size hG) hG w cd.lt ?_ (fg aiF bq rfl) (λa b=>a.trans b) λQ ai hb aB=>⟨hb.mono (bY _),hb.block _ cd.lt⟩);intro l bG W hb _ _ ei h0;exact ac5 3 G l hG w.heap.size w cP cC L aw (λu Z=>hL.a_ (bu.bg Z)) bG ei W hb hb.size (cd.aq hb) h0
theorem aqc (f:Fn) (eN:Array ac) (w:O):aE aa 313 #[E T 0 0,r c 0,r c 0,.func f #[] eN] w λe D=>e=au (b8 #[])/\D=w:=by
 go_in;go_wp2_with fail;go_loopw [8] (λx wr=>x=r c 1/\wr=w) (λ_ _=>0)
 ·exact⟨rfl,rfl⟩
 ·obtain⟨rfl,rfl⟩:=hrel;go_wp2_with fail;go_end0;exact⟨rfl,rfl⟩
theorem aqd (Mo:Int) (f:Fn) (eN:Array ac) (w:O):aE aa 299 #[E T 0 0,r c 0,r c 0,r c Mo,.func f #[] eN] w λe D=>e=au (b8 #[])/\D=w:=by
 go_in;go_wp2_with fail;go_loopw [1,2] (λx y wr=>x=r c 0/\y=r c 0/\wr=w) (λ_ _ _=>0)
 ·exact⟨rfl,rfl,rfl⟩
 ·obtain⟨rfl,rfl,rfl⟩:=hrel;go_wp2_with fail;refine(aqc f eN _).mono ?_;rintro e ay ⟨rfl,rfl⟩;go_wp2_with fail;refine gh (mQ rfl _ _ _) rfl ?_;exact⟨rfl,rfl⟩
theorem aqe (f:Fn) (eN:Array ac) (w:O):aE aa 264 #[E T 0 0,.func f #[] eN] w λe D=>e=au (b8 #[])/\D=w:=by
 have fG:=I (aco 0 G w);go_in;go_wp2_with fail;refine fG.o.mono ?_;rintro e aJ ⟨⟨U,rfl⟩,a4⟩;subst a4;go_wp2_with fail;refine(aqd U f eN _).mono ?_;rintro e ay ⟨rfl,rfl⟩;go_wp2_with fail;go_end0;exact⟨rfl,rfl⟩
theorem aqf (hB:Int->Prop) {w:O} {cP:Option cp} {cC:Nat} (hL:cR w (E cP L.length cC) L) (aw:L.length<=12) (dj:∀x∈L,hB x) (cd:V w hG #[E cP L.length cC] 41) fw (jm:∀args w,(gM fw args).run aa w= .ok (.enter fw args) w) (eN:Array ac)
 (ah:∀u,Kept (λk=>k=hG) w u->∀x y,hB x->hB y->aE aa fw (#[r c x,r c y]++eN) u λe D=>∃U,e=au (r c U)/\ae u D):
 aE aa 192 #[.func (.func 258) #[] #[J hG 0],.func (.func fw) #[] eN] w λe D=>∃a R M,e=au (E a L.length R)/\M.length=L.length/\(∀x∈M,hB x)/\cR D (E a L.length R) M/\(∀b,(Value.slice a L.length R).ownBlock=A b->w.heap.size<=b)/\Kept (λk=>k=hG) w D:=by
 have cS:=I (aqb hL G cd);have H:=db dj ah;have bP:=I cd.lt;clear hL dj cd ah;go_in;go_wp2_with fail;refine cS.o.mono ?_;rintro e ay ⟨v,rfl,ar,K⟩;have cw:=I K;clear K cS;rcases id ar.2 with⟨aK,h0⟩|⟨g,cap,cur,aK,_⟩
 ·subst aK;have e0:L=[]:=Qx.1 h0;clear ar h0;go_wp2_with fail;refine dl (aqe _ _ _) λaJ a4=>?_;subst a4;go_wp2_with fail;go_ret;rw[e0];exact⟨T,0,[],rfl,rfl,a3,⟨T,0,rfl,bY _,cQ _,λ_ h=>absurd h (Dh _)⟩,(λb e=>by cases e),cw.o⟩
 ·subst aK;have T8:w.heap.size<=g:=bI ((ar.lt g rfl).1);have rG:hG<w.heap.size:=bP.o;have cj:=I (ao5 hB w.heap.size g L.length cap aw fw jm eN ay ⟨L,rfl,H.o.1,ar⟩ (λu Z x y ak az=>H.o.2 u ⟨Z.os.trans cw.o.os,Z.tape.trans cw.o.tape,Z.output.trans cw.o.output,cM cw.o.size Z.size,λk K b9=>(Z.block k (jP K cw.o.size) (λe=>by have e:k=g:=e;omega)).trans (cw.o.block k K b9)⟩ x y ak az));have HG:=I T8;clear ar T8 rG;go_wp2_with fail;refine cj.o.mono ?_;rintro e aJ ⟨rfl,⟨aj,xA,ac6,ac7⟩,e6⟩;have cW:=jU xA ac6 ac7 e6;clear xA ac6 ac7 e6 cj;go_wp2_with fail;go_ret;obtain⟨q1,q2,bm,cZ⟩:=cW.o;have ak:=jv q1 bm;have T8:=HG.o;exact⟨_,_,aj,rfl,q1,q2,ak,(λb e=>by(have a4:g=b:=by simpa [Value.ownBlock] using e);omega),cZ.os.trans cw.o.os,cZ.tape.trans cw.o.tape,cZ.output.trans cw.o.output,cM cw.o.size cZ.size,λk K b9=>(cZ.block k (jP K cw.o.size) (λe=>by have e:k=g:=e;omega)).trans (cw.o.block k K b9)⟩
theorem aqw (k:Nat) (p:Option cp) (fn:Fn) (cap:Array ac) (w:O):
 ge dY k aa 199 #[a6 p,.func fn #[] cap] w λe D=>e=au (.func (.func 268) #[] #[J w.heap.size 0,J (w.heap.size+1) 0])/\
  D=(w.alloc (an #[a6 p] 66)).alloc (an #[.func fn #[] cap] 90):=by
 refine kL func199 rfl trivial ?_ rfl;simp only[ntmps199,g0,fV,gp,gA,g1,gI,gJ,gK,gL,f1,fW];gi_wp2;go_ret;exact⟨rfl,rfl⟩
theorem aqx (m:Nat) (hm:1<=m) (gd gC hc am:Nat) (cJ:O) (p:Nat) (L:List Int) (many:Int) (hL:L.length<=1000000) (bJ:∀u,bQ am cJ u->mw u p L many) (q0 q1 q2 bm:Nat) (h:Nat->Bool)
 (fH:∀u,bQ am cJ u->∀k,k<L.length->aE aa 200 #[r c k,J q0 0,J q1 0,J q2 0,J bm 0] u λe D=>e=au (aA (h k))/\ae u D) (bG iu:List Int->O->Prop)
 (ee:∀x Q ai,bG x Q->ae Q ai->bG x ai)
 (ei:∀(pre:List Int) (x:Int) W,bG pre W->pre.length<L.length->o4 dY (m-1) aa gd (iI x) W λe W'=>
  (e=au (aA ad)/\bG (pre++[x]) W'/\nu am gC hc W W')\/(e=au (aA ao)/\iu (pre++[x]) W'))
 (W:O) (hW:bQ am cJ W) (dC:am<=W.heap.size) (m':V W gC #[J p 0] 66) (sA:V W hc #[.func (.func 200) #[] #[J q0 0,J q1 0,J q2 0,J bm 0]] 90) (h0:bG [] W):
 ge dY m aa 268 #[.func (.yield gd) #[] #[],J gC 0,J hc 0] W λe W'=>(∃v,e=au v)/\
  ((∃ce,ce=f0 h L.length/\bG ce W')\/(∃pre,pre<+:f0 h L.length/\iu pre W')):=by
 have aV:=m'.cell 0;change W.cell? (B gC 0)=A (J p 0) at aV;obtain⟨a,R,p0,p1,aB⟩:=(bJ W hW).cells;have cS:=I bJ;have dd:=I fH;have dN:=db hW dC;have wA:=I m';have wQ:=I sA;have hM:=I h0;clear bJ fH hW m' sA h0 aB dC p1;refine kL aBS rfl trivial ?_ rfl;simp only[ntmps268,g0,fV,gp,gA,g1,gI,gJ,gK,gL,f1,fW];gi_wp2_with fail;clear aV p0;gi_loopw [12] (λi wr=>∃(k:Nat),k<=L.length/\i=r c k/\aM (bQ am cJ wr/\am<=wr.heap.size)/\aM (V wr gC #[J p 0] 66)/\aM (V wr hc #[.func (.func 200) #[] #[J q0 0,J q1 0,J q2 0,J bm 0]] 90)/\aM (bG (f0 h k) wr)) (λi _=>L.length-(cu i).toNat)
 ·exact⟨0,cQ _,rfl,dN,wA,wQ,hM⟩
 ·obtain⟨k,K,rfl,hk,wA,wQ,ky⟩:=hrel;by_cases a0:k<L.length
  ·have ie:(k:Int)<L.length:=G;have d1:=wQ.o.cell 0;change wr.cell? (B hc 0)=A (.func (.func 200) #[] #[J q0 0,J q1 0,J q2 0,J bm 0]) at d1;have iZ:=I (dd.o wr hk.o.1 k a0);have fY:=wu h k;have lT:=ami h (show k+1<=L.length from a0);have sB:=D5 h k;cases aO:h k with
   |false=>
    rw[aO] at fY iZ;rw[if_neg bj,yn] at fY;have oJ:=I fY;clear fY lT sB aO;gi_wp2_with fail;refine jb iZ.o λaJ a5=>?_;have uq:=db (hk.o.1.trans (a5.mono hk.o.2)) (cM hk.o.2 a5.size);have ft:=I (wA.o.aq a5);have dT:=I (wQ.o.aq a5);have AH:=I (show bG (f0 h (k+1)) aJ by rw[oJ.o];exact ee _ _ _ ky.o a5);clear a5 iZ d1;gi_wp2_with fail;refine⟨λ_ h=>(by cases h),?_⟩;gi_wp2_with fail;go_roundw
    ·exact⟨k+1,G,by go_num,uq,ft,dT,AH⟩
    ·simp[cu];omega
   |true=>
    rw[aO] at fY iZ;rw[if_pos rfl] at fY;rw[fY] at lT;have oJ:=I fY;have zF:=I lT;have EH:=I (show(f0 h k).length<L.length by omega);clear fY lT sB aO;gi_wp2_with fail;refine jb iZ.o λaJ a5=>?_;have uq:=db (hk.o.1.trans (a5.mono hk.o.2)) (cM hk.o.2 a5.size);have ft:=I (wA.o.aq a5);have dT:=I (wQ.o.aq a5);have Cv:=ee _ _ _ ky.o a5;obtain⟨fn,tmps,assign,body,az,cf⟩:=ei (f0 h k) (k:Int) aJ Cv EH.o;dsimp only[iI] at az;clear a5 iZ d1 Cv;gi_wp2_with fail;refine cf.mono ?_;rintro e dI (⟨rfl,ho,dv⟩|⟨rfl,og⟩)
    ·have hQ:=db (uq.o.1.trans dv.1) (cM uq.o.2 dv.1.size);have dh:=I (show V dI gC #[J p 0] 66 (0,0) from dv.2.1.trans ft.o);have g6:=I (show V dI hc #[.func (.func 200) #[] #[J q0 0,J q1 0,J q2 0,J bm 0]] 90 (0,0) from dv.2.2.trans dT.o);have lf:=I (show bG (f0 h (k+1)) dI by rw[oJ.o];exact ho);clear dv ho;gi_wp2_with fail;go_roundw
     ·exact⟨k+1,G,by go_num,hQ,dh,g6,lf⟩
     ·simp[cu];omega
    ·gi_wp2_with fail;refine gh (mQ rfl _ _ _) rfl ?_;exact⟨⟨_,rfl⟩,.inr ⟨_,zF.o,og⟩⟩
  ·obtain rfl:k=L.length:=G;gi_wp2;go_end0;exact⟨⟨_,rfl⟩,.inl ⟨_,rfl,ky.o⟩⟩
theorem aqy (m:Nat) (hm:1<=m) (gC hc am:Nat) (cJ:O) (p:Nat) (L:List Int) (many:Int) (hL:L.length<=1000000) (bJ:∀u,bQ am cJ u->mw u p L many) (q0 q1 q2 bm:Nat) (h:Nat->Bool)
 (fH:∀u,bQ am cJ u->∀k,k<L.length->aE aa 200 #[r c k,J q0 0,J q1 0,J q2 0,J bm 0] u λe D=>e=au (aA (h k))/\ae u D)
 (w:O) (hW:bQ am cJ w) (dC:am<=w.heap.size) (m':V w gC #[J p 0] 66) (sA:V w hc #[.func (.func 200) #[] #[J q0 0,J q1 0,J q2 0,J bm 0]] 90):
 SeqStopsK dY m aa 268 #[J gC 0,J hc 0] iI (nu am gC hc) (λce=>ce=f0 h L.length) (λpre=>pre<+:f0 h L.length) L.length w:=λgd bG iu W hb ee _ ei h0=>
 aqx m hm gd gC hc am cJ p L many hL bJ q0 q1 q2 bm h fH bG iu (λx Q ai ak mf=>ee x Q ai T ak ⟨mf.os,mf.tape,mf.output,mf.size,λk K _=>mf.block k K⟩ (λU e=>by cases e)) ei W (hW.trans (hb.mono dC)) (cM dC hb.size) (m'.aq hb) (sA.aq hb) h0
structure Uc (bH W:O) (ai:Nat) (v:ac) (aj:List Int):Prop where
 box:Boxed W ai 41 v
 row:W.ownsRow ai 3 1 v aj.length (aj.flatMap ec)
 below:bQ ai bH W
theorem aqz {ai:Nat} (Ae:ai<=bH.heap.size) (dC:ai<=n):OwnFrom n (λ(aj:List Int) W=>∃v,Uc bH W ai v aj):=λs Q C row aB hg ar=>by
 obtain⟨v,h⟩:=aB;have b9:∀k cs t fr,V Q k cs t fr->C.heap[k]? =Q.heap[k]? :=λk cs t fr hb=>hg.block k hb.lt (λe=>by
  obtain⟨_,o,aQ,ah⟩:=ar _ e.symm;rw[show Q.heap[k]? =_ from hb] at aQ;obtain rfl:=eT aQ;cases ah)
 exact⟨v,(b9 _ _ _ _ h.box).trans h.box,fB h.row (λk e=>by obtain⟨_,_,aO⟩:=di h.row e;exact b9 _ _ _ _ aO),h.below.grown hg (cM Ae h.below.size) (λk e=>cM dC (ar k e).1)⟩
theorem aqA (m:Nat) (hm:2<=m) (gf:Nat) (lb:Array ac) (rI:List Int) (N:Nat) (b1:N<=1000000) (eb:O->O->Prop) (w:O)
 (iQ:SeqStopsK dY (m-1) aa gf lb iI eb (λce=>ce=rI) (λ_=>True) N w) (jR:∀args w,(gM gf args).run aa w= .ok (.enter gf args) w)
 (lD:∀{Q ai C:O},eb Q ai->eb ai C->eb Q C) (ph:∀Q ai,bQ w.heap.size Q ai->w.heap.size<=Q.heap.size->eb Q ai):
 ge dY m aa 66 #[E T 0 0,.func (.func gf) #[] lb] w λe W'=>∃v,e=au v/\W'.ownsRow w.heap.size 3 1 v rI.length (rI.flatMap ec)/\bQ w.heap.size w W':=by
 have h1:1<=m:=G;obtain⟨eP,ag,fL,gi,gt⟩:=m6 wn;have bZ:=jU ag fL gi gt;clear ag fL gi gt;refine sL func66 rfl trivial ?_ rfl;simp only[ntmps66,g0,fV,gp,gA,g1,gI,gJ,gK,gL,f1,fW];obtain⟨z,b5⟩:=al w.heap.size;obtain⟨fQ,jy⟩:=al (w.alloc (an #[E T 0 0] 41));have cT:=dx jy;have k2:=eK jy b5;have kR:fQ.heap.size=z+1:=by rw[jy];simp[b5]
 have nX:=I jy;have fR:=I b5;have uj:Uc fQ fQ z (E T 0 0) []:=⟨k2,oG _ _ _ _,bx _ _⟩;have AA:=I uj;rw[<-b5] at ph cT;have hd:=I cT;clear jy k2 uj cT;gi_wp2_with fail;rw[<-nX.o,<-b5];clear b5;refine Ma (F:=dY) rfl h1 (gf:=gf) (lb:=lb) rfl trivial jR
  iQ lD (λW l o dt aw aQ ah wt=>ph _ _ (L' (w:=fQ) G W l o dt aw aQ ah wt) (bI ((gU.1 aQ).1))) (by rw[<-fR.o];exact hd.o) (λ_=>rfl)
  (λpre W=>∃v,Uc fQ W z v pre)
  (λ_ _ _=>False)
  (aqz G G)
  (λ_ _ _ _ _ aB _ _=>aB)
  ⟨_,AA.o⟩
  ?a1 ?assign ?body ?done ?stop
 case assign=>
  intro l x W aT dQ;dsimp only[iI];gi_wp2;exact dQ
 case body=>
  rintro l pre x W ⟨v,b1⟩ a0;have ah:=b1.box.cell;have es:=b1.row;obtain⟨aN,eu,dw,rfl⟩:=es.ic;have hP:=b1.below.size;gi_wp2_with(gi_at_builtin;refine FR (F:=_) _ rfl _ _ 41 rfl z 3 eP (r c 0) 1 8 nG bZ.o.1 bZ.o.2.1 bZ.o.2.2.1 bZ.o.2.2.2 rfl bj _ _ _ rfl (es.alloc _) (B W.heap.size 0) 1 1 [r c x] rfl rfl (FT _ _ _) (by simp[v7]) (by unfold ff;omega) G (by simp;omega) ?_;intro ca ay ow kH _ _;obtain⟨qi,nl,rfl⟩:=FU ow;obtain⟨h5,lw,iq,e6,a5⟩:=b1.box.appended bj es G (bY _) ow kH;have pI:=h5.cell;have xS:=h5.frozen)
  refine⟨e6.from _,ph _ _ a5 G,⟨_,lw,?_,b1.below.trans a5⟩⟩;rw[gW,w8];simpa [ec] using iq
 case done=>
  rintro aF ce W fh rfl ⟨v,b1⟩ ly;obtain⟨aN,eu,dw,rfl⟩:=b1.row.ic;have ah:=b1.box.cell;have c9:=I b1;clear b1;gi_wp2_with fail;rw[<-fR.o];refine DC (ai:=z) a3 _ _ ⟨⟨aF,rfl,G,ly,λdS h=>by cases h⟩,trivial⟩ (hd.o.trans c9.o.below) λD eQ fi=>?_;exact⟨_,Md rfl _ _ _,_,rfl,fB c9.o.row (λk e=>by obtain⟨_,_,aO⟩:=di c9.o.row e;exact(eQ.aH aO).trans (show _=_ from aO).symm),fi⟩
 case stop=>
  rintro aF R pre W _ _ h _;exact h.elim
theorem adc (m:Nat) (hm:3<=m) (gf:Nat) (lb:Array ac) (rI:List Int) (N:Nat) (b1:N<=1000000) (eb:O->O->Prop) (w:O)
 (iQ:SeqStopsK dY (m-1-1) aa gf lb iI eb (λce=>ce=rI) (λ_=>True) N w) (jR:∀args w,(gM gf args).run aa w= .ok (.enter gf args) w)
 (lD:∀{Q ai C:O},eb Q ai->eb ai C->eb Q C) (ph:∀Q ai,bQ w.heap.size Q ai->w.heap.size<=Q.heap.size->eb Q ai):
 ge dY m aa 23 #[.func (.func gf) #[] lb] w λe W'=>∃v,e=au v/\W'.ownsRow w.heap.size 3 1 v rI.length (rI.flatMap ec)/\bQ w.heap.size w W':=by
 have cS:=I (aqA (m-1) G gf lb rI N b1 eb w iQ jR lD ph);clear iQ jR lD ph;refine kL func23 rfl trivial ?_ rfl;simp only[ntmps23,g0,fV,gp,gA,g1,gI,gJ,gK,gL,f1,fW];gi_wp2_with fail;refine⟨trivial,?_⟩;refine⟨λ_=>G,?_⟩;refine cS.o.mono ?_;rintro e aJ ⟨v,rfl,aQ,hb⟩;have H:=db aQ hb;clear aQ hb;gi_wp2_with fail;go_ret;exact⟨v,rfl,H.o.1,H.o.2⟩
def EL (g:Raw) (L:List Int) (R:Int) (i:Int):Bool:=decide (rT L ((kE g i).getD (0,0,0)).1≠R)
theorem aqB (q1 q2 bm n p:Nat) (g:Raw) (L:List Int) (many R i:Int) (u:O) (h1:V u q1 #[J n 0] 62) (h2:V u q2 #[J p 0] 66) (ap:V u bm #[r c R] 3) (b1:eq u n g) (bJ:mw u p L many)
 (ag:0<=((kE g i).getD (0,0,0)).1/\((kE g i).getD (0,0,0)).1<L.length):
 aE aa 198 #[r c i,J q1 0,J q2 0,J bm 0] u λe D=>e=au (aA (EL g L R i))/\bQ u.heap.size u D:=by
 have aV:=aR h1 0;have tq:=Ub n g i u b1;unfold EL;obtain⟨a,ha⟩:=al ((kE g i).getD (0,0,0));rw[<-ha] at tq ag⊢;obtain⟨c0,cI,dB⟩:=a;dsimp only at ag⊢;obtain⟨q,aO⟩:=al ((kE g i).isSome);rw[<-aO] at tq;change aE _ _ _ _ (λe D=>e=au (b8 #[.agg #[r c c0,r c cI,r c dB],aA q])/\bQ u.heap.size u D) at tq;have Hp:=I tq;have fC:=I h2;have hQ:=I ap;have cS:=I bJ;have ade:=I ag;clear tq ha aO h1 h2 ap bJ ag b1;go_in;go_wp2_with fail;refine dl Hp.o λcz hb=>?_;obtain⟨hI,kW⟩:=al (cz.alloc (an #[r c c0,r c cI,r c dB] 57));have ck:=dx kW;have hj:=hb.next' ck;have k6:=eK kW rfl;have d0:=aR k6 0;have d2:=aR (fC.o.aq hj) 0;have qd:=aR (hQ.o.aq hj) 0;obtain⟨dG,fF,e0,_,aB⟩:=(cS.o.a_ (bu.bg hj)).cells;obtain⟨k,K⟩:=r6 ade.o.1;have tr:k<L.length:=bI ade.o.2;subst K;obtain⟨aq,xi,rfl,g2⟩:=aB.at k tr;obtain⟨x,ak⟩:=al (L[k]);have he:rT L k=x:=by unfold rT;rw[if_pos ⟨G,G⟩,ko,eA tr,ak];rfl
 rw[<-ak] at g2;have a9:decide (x≠R)=!(x==R):=by by_cases h:x=R<;>simp[h]
 have cH:=db he a9;have js:=ew k;have mC:(k:Int)<L.length:=G;rw[kW] at d0 d2 qd e0 g2;have dh:=I hj;have l5:=I kW;clear hb ck hj k6 aB ak he a9 kW Hp aV;go_wp2_with fail
 go_quiet (fail)
 go_wp2_with fail;go_ret;rw[<-l5.o,cH.o.1,cH.o.2];exact⟨rfl,below_drewN dh.o _⟩
theorem aqC (q1 q2 bm:Nat) (aN:ac) (Q:List Int) (h:Int->Bool) (w:O) (ha:cR w aN Q) (hA:Q.length<=1000000000)
 (fH:∀u,bQ w.heap.size w u->∀x∈Q,aE aa 198 #[r c x,J q1 0,J q2 0,J bm 0] u λe D=>e=au (aA (h x))/\bQ u.heap.size u D):
 aE aa 161 #[aN,.func (.func 198) #[] #[J q1 0,J q2 0,J bm 0]] w λe D=>(∃i,e=au (r c i)/\((0<=i/\Q.any h=ad)\/(i=-1/\Q.any h=ao)))/\bQ w.heap.size w D:=by
 have dM:=I ha;have dd:=I fH;obtain⟨a,ga,rfl,_⟩:=ha;clear fH;go_in;go_wp2_with fail;go_loopw [8] (λi wr=>∃k:Nat,i=r c k/\aM (k<=Q.length/\(Q.take k).any h=ao/\bQ w.heap.size w wr)) (λi _=>Q.length-(cu i).toNat)
 ·exact⟨0,rfl,I ⟨cQ _,rfl,bx _ _⟩⟩
 ·obtain⟨k,rfl,bZ⟩:=hrel;by_cases a0:k<Q.length
  ·have ie:(k:Int)<Q.length:=G;have k0:=ew k;obtain⟨kC,cx,rfl,d⟩:=(dM.o.a_ (bu.bg bZ.o.2.2)).at k a0;obtain⟨x,ak⟩:=al (Q[k]);have Hq:=dd.o wr bZ.o.2.2 x (by rw[ak];exact gB a0);have sk:(Q.take (k+1)).any h=((Q.take k).any h||h x):=by rw[uI a0,List.any_append,ak];simp
   have Ud:h x=ad->Q.any h=ad:=λe=>ail.2 ⟨x,by rw[ak];exact gB a0,e⟩;rw[<-ak] at d;obtain⟨b,hb⟩:=al (h x);rw[<-hb] at Hq sk Ud;have cS:=I Hq;have eW:=I sk;have aqD:=I Ud;clear Hq sk Ud ak hb;cases b with
   |true=>
    go_wp2_with fail;refine dl cS.o λaJ hb=>?_;have bP:=I (bZ.o.2.2.next' hb);clear hb;go_wp2_with fail;go_ret;exact⟨⟨_,rfl,.inl ⟨k0,aqD.o trivial⟩⟩,bP.o⟩
   |false=>
    go_wp2_with fail;refine dl cS.o λaJ hb=>?_;have z6:=I (show k+1<=Q.length/\(Q.take (k+1)).any h=ao/\bQ w.heap.size w aJ from⟨a0,by rw[eW.o,bZ.o.2.1];rfl,bZ.o.2.2.next' hb⟩);clear hb;go_wp2_with fail;go_roundw
    ·exact⟨k+1,by go_num,z6⟩
    ·simp[cu];omega
  ·obtain rfl:k=Q.length:=bI bZ.o.1;have h2:=bZ.o.2.1;rw[v3] at h2;have fC:=I h2;clear h2;go_wp2_with fail;go_ret;exact⟨⟨_,rfl,.inr ⟨rfl,fC.o⟩⟩,bZ.o.2.2⟩
theorem aqE (q1 q2 bm:Nat) (aN:ac) (Q:List Int) (h:Int->Bool) (w:O) (ha:cR w aN Q) (hA:Q.length<=1000000000)
 (fH:∀u,bQ w.heap.size w u->∀x∈Q,aE aa 198 #[r c x,J q1 0,J q2 0,J bm 0] u λe D=>e=au (aA (h x))/\bQ u.heap.size u D):
 aE aa 89 #[aN,.func (.func 198) #[] #[J q1 0,J q2 0,J bm 0]] w λe D=>e=au (aA (Q.any h))/\bQ w.heap.size w D:=by
 have cS:=I (aqC q1 q2 bm aN Q h w ha hA fH);obtain⟨a,ga,rfl,_⟩:=ha;clear fH;go_in;go_wp2_with fail;refine cS.o.mono ?_;rintro e aJ ⟨⟨i,rfl,ag⟩,hb⟩;have bP:=I hb;clear hb;rcases ag with⟨h0,h1⟩|⟨rfl,h1⟩
 ·have gX:=I h1;clear h1;go_wp2_with fail;go_ret;refine⟨?_,bP.o⟩;have:decide (0<=i)=ad:=decide_eq_true h0;rw[gX.o]
  simp_all
 ·have gX:=I h1;clear h1;go_wp2_with fail;go_ret;rw[gX.o];exact⟨rfl,bP.o⟩
theorem aqF {aD:bd->Int} (h:g.arcs.length<=1000000):∀U∈rowsOf aD g.arcs g.nodes.toNat,U.length<=1000000000000:=λU ar=>by
 unfold rowsOf at ar;obtain⟨v,_,rfl⟩:=jB.1 ar;have:=BK aD g.arcs v g.arcs.length;omega
theorem aqG {aD:bd->Int} (h:g.arcs.length<=1000000) (K:(k:Int)<g.nodes):(lj aD g k).length<=1000000:=by
 rw[Jy aD K];have:=BK aD g.arcs k g.arcs.length;omega
def EM (g:Raw) (L:List Int) (R:Int) (k:Nat):Bool:=decide (L[k]? =A R)&&(lj mm g k).any (EL g L R)
def Cy (g:Raw) (L:List Int) (R:Int):List Int:=f0 (EM g L R) L.length
theorem aqH (bK:g.e2) (hL:(L.length:Int)=g.nodes) (K:k<L.length):∀i∈lj mm g k,0<=((kE g i).getD (0,0,0)).1/\((kE g i).getD (0,0,0)).1<L.length:=λi ag=>by
 obtain⟨n,rfl,aC,_⟩:=(B_ mm G).1 ag;have e:kE g n=A g.arcs[n]:=by unfold kE;rw[if_pos ⟨G,G⟩,ko,eA aC]
 rw[e];have:=(bK.aS _ (gB aC)).1;show 0<=g.arcs[n].1/\g.arcs[n].1<_;omega
structure Hr (u:O) (q1 q2 bm cZ n p:Nat) (g:Raw) (L:List Int) (many R:Int):Prop where
 one:V u q1 #[J p 0] 66
 two:V u q2 #[r c R] 3
 three:V u bm #[J n 0] 62
 four:V u cZ #[.func (.func 198) #[] #[J bm 0,J q1 0,J q2 0]] 90
 kS:eq u n g
 cells:mw u p L many
theorem Hr.a_ {u ed:O} {q1 q2 bm cZ:Nat} (h:Hr u q1 q2 bm cZ n p g L many R) (K:bu u ed):Hr ed q1 q2 bm cZ n p g L many R:=
 ⟨K.aH h.one,K.aH h.two,K.aH h.three,K.aH h.four,h.kS.a_ K,h.cells.a_ K⟩
theorem aqI {i:Int} {w:O} (h:eq w n g) (aw:g.arcs.length<=1000000):aE aa 93 #[J n 0,r c i] w λe D=>∃ca,e=au ca/\D.ownsRow w.heap.size 3 1 ca (lj mm g i).length ((lj mm g i).flatMap ec)/\ae w D:=SX n g i w h (aqF aw)
theorem aqJ {q1 q2 bm cZ:Nat} (k:Nat) (bK:g.e2) (hL:(L.length:Int)=g.nodes) (nV:g.arcs.length<=1000000) (K:k<L.length) {w:O} (h:Hr w q1 q2 bm cZ n p g L many R) {v:ac} (aK:cR w v (lj mm g k)):
 aE aa 89 #[v,.func (.func 198) #[] #[J bm 0,J q1 0,J q2 0]] w λe D=>e=au (aA ((lj mm g k).any (EL g L R)))/\ae w D:=
 aqE bm q1 q2 v _ (EL g L R) w aK (by have:=aqG (aD:=mm) nV (show(k:Int)<g.nodes by omega);omega) λu Z x ak=>by
  have hh:=h.a_ (bu.bg Z);exact aqB bm q1 q2 n p g L many R x u hh.three hh.one hh.two hh.kS hh.cells (aqH bK hL K x ak)
theorem aqK (q1 q2 bm cZ n p:Nat) (g:Raw) (L:List Int) (many R:Int) (k:Nat) (u:O) (bK:g.e2) (Km:(L.length:Int)=g.nodes) (nV:g.arcs.length<=1000000) (K:k<L.length) (h:Hr u q1 q2 bm cZ n p g L many R):
 aE aa 200 #[r c k,J q1 0,J q2 0,J bm 0,J cZ 0] u λe D=>e=au (aA (EM g L R k))/\ae u D:=by
 have s5:=I h;have EH:=I Km;clear Km;obtain⟨a,bL,sp,_,aB⟩:=h.cells.cells;obtain⟨aq,xi,rfl,_⟩:=aB.at k K;obtain⟨x,ak⟩:=al (L[k]);have kl:aM (∀ed,ae u ed->ed.cell? (B p 0)=A (E (A (B aq xi)) L.length bL)/\ed.cell? (B aq (xi+k))=A (r c x)):=λed Z=>by
  have e0:=mP Z sp;obtain⟨fT,li,en,qd⟩:=(aB.a_ (bu.bg Z)).at k K;obtain⟨rfl,rfl⟩:aq=fT/\xi=li:=by simpa using en
  exact⟨e0,by rw[qd,<-ak]⟩
 have js:=ew k;have mC:(k:Int)<L.length:=G;have he:EM g L R k=((x==R)&&(lj mm g k).any (EL g L R)):=by
  unfold EM;rw[eA K,<-ak];by_cases h:x=R<;>simp[h]
 rw[he];clear h aB ak he sp;go_in
 go_upto_region 1 with fail
 by_cases EN:x=R
 ·have aO:(x==R)=ad:=by simpa using EN
  clear EN;have cj:aM (∀ed,ae u ed->(ed.cell? (B q1 0)=A (J p 0)/\ed.cell? (B q2 0)=A (r c R)/\ed.cell? (B bm 0)=A (J n 0)/\ed.cell? (B cZ 0)=A (.func (.func 198) #[] #[J bm 0,J q1 0,J q2 0])/\ed.cell? (B p 0)=A (E (A (B aq xi)) L.length bL)/\ed.cell? (B aq (xi+k))=A (r c x))):=λed Z=>by
   have h:=s5.o.a_ (bu.bg Z);have br:=aR h.one 0;have a4:=aR h.two 0;have en:=aR h.three 0;have od:=aR h.four 0;exact⟨br,a4,en,od,(kl.o ed Z).1,(kl.o ed Z).2⟩
  have d':=I (bx u.heap.size u);refine jj (S:=λD=>D.cell? (B q1 0)=A (J p 0)/\D.cell? (B q2 0)=A (r c R)/\D.cell? (B bm 0)=A (J n 0)/\D.cell? (B cZ 0)=A (.func (.func 198) #[] #[J bm 0,J q1 0,J q2 0])/\D.cell? (B p 0)=A (E (A (B aq xi)) L.length bL)/\D.cell? (B aq (xi+k))=A (r c x)) rfl ?_;have ax:=cj.o u.drew (d'.o.drew);change gV _ _ _ _ _ 17 _ _ u.drew;have bf:=I (d'.o.drew);repeat refine fA ?_
  refine fs 12 ?_;refine gE 93 (aqI (i:=(k:Nat)) (s5.o.a_ (bu.bg bf.o)).kS nV) ?_ (aP:=by rintro _ _ ⟨_,h,_⟩;cases h) (aQ:=by rintro _ ⟨_,h,_⟩;cases h);rintro yY kw ⟨_,⟨rfl⟩,ar,hb⟩;have ef:=I (bf.o.trans (hb.mono bf.o.size));have aqL:=I (show cR kw yY (lj mm g k) from jv rfl ar);obtain⟨ot,EO,hs,rfl⟩:=ar.ic
  replace bf:=ef
  have ax:=cj.o kw bf.o;refine⟨ax,?_⟩;simp only[bN,bM,bO];refine fs 14 ?_;refine gE 89 (aqJ k bK EH.o nV K (s5.o.a_ (bu.bg bf.o)) aqL.o) ?_;rintro QT qq ⟨⟨rfl⟩,hb⟩;have ef:=I (bf.o.trans (hb.mono bf.o.size))
  replace bf:=ef
  have ax:=cj.o qq bf.o;refine⟨ax,?_⟩;simp only[bN,bM,bO];repeat refine fA ?_
  refine i4 ?_;have Ue:=bf;go_wp2_with fail;go_ret;exact⟨by rw[aO];rfl,Ue.o⟩
 ·have aO:(x==R)=ao:=by simpa using EN
  have cj:aM (∀ed,ae u ed->(ed.cell? (B q1 0)=A (J p 0)/\ed.cell? (B q2 0)=A (r c R)/\ed.cell? (B bm 0)=A (J n 0)/\ed.cell? (B cZ 0)=A (.func (.func 198) #[] #[J bm 0,J q1 0,J q2 0])/\ed.cell? (B p 0)=A (E (A (B aq xi)) L.length bL)/\ed.cell? (B aq (xi+k))=A (r c x))):=λed Z=>by
   have h:=s5.o.a_ (bu.bg Z);have br:=aR h.one 0;have a4:=aR h.two 0;have en:=aR h.three 0;have od:=aR h.four 0;exact⟨br,a4,en,od,(kl.o ed Z).1,(kl.o ed Z).2⟩
  have d':=I (bx u.heap.size u);refine jj (S:=λD=>D.cell? (B q1 0)=A (J p 0)/\D.cell? (B q2 0)=A (r c R)/\D.cell? (B bm 0)=A (J n 0)/\D.cell? (B cZ 0)=A (.func (.func 198) #[] #[J bm 0,J q1 0,J q2 0])/\D.cell? (B p 0)=A (E (A (B aq xi)) L.length bL)/\D.cell? (B aq (xi+k))=A (r c x)) rfl ?_;have ax:=cj.o u.drew (d'.o.drew);change gV _ _ _ _ _ 17 _ _ u.drew;have bf:=I (d'.o.drew);repeat refine fA ?_
  refine eY 10 ax ?_;refine eY 11 ax ?_;refine eY 12 ax ?_;refine eY 13 ax ?_;refine eY 14 ax ?_;repeat refine fA ?_
  refine i4 ?_;have Ue:=bf;go_wp2_with fail;go_ret;exact⟨by rw[aO];rfl,Ue.o⟩
theorem aqM (p n:Nat) (g:Raw) (L:List Int) (many R:Int) (w:O) (b1:eq w n g) (bJ:mw w p L many) (bK:g.e2) (nV:g.arcs.length<=1000000) (Cz:L.length<=1000000) (hL:(L.length:Int)=g.nodes):aE aa 112 #[J p 0,J n 0,r c R] w λe D=>∃v,e=au v/\D.ownsRow w.heap.size 3 1 v (Cy g L R).length ((Cy g L R).flatMap ec)/\ae w D:=by
 obtain⟨z,b5⟩:=al w.heap.size;obtain⟨ba,cg⟩:=al (((w.alloc (an #[J p 0] 66)).alloc (an #[J n 0] 62)).alloc (an #[r c R] 3));have ck:=tW cg;have oX:ba.heap.size=z+3:=by rw[cg,b5];simp
 have k0:V ba z #[J p 0] 66:=by rw[cg,b5];exact((V.new _ _ _ _).alloc _).alloc _
 have k1:V ba (z+1) #[J n 0] 62:=by
  rw[cg,b5];have h:=(V.new (w.alloc (an #[J p 0] 66)) #[J n 0] 62 (0,0)).alloc (an #[r c R] 3)
  rwa[d8] at h
 have k2:V ba (z+1+1) #[r c R] 3:=by
  rw[cg,b5];have h:=V.new ((w.alloc (an #[J p 0] 66)).alloc (an #[J n 0] 62)) #[r c R] 3 (0,0)
  rwa[d8,d8] at h
 have fR:=I b5;have h4:=I cg;have dh:=I ck;have sT:=I oX;have cw:=ig k0 k1 k2;clear cg;obtain⟨adf,bL,sp,_,_⟩:=bJ.cells;have cj:aM (∀u,ae ba u->(u.cell? (B z 0)=A (J p 0)/\u.cell? ⟨(z+1),0,T⟩=A (J n 0)/\u.cell? (B p 0)=A (E adf L.length bL))):=λu Z=>by
  have k:=aR (cw.o.1.aq Z) 0;have k2:=aR (cw.o.2.1.aq Z) 0;exact⟨k,k2,mP (dh.o.next' Z) sp⟩
 have BY:aM (∀u,ae ba u->aE aa 27 #[J n 0] u λe D=>e=au (r c g.nodes)/\D=u):=λu Z=>l3 n g u (b1.a_ (bu.bg (dh.o.next' Z)));have d':=I (bx ba.heap.size ba);rw[<-hL] at BY;go_in
 go_upto_region 1 with fail
 rw[<-h4.o];rw[<-b5];clear b5;refine jj (S:=λD=>D.cell? (B z 0)=A (J p 0)/\D.cell? ⟨(z+1),0,T⟩=A (J n 0)/\D.cell? (B p 0)=A (E adf L.length bL)) rfl ?_;have ax:=cj.o ba.drew (d'.o.drew);change gV _ _ _ _ _ 16 _ _ ba.drew;have bf:=I (d'.o.drew);repeat refine fA ?_
 refine fs 8 ?_;refine gE 27 (BY.o ba.drew bf.o) ?_;rintro _ _ ⟨⟨rfl⟩,rfl⟩;refine⟨ax,?_⟩;simp only[bN,bM,bO];repeat refine fA ?_
 refine i4 ?_;have g6:=I (dh.o.next' bf.o);obtain⟨bi,d6⟩:=al ba.drew;have mL:bi.heap.size=z+3:=by rw[d6];exact sT.o
 have k0:V bi z #[J p 0] 66:=by rw[d6];exact cw.o.1.drew
 have k1:V bi (z+1) #[J n 0] 62:=by rw[d6];exact cw.o.2.1.drew
 have k2:V bi (z+1+1) #[r c R] 3:=by rw[d6];exact cw.o.2.2.drew
 rw[<-d6] at g6⊢;obtain⟨bD,gm⟩:=al (bi.alloc (an #[.func (.func 198) #[] #[J (z+1) 0,J z 0,J (z+1+1) 0]] 90));have cT:=dx gm;have kR:bD.heap.size=z+4:=by rw[gm];simp[mL]
 have k3:V bD (z+3) #[.func (.func 198) #[] #[J (z+1) 0,J z 0,J (z+1+1) 0]] 90:=by rw[gm,<-mL];exact V.new _ _ _ _
 have ik:=k0.aq cT;have f7:=k1.aq cT;have qW:=k2.aq cT;have hd:=I (g6.o.next' cT);have Gw:Hr bD z (z+1+1) (z+1) (z+3) n p g L many R:=⟨ik,qW,f7,k3,b1.a_ (bu.bg hd.o),bJ.a_ (bu.bg hd.o)⟩;have s5:=I Gw;have bR:=aR ik 0;rw[gm] at bR;have nX:=I gm;have ts:=I kR;have Eg:=I mL;have g_:=@hJ aa;clear d6 gm cT mL kR k0 k1 k2 k3 ik f7 qW Gw cw h4 g6 dh sT;go_wp2_with fail;rw[<-nX.o,Eg.o];refine(im.1 (aqw 4 (A (B p 0)) _ _ bD)).mono ?_;rintro e cG ⟨rfl,fq⟩;rw[ts.o];have jn:=oQ fq;have Cc:cG.heap.size=z+4+2:=by rw[fq];simp[ts.o]
 have k4:V cG (z+4) #[J p 0] 66:=by rw[fq,<-ts.o];exact(V.new _ _ _ _).alloc _
 have k5:V cG (z+4+1) #[.func (.func 200) #[] #[J z 0,J (z+1+1) 0,J (z+1) 0,J (z+3) 0]] 90:=by
  rw[fq,<-ts.o];have h:=V.new (bD.alloc (an #[J p 0] 66)) #[.func (.func 200) #[] #[J z 0,J (z+1+1) 0,J (z+1) 0,J (z+3) 0]] 90 (0,0)
  rwa[d8] at h
 have eS:=s5.o.a_ (bu.bg jn);have hst:=aqy 3 G (z+4) (z+4+1) cG.heap.size cG p L many Cz (λu Z=>eS.cells.a_ (bu.bg Z)) z (z+1+1) (z+1) (z+3) (EM g L R)
  (λu Z k K=>aqK z (z+1+1) (z+1) (z+3) n p g L many R k u bK hL nV K (eS.a_ (bu.bg Z))) cG (bx _ _) (bY _) k4 k5
 have aqN:=adc 5 G 268 #[J (z+4) 0,J (z+4+1) 0] (Cy g L R) L.length Cz (nu cG.heap.size (z+4) (z+4+1)) cG
  (λgd bG iu W B4 ee zE ei h0=>by
   refine(hst gd bG iu W B4 ee zE ei h0).mono ?_;rintro e W' ⟨h1,h2|⟨pre,_,h2⟩⟩
   ·exact⟨h1,.inl h2⟩
   ·exact⟨h1,.inr ⟨pre,trivial,h2⟩⟩) (fg aBS bq rfl) nu.trans (λQ ai mf _=>⟨mf,mf.block _ G,mf.block _ G⟩)
 have aqO:=I (im.1 aqN);have AI:=I (hd.o.next' jn);clear fq;go_wp2_with fail;refine aqO.o.mono ?_;rintro e gY ⟨v,rfl,aQ,hb⟩;have l6:=db (n5 aQ AI.o.size) (AI.o.next' hb);go_wp2_with fail;go_ret;exact⟨v,rfl,l6.o.1,l6.o.2⟩
theorem arh (F:Fence) (k:Nat) (hf:F.fn 274) (gO:F.round=T) (p:Option cp) (U:Int) (w:O):
 ge F k aa 274 #[a6 p,r c U] w λe D=>e=au (.func (.func 304) #[] #[J w.heap.size 0,J (w.heap.size+1) 0])/\D=(w.alloc (an #[a6 p] 67)).alloc (an #[r c U] 3):=by
 refine kL func274 rfl hf ?_ gO;simp only[ntmps274,g0,fV,gp,gA,g1,gI,gJ,gK,gL,f1,fW];gi_wp2;go_ret;exact⟨rfl,rfl⟩
def vG (X n1:Nat) (W W':O):Prop:=W.heap.size<=W'.heap.size/\∀k,k<n1->k≠X->W'.heap[k]? =W.heap[k]?
theorem vG.trans {Q:O} (h:vG X n1 Q ai) (k:vG X n1 ai C):vG X n1 Q C:=⟨cM h.1 k.1,λi ag ak=>(k.2 i ag ak).trans (h.2 i ag ak)⟩
theorem vG.below {Q:O} (h:bQ n1 Q ai):vG X n1 Q ai:=⟨h.size,λi ag _=>h.block i ag⟩
theorem vG.put {w:O} (aC:n1<=w.heap.size) (W:O) (l:Nat) (o dt:Obj) (aw:w.heap.size<=l) (h:W.heap[l]? =A o) (h1:o.isCells=ao) (h2:o.isWalk=ao):vG X n1 W (W.putObj l dt):= .below (L' aC W l o dt aw h h1 h2)
def mx (n b':Nat) (l:List UInt8) (U:Int) (k:Nat):List Nat:=(m8 k).filter λi=>m3 n b' l U i
theorem adk (n b':Nat) (l:List UInt8) (U:Int) (k:Nat):mx n b' l U (k+1)=mx n b' l U k++(if m3 n b' l U k then [k] else []):=by
 unfold mx;rw[Io,Xs]
 congr 1
 by_cases h:m3 n b' l U k<;>simp[h]
theorem ari (n b':Nat) (l:List UInt8) (U:Int) (k d:Nat):mx n b' l U k<+:mx n b' l U (k+d):=by
 induction d with
 |zero=>exact ah5 _
 |succ d d4=>exact d4.trans (by rw[<-aiN,adk];exact LU _ _)
theorem arj {W W':O} (h:ae W W'):W.grownBy W' T:=⟨h.os,h.tape,h.output,h.size,λk K _=>h.block k K⟩
theorem ark (m:Nat) (hm:1<=m) (L lx cN X n1 p g n b':Nat) (l:List UInt8) (U:Int) (bG iu:List Nat->O->Prop) (sS:∀s W W',bG s W->ae W W'->bG s W')
 (ei:∀pre x W,bG pre W->pre.length<(mx n b' l U b').length->o4 dY (m-1) aa L #[r c (x:Nat)] W λe W'=>
  (e=au (aA ad)/\bG (pre++[x]) W'/\vG X n1 W W')\/(e=au (aA ao)/\iu (pre++[x]) W'))
 (W:O) (hb:fE W p g n b' l) (B6:p<n1/\p≠X) (CB:g<n1/\g≠X) (OI:V W lx #[J p 0] 67) (n3:V W cN #[r c U] 3) (CC:lx<n1/\lx≠X) (OJ:cN<n1/\cN≠X) (h0:bG [] W):
 ge dY m aa 304 #[.func (.yield L) #[] #[],J lx 0,J cN 0] W λe W'=>(∃v,e=au v)/\
  ((∃ce,ce=mx n b' l U b'/\bG ce W')\/(∃pre,pre<+:mx n b' l U b'/\iu pre W')):=by
 have aV:=OI.cell 0;change W.cell? (B lx 0)=A (J p 0) at aV;have nP:b'<=67108864:=hb.wide;refine kL func304 rfl trivial ?_ rfl;simp only[ntmps304,g0,fV,gp,gA,g1,gI,gJ,gK,gL,f1,fW];gi_wp2_with(refine⟨trivial,?_⟩;gi_at_call 119;refine(im.2 (Hs p g n b' l _ hb)).mono ?_;rintro e D ⟨rfl,rfl⟩)
 gi_loopw [7] (λi wr=>∃(k:Nat),k<=b'/\i=r c k/\fE wr p g n b' l/\V wr lx #[J p 0] 67 (0,0)/\V wr cN #[r c U] 3 (0,0)/\bG (mx n b' l U k) wr) (λi _=>b'-(cu i).toNat)
 ·exact⟨0,cQ _,rfl,hb,OI,n3,h0⟩
 ·obtain⟨k,K,rfl,oz,h1,h2,ee⟩:=hrel;have d1:=h1.cell 0;have d2:=h2.cell 0;change wr.cell? (B lx 0)=A (J p 0) at d1;change wr.cell? (B cN 0)=A (r c U) at d2;by_cases a0:k<b'
  ·have fY:=adk n b' l U k;have C:=I (aq0 p g n b' l U k wr oz);cases pL:m3 n b' l U k with
   |false=>
    rw[pL] at C fY;rw[if_neg bj,yn] at fY;clear pL;gi_wp2_with(refine⟨trivial,?_⟩;gi_at_call 305;refine xj (im.2 C.o) λay aX=>?_)
    refine⟨λ_ h=>(by cases h),?_⟩;gi_wp2;go_roundw
    ·exact⟨k+1,G,by go_num,oz.later aX,h1.aq aX,h2.aq aX,by rw[fY];exact sS _ _ _ ee aX⟩
    ·simp[cu];omega
   |true=>
    rw[pL] at C fY;rw[if_pos rfl] at fY;clear pL;have lT:mx n b' l U k++[k]<+:mx n b' l U b':=by
     rw[<-fY];have:=ari n b' l U (k+1) (b'-(k+1))
     rwa[show k+1+(b'-(k+1))=b' by omega] at this
    have nm:(mx n b' l U k).length<(mx n b' l U b').length:=by
     have:=lT.length_le;rw[gW] at this;simp at this;omega
    gi_wp2_with(refine⟨trivial,?_⟩;gi_at_call 305;refine xj (im.2 C.o) λay aX=>?_;obtain⟨fn,tmps,assign,body,az,cf⟩:=ei (mx n b' l U k) k ay (sS _ _ _ ee aX) nm)
    refine cf.mono ?_;rintro e dI (⟨rfl,ho,dv⟩|⟨rfl,og⟩)
    ·have ck:fE dI p g n b' l:=⟨(dv.2 p B6.1 B6.2).trans (oz.later aX).head,(dv.2 g CB.1 CB.2).trans (oz.later aX).body,oz.ne,oz.AJ,oz.wide,oz.rows,oz.cr⟩;have c_:V dI lx #[J p 0] 67:=(dv.2 lx CC.1 CC.2).trans (h1.aq aX);have cT:V dI cN #[r c U] 3:=(dv.2 cN OJ.1 OJ.2).trans (h2.aq aX);gi_wp2;go_roundw
     ·exact⟨k+1,G,by go_num,ck,c_,cT,by rw[fY];exact ho⟩
     ·simp[cu];omega
    ·gi_wp2;refine gh (mQ rfl _ _ _) rfl ?_;exact⟨⟨_,rfl⟩,.inr ⟨_,lT,og⟩⟩
  ·obtain rfl:k=b':=G;gi_wp2;go_end0;exact⟨⟨_,rfl⟩,.inl ⟨_,rfl,ee⟩⟩
theorem SeqStopsK.all {ep:Type} {F:Fence} {P:Program} {g:Nat} {lb:Array ac} {jk:ep->Array ac} {eb:O->O->Prop} {S OK:List ep->Prop} {w:O} (h:SeqStopsK F n P g lb jk eb S OK N w):SeqStopsK F n P g lb jk eb S (λ_=>True) N w:=λl bG iu W h1 h2 ap bl cL=>
 (h l bG iu W h1 h2 ap bl cL).mono λ_ _ ⟨aK,ah⟩=>⟨aK,ah.imp id λ⟨pre,_,q⟩=>⟨pre,trivial,q⟩⟩
theorem arx {w:O} (bK:g.e2) (h:jq w bE g N b0) (hA:cR w (E dG Q.length fF) Q) (pO:Q.length<=1000) (uk:∀a∈Q,0<=a/\a<b0.length) {s t:Nat} (aB:s<N) (ht:t<N) {d3 b_:Nat} (bl:V w bh #[J bE 0] 65) (cL:V w bF #[E dG Q.length fF] 41) (eI:V w d3 #[r c s] 3) (gu:V w b_ #[r c t] 3) (K:k<N):
 aE aa 240 #[r c k,J bh 0,J bF 0,J b_ 0,J d3 0] w λe D=>e=au (r c (Cs (jO g.arcs (l4 b0 Q) k t) (jO g.arcs (l4 b0 Q) s k)))/\ae w D:=by
 have Hw:∀m∈l4 b0 Q,0<=m/\m<g.nodes:=λm hm=>by
  obtain⟨a,ha,rfl⟩:=jB.1 hm;have ar:=uk a ha;rw[eA G];exact h.G8 _ (gB _)
 have b1:=h.nodes;have j7:=Cu bK Hw (v:=(k:Int)) (t:=(t:Int)) G;have mi:=Cu bK Hw (v:=(s:Int)) (t:=(k:Int)) G;obtain⟨x,ak⟩:=al (jO g.arcs (l4 b0 Q) k t);obtain⟨y,az⟩:=al (jO g.arcs (l4 b0 Q) s k);have ft:aM (∀u,ae w u->aE aa 233 #[J bE 0,E dG Q.length fF,r c k,r c t] u λe D=>e=au (r c x)/\ae u D):=λu Z=>by
  rw[ak];exact TH (h.a_ (bu.bg Z)) (hA.a_ (bu.bg Z)) pO uk K ht
 have dT:aM (∀u,ae w u->aE aa 233 #[J bE 0,E dG Q.length fF,r c s,r c k] u λe D=>e=au (r c y)/\ae u D):=λu Z=>by
  rw[az];exact TH (h.a_ (bu.bg Z)) (hA.a_ (bu.bg Z)) pO uk aB K
 rw[<-ak] at j7⊢;rw[<-az] at mi⊢;obtain⟨z,b5⟩:=al (Cs x y);have jd:aM (∀u,aE aa 241 #[r c x,r c y] u λe D=>e=au (r c z)/\ae u D):=λu=>by
  have a9:=aoz x y u;rw[qy j7,qy mi] at a9;rw[b5];exact a9
 rw[<-b5];have cj:aM (∀u,ae w u->u.cell? (B bh 0)=A (J bE 0)/\u.cell? (B bF 0)=A (E dG Q.length fF)/\u.cell? (B b_ 0)=A (r c t)/\u.cell? (B d3 0)=A (r c s)):=λu Z=>⟨(bl.aq Z).cell 0,(cL.aq Z).cell 0,(gu.aq Z).cell 0,(eI.aq Z).cell 0⟩;have d':=I (bx w.heap.size w);clear ak az b5;go_in;go_wp2_with fail;refine jj (S:=λD=>D.cell? (B bh 0)=A (J bE 0)/\D.cell? (B bF 0)=A (E dG Q.length fF)/\D.cell? (B b_ 0)=A (r c t)/\D.cell? (B d3 0)=A (r c s)) rfl ?_;have ax:=cj.o w.drew (d'.o.drew);change gV _ _ _ _ _ 12 _ _ w.drew;have bf:=I (d'.o.drew);repeat refine fA ?_
 refine fs 4 ?_;refine gE 233 (ft.o w.drew bf.o) ?_;rintro yY kw ⟨⟨rfl⟩,hb⟩;have ef:=I (bf.o.trans (hb.mono bf.o.size))
 replace bf:=ef
 have ax:=cj.o kw bf.o;refine⟨ax,?_⟩;simp only[bN,bM,bO];refine fs 9 ?_;refine gE 233 (dT.o kw bf.o) ?_;rintro QT qq ⟨⟨rfl⟩,hb⟩;have ef:=I (bf.o.trans (hb.mono bf.o.size))
 replace bf:=ef
 have ax:=cj.o qq bf.o;refine⟨ax,?_⟩;simp only[bN,bM,bO];refine fs 10 ?_;refine gE 241 (jd.o qq) ?_;rintro aru t8 ⟨⟨rfl⟩,hb⟩;have ef:=I (bf.o.trans (hb.mono bf.o.size))
 replace bf:=ef
 have ax:=cj.o t8 bf.o;refine⟨ax,?_⟩;simp only[bN,bM,bO];repeat refine fA ?_
 refine i4 ?_;go_wp2_with fail;go_ret;exact⟨rfl,bf.o⟩
theorem ary {w:O} (bK:g.e2) (h:jq w bE g N b0) (hA:cR w (E dG Q.length fF) Q) (pO:Q.length<=1000) (uk:∀a∈Q,0<=a/\a<b0.length) {s t:Nat} (aB:s<N) (ht:t<N):
 aE aa 146 #[J bE 0,E dG Q.length fF,r c s,r c t] w λe D=>∃a R,e=au (E a (AF g N (l4 b0 Q) s t).length R)/\cR D (E a (AF g N (l4 b0 Q) s t).length R) (AF g N (l4 b0 Q) s t)/\ae w D:=by
 have sq:=h.jo;obtain⟨bh,dW⟩:=al w.heap.size;obtain⟨bF,eV⟩:=al (bh+1);obtain⟨d3,eS⟩:=al (bF+1);obtain⟨b_,ni⟩:=al (d3+1);obtain⟨bi,d6⟩:=al ((((w.alloc (an #[J bE 0] 65)).alloc (an #[E dG Q.length fF] 41)).alloc (an #[r c s] 3)).alloc (an #[r c t] 3));have c_:ae w bi:=by rw[d6];exact(((fb).alloc a3 _).alloc (by simp;omega) _).alloc (by simp;omega) _
 have k4:V bi bh #[J bE 0] 65:=by rw[d6,dW];exact(((V.new _ _ _ _).alloc _).alloc _).alloc _
 have k5:V bi bF #[E dG Q.length fF] 41:=by
  have k:=V.new (w.alloc (an #[J bE 0] 65)) #[E dG Q.length fF] 41 (0,0);rw[d8] at k;rw[d6,eV,dW];exact(k.alloc _).alloc _
 have k6:V bi d3 #[r c s] 3:=by
  have k:=V.new ((w.alloc (an #[J bE 0] 65)).alloc (an #[E dG Q.length fF] 41)) #[r c s] 3 (0,0);rw[d8,d8] at k;rw[d6,eS,eV,dW];exact k.alloc _
 have k7:V bi b_ #[r c t] 3:=by
  have k:=V.new (((w.alloc (an #[J bE 0] 65)).alloc (an #[E dG Q.length fF] 41)).alloc (an #[r c s] 3)) #[r c t] 3 (0,0);rw[d8,d8,d8] at k;rw[d6,ni,eS,eV,dW];exact k
 have mL:bi.heap.size=b_+1:=by rw[d6,ni,eS,eV,dW];simp
 obtain⟨cG,fq⟩:=al ((bi.alloc (an #[J bE 0] 65)).alloc (an #[.func (.func 240) #[] #[J bh 0,J bF 0,J b_ 0,J d3 0]] 285));have jn:=oQ fq;have Cw:V cG (b_+1) #[J bE 0] 65:=by rw[fq,<-mL];exact(V.new _ _ _ _).alloc _
 have Hm:V cG (b_+1+1) #[.func (.func 240) #[] #[J bh 0,J bF 0,J b_ 0,J d3 0]] 285:=by
  have k:=V.new (bi.alloc (an #[J bE 0] 65)) #[.func (.func 240) #[] #[J bh 0,J bF 0,J b_ 0,J d3 0]] 285 (0,0);rw[d8,mL] at k;rw[fq];exact k
 have Cc:cG.heap.size=b_+3:=by rw[fq];simp[mL]
 obtain⟨am,dC⟩:=al (b_+1);have Ki:∀u,bQ am cG u->jq u bE g N b0/\cR u (E dG Q.length fF) Q/\V u bh #[J bE 0] 65 (0,0)/\V u bF #[E dG Q.length fF] 41 (0,0)/\V u d3 #[r c s] 3 (0,0)/\V u b_ #[r c t] 3:=λu Z=>by
  have gQ:ae w u:=(c_.next' jn).trans (Z.mono G);have Cx:∀{b:Nat} {cs:Array ac} {t:TypeId} {fr:Nat×Nat},V bi b cs t fr->b<am->V u b cs t fr:=λ{b cs t fr} hb a0=>(Z.block b a0).trans (hb.aq jn);exact⟨h.a_ (bu.bg gQ),hA.a_ (bu.bg gQ),Cx k4 G,Cx k5 G,Cx k6 G,Cx k7 G⟩
 have iQ:SeqStopsK dY 2 aa 282 #[J (b_+1) 0,J (b_+1+1) 0] iI (nu am (b_+1) (b_+1+1)) (λce=>ce=qD (λk=>Cs (jO g.arcs (l4 b0 Q) k t) (jO g.arcs (l4 b0 Q) s k)) N) (λ_=>True) N cG:=
  SeqStopsK.all (ap6 2 G (b_+1) (b_+1+1) am cG bE g N b0 (λu Z=>(Ki u Z).1) _ (fg func240 bq rfl) #[J bh 0,J bF 0,J b_ 0,J d3 0] _ (λu Z k K=>by
   obtain⟨q1,q2,bm,cZ,ek,jg⟩:=Ki u Z;exact arx bK q1 q2 pO uk aB ht bm cZ ek jg K) cG (bx _ _) G Cw Hm)
 have AA:=I (im.1 (ao' 4 G _ _ _ N G (nu am (b_+1) (b_+1+1)) cG iQ (fg aiE bq rfl) (λa b=>a.trans b) (λQ ai hb aw=>⟨hb.mono G,hb.block _ G,hb.block _ G⟩)));have Ha:=I (J1 (h.a_ (bu.bg c_)) (v:=(s:Int)) ⟨G,G⟩);have Ob:=I (J1 (h.a_ (bu.bg c_)) (v:=(t:Int)) ⟨G,G⟩);have Kj:=I (ac0 (A (B bE 0)) (.func 240) #[J bh 0,J bF 0,J b_ 0,J d3 0] bi);rw[mL] at Kj;have mM:=I d6;have g8:=I fq;have qE:=I (cv dW (cv eV (cv eS (cv ni (cv mL (cv Cc (c_.next' jn)))))));have gR:=aR k4 0;have kf:=aR k6 0;have lM:=aR k7 0;have cw:=ig gR kf lM;rw[d6,dW] at gR;rw[d6,eS,eV,dW] at kf;rw[d6,ni,eS,eV,dW] at lM;have g_:=@hJ aa;clear d6 fq;go_in;go_wp2_with fail;rw[<-mM.o,<-dW,<-eV,<-eS,<-ni];clear dW eV eS ni;refine eO Ha.o ?_;obtain⟨gR,kf,lM⟩:=cw.o;go_wp2_with fail;refine eO Ob.o ?_;go_wp2_with fail;refine dl Kj.o λeM h=>?_;rw[<-g8.o] at h;subst eM;go_wp2_with fail;refine AA.o.mono ?_;rintro e sC ⟨v,rfl,ar,hb⟩;have ak:=jv rfl ar;obtain⟨a,R,aK,_⟩:=id ak;subst aK;have cW:=db ak hb;clear ak;go_wp2_with fail;go_ret;exact⟨_,_,rfl,cW.o.1,qE.o.2.2.2.2.2.2.next' cW.o.2⟩
theorem pq.uniq {Q:List bd} {f:Int->Int}:∀{v:Int} {l:List Int},pq Q f v l->∀{k:List Int},pq Q f v k->l=k
 |_,_,.nil h,_,.nil _=>rfl
 |_,_,.nil h,_,.cons aC e _=>by omega
 |_,_,.cons aC e _,_,.nil h=>by omega
 |_,_,.cons aC e k,_,.cons rM fm hY=>by
  rename_i n l iC i3;obtain rfl:n=iC:=G;rw[pq.uniq k hY]
noncomputable def Uw (Q:List bd) (f:Int->Int) (x:Option ac):Nat:=by
 classical exact if h:∃l v,x=A (r c v)/\pq Q f v l then h.choose.length else 0
theorem adp {Q:List bd} {f:Int->Int} {l:List Int} (h:pq Q f v l):Uw Q f (A (r c v))=l.length:=by
 have ak:∃l ca,(A (Value.int c v))=A (r c ca)/\pq Q f ca l:=⟨l,v,rfl,h⟩;unfold Uw;rw[dif_pos ak];obtain⟨ca,e,ah⟩:=ak.choose_spec;have:ca=v:=by injection e with e;injection e with _ e;exact e.symm
 subst this;rw[pq.uniq ah h]
structure Ux (af:Nat) (g:Raw) (N q bs cc a':Nat) (aS:List Int) (W:O):Prop where
 kS:eq W af g
 cO:V W cc #[J q 0] 209
 bR:W.cell? (B q 0)=A (J af 0)
 ch:W.cell? (B q 3)=A (E (A (B bs 0)) N N)
 aS:V W bs (c6 c aS) 3
theorem arC (ah:rf bH am af g N s t aG pi cB cy) {w X:O} {bo:ac} {a7:Nat->Prop} {L:List bw} {de aS:List Int} {bL:List Bool} {aD:Nat}
 (bS:pW bH am s t cB cy w q af p ab N aW bs aY bn bo a7 L de aS bL aD) (h1:V w cc #[J q 0] 209) (sc:cc≠a') (h2:¬re q aW bs aY bo a7 a') (dC:am<=a') (K:Kept (λk=>k=a') w X):Ux af g N q bs cc a' aS X:=by
 have hb:bQ am bH X:=bS.below.trans (K.below bS.lo_le λk e=>by omega);refine⟨ah.kS.a_ (bu.bg (by rw[<-ah.low];exact hb)),K.aH h1 sc,?_,?_,K.aH bS.ij.rK λe=>h2 (by rw[<-e];exact .inr (.inr (.inr (.inl rfl))))⟩
 ·exact(K.aH bS.ij.aH λe=>h2 (by rw[<-e];exact .inr (.inl rfl))).cell 0
 ·exact(K.aH bS.ij.aH λe=>h2 (by rw[<-e];exact .inr (.inl rfl))).cell 3
theorem arD (hf:jz g N) {aS:List Int} (nV:aS.length=N) (m:Nat) (hm:1<=m) (w:O) (o9:a'<w.heap.size) (hSt:∀X,Kept (λk=>k=a') w X->Ux af g N q bs cc a' aS X)
 {v:Nat} (aK:v<N) {ce:List Int} (Ke:pq g.arcs (oZ aS) (v:Int) ce) gd (bG:List Int->O->Prop) (W:O) (hW:Kept (λk=>k=a') w W) (eB:V W a' #[r c v] 3) (CD:∀s Q C,bG s Q->ae Q C->bG s C) (yy:∀s Q x,bG s Q->bG s (Q.setCell (B a' 0) x))
 (ei:∀pre x d9,bG pre d9->pre++[x]<+:ce->o4 dY (m-1) aa gd (iI x) d9 λe W'=>e=au (aA ad)/\bG (pre++[x]) W'/\bQ w.heap.size d9 W') (h0:bG [] W):
 ge dY m aa 275 #[.func (.yield gd) #[] #[],J cc 0,J a' 0] W λe W'=>(∃v,e=au v)/\bG ce W':=by
 have xn:∀u:Nat,u<N->∃Iv,oZ aS (u:Int)=Iv/\∀X,V X bs (c6 c aS) 3 (0,0)->X.cell? (B bs u)=A (r c Iv):=λu Z=>by
  refine⟨aS[u]'(by rw[nV];exact Z),?_,λX hy=>by rw[hy.cell];exact kd _ _ _ _⟩;unfold oZ;rw[ko,eA (by rw[nV];exact Z)];rfl
 obtain⟨Iv,Hi,Nb⟩:=xn v aK;have bC:aM (∀X,ae W X->X.cell? (B cc 0)=A (J q 0)/\X.cell? (B q 3)=A (E (A (B bs 0)) N N)/\X.cell? (B a' 0)=A (r c v)/\X.cell? (B bs v)=A (r c Iv)):=λX hy=>by
  have h:=hSt X (hW.trans (Kept.bg hy));exact⟨h.cO.cell 0,h.ch,(eB.aq hy).cell 0,Nb X h.aS⟩
 have wH:(v:Int)<N:=G;have sq:=hf.jo;have EF:=I Ke;refine kL aB3 rfl trivial ?_ rfl;simp only[ntmps275,g0,fV,gp,gA,g1,gI,gJ,gK,gL,f1,fW];gi_wp2_with fail;refine Dv (F:=dY) (n:=m) (λD=>D.cell? (B cc 0)=A (J q 0)/\D.cell? (B q 3)=A (E (A (B bs 0)) N N)/\D.cell? (B a' 0)=A (r c v)/\D.cell? (B bs v)=A (r c Iv)) 7 rfl ?_;change ej _ _ _ _ _ _ _ 8 _ _ W.drew;obtain⟨et,dm⟩:=al W.drew;have aL:=I (show ae W et by rw[dm];exact(bx _ _).drew);rw[<-dm];clear dm;have ax:=bC.o _ aL.o;repeat first|refine fS ?_|refine ea ?_
 refine kr 7 (r c Iv) et ?_;refine fc ?_;gi_wp2_with fail;gi_loopw [4] (λx wr=>∃(u:Nat) (pre rest:List Int),aM (pre++rest=ce)/\u<N/\x=r c (oZ aS (u:Int))/\aM (pq g.arcs (oZ aS) (u:Int) rest)/\aM (Kept (λk=>k=a') w wr)/\aM (V wr a' #[r c u] 3)/\aM (bG pre wr)) (λ_ wr=>Uw g.arcs (oZ aS) (wr.cell? (B a' 0)))
 ·exact⟨v,[],ce,I rfl,aK,by rw[Hi],EF,I (hW.trans (Kept.bg aL.o)),I (eB.aq aL.o),I (CD _ _ _ h0 aL.o)⟩
 ·obtain⟨u,pre,rest,e_,Z,rfl,cS,Uy,adq,adr⟩:=hrel;have Hw:=adp cS.o;have hj:=aR adq.o 0;rcases cS.o with h|⟨aC,e,k⟩
  ·rw[h];have arE:=I (show pre=ce from by have:=e_.o;rwa[yn] at this);gi_wp2_with fail;refine⟨λ_ h=>(by cases h),?_⟩;gi_wp2_with fail;go_end0;exact⟨⟨_,rfl⟩,arE.o▸adr.o⟩
  ·rename_i n l;rw[e];have md:pre++[(n:Int)]<+:ce:=⟨l,by rw[<-e_.o];simp⟩;obtain⟨fn,tmps,assign,body,az,cf⟩:=ei pre (n:Int) wr adr.o md;dsimp only[iI] at az;have r':=ew n;have dd:=I (cv aC (cv e (cv k (cv Hw (cv hj md)))));gi_wp2_with fail;refine cf.mono ?_;rintro e dI ⟨rfl,ho,dv⟩;have Jr:=y0 Uy.o dv;have arF:V dI a' #[r c u] 3:=(dv.block a' o9).trans adq.o;have oX:=hSt dI Jr;have br:=aR oX.cO 0;have a4:=oX.bR;have dM:=D_ af g n dI oX.kS;have rM:=dd.o.1;rw[if_pos ⟨G,G⟩,decide_eq_true (show 0<=(n:Int)/\(n:Int)<g.arcs.length from⟨G,G⟩),ko] at dM;change aE _ _ _ _ (λe D=>e=au (b8 #[vl (gw g n),aA ad])/\ae dI D) at dM;have bK:=(hf.ok.aS _ (gB rM)).1;obtain⟨y,az⟩:∃y:Nat,(gw g n).1=(y:Int):=⟨(gw g n).1.toNat,by rw[oY rM];omega⟩;obtain⟨a1,oi⟩:=al ((gw g n).2.1);obtain⟨nB,tn⟩:=al ((gw g n).2.2);unfold vl at dM;rw[az,<-oi,<-tn] at dM;have pY:y<N:=by
    have h1:=bK.2;rw[<-oY rM,<-hf.nodes] at h1;omega
   obtain⟨cq,a5,arG⟩:=xn y pY;clear oi tn;gi_wp2_with fail;refine jb dM λaJ gQ=>?_;have eF:=(arF.aq gQ);obtain⟨ls,Kr⟩:=al ((aJ.alloc (an #[r c y,r c a1,r c nB] 57)).setCell (B a' 0) (r c y));have kO:=(bx _ aJ).alloc (bY aJ.heap.size) (an #[r c y,r c a1,r c nB] 57);have iE:=aR (eF.aq kO) 0;have aDY:=(eF.aq kO).free 0 (hD (cQ _));have dW:V ls a' #[r c y] 3:=by rw[Kr];exact(eF.aq kO).set 0 _
   have yW:Kept (λk=>k=a') w ls:=by rw[Kr];exact((Jr.trans (Kept.bg gQ)).trans (Kept.bg kO)).setCell rfl _
   have ER:bG (pre++[(n:Int)]) ls:=by rw[Kr];exact yy _ _ _ (CD _ _ _ (CD _ _ _ ho gQ) kO)
   have bC:aM (∀X,ae ls X->X.cell? (B cc 0)=A (J q 0)/\X.cell? (B q 3)=A (E (A (B bs 0)) N N)/\X.cell? (B a' 0)=A (r c y)/\X.cell? (B bs y)=A (r c cq)):=λX hy=>by
    have h:=hSt X (yW.trans (Kept.bg hy));exact⟨h.cO.cell 0,h.ch,(dW.aq hy).cell 0,arG X h.aS⟩
   have mM:=I Kr;have arH:(y:Int)<N:=G;clear Kr;gi_wp2_with fail;rw[<-mM.o];refine Dv (F:=dY) (n:=m) (λD=>D.cell? (B cc 0)=A (J q 0)/\D.cell? (B q 3)=A (E (A (B bs 0)) N N)/\D.cell? (B a' 0)=A (r c y)/\D.cell? (B bs y)=A (r c cq)) 7 rfl ?_;change ej _ _ _ _ _ _ _ 8 _ _ ls.drew;obtain⟨et,dm⟩:=al ls.drew;have aL:=I (show ae ls et by rw[dm];exact(bx _ _).drew);rw[<-dm];clear dm;have ax:=bC.o _ aL.o;repeat first|refine fS ?_|refine ea ?_
   refine kr 7 (r c cq) et ?_;refine fc ?_;gi_wp2_with fail;go_roundw
   ·exact⟨y,pre++[(n:Int)],l,I (by rw[<-e_.o];simp),pY,by rw[a5],I (by rw[<-az,oY dd.o.1];exact dd.o.2.2.1),I (yW.trans (Kept.bg aL.o)),I (dW.aq aL.o),I (CD _ _ _ ER aL.o)⟩
   ·have br:=aR (dW.aq aL.o) 0;rw[br,dd.o.2.2.2.2.1,dd.o.2.2.2.1,adp (l:=l) (by rw[<-az,oY dd.o.1];exact dd.o.2.2.1),fV];omega
end
def OF (g:Raw) (of:List Int) (R:Int) (i:Nat):Prop:=
 ∃h:i<g.arcs.length,(p3 of g.arcs[i].1=R/\p3 of g.arcs[i].2.1=R)\/∃b,T9 g of R b/\xY g b g.arcs[i]
theorem rg.aqP (aw:aG.length=g.arcs.length) (h:∀i,OF g of R i->aG[i]? =A ad):rg g of R aG:=
 ⟨aw,λn aC h1 h2=>h n ⟨aC,.inl ⟨h1,h2⟩⟩,λb hb n aC ht=>h n ⟨aC,.inr ⟨b,hb,ht⟩⟩⟩
theorem OG (h:0<=v/\v<of.length):rT of v=p3 of v:=by
 unfold rT p3;rw[if_pos h];have:v.toNat<of.length:=G;rw[eA this];rfl
theorem aqQ (bK:g.e2) (hL:(of.length:Int)=g.nodes) (h:T9 g of R b):b∈Cy g of R:=by
 obtain⟨x,ak,rfl,h1,h2⟩:=h;obtain⟨a1,a2,dX,jc⟩:=bK.aS x ak;obtain⟨i,ag,nY⟩:=Bd ak;unfold Cy;have e:((x.2.1.toNat:Nat):Int)=x.2.1:=G;rw[<-e];refine D6.2 ⟨x.2.1.toNat,rfl,G,?_⟩;unfold EM;rw[e];have br:of[x.2.1.toNat]? =A R:=by
  unfold p3 at h1;rw[eA (show x.2.1.toNat<of.length by omega)] at h1⊢;exact congrArg A h1
 rw[br,decide_eq_true rfl,XR,ail];refine⟨(i:Int),by rw[<-e];exact(B_ (k:=x.2.1.toNat) mm G).2 ⟨i,rfl,ag,by rw[nY];exact e.symm⟩,?_⟩;unfold EL kE;rw[if_pos ⟨G,G⟩,ko,eA ag,nY,sM,OG G,decide_eq_true h2]
theorem arz {w:O} (h:jq w bE g N b0) {s t a b:Nat} (aB:s<N) (ht:t<N) (ha:a<b0.length) (fi:b<b0.length) {d3:Nat} (bl:V w bh #[J bE 0] 65) (cL:V w bF #[r c s] 3) (eI:V w d3 #[r c t] 3):
 aE aa 228 #[r c a,r c b,J bh 0,J bF 0,J d3 0] w λe D=>∃U,e=au (r c U)/\ae w D:=by
 obtain⟨x,ak⟩:=al (ug g.arcs b0[b] s t);obtain⟨y,az⟩:=al (ug g.arcs b0[a] s t);have ft:aM (∀u,ae w u->aE aa 229 #[J bE 0,r c b,r c s,r c t] u λe D=>e=au (r c x)/\ae u D):=λu Z=>by
  rw[ak];exact TF (h.a_ (bu.bg Z)) fi aB ht
 have dT:aM (∀u,ae w u->aE aa 229 #[J bE 0,r c a,r c s,r c t] u λe D=>e=au (r c y)/\ae u D):=λu Z=>by
  rw[az];exact TF (h.a_ (bu.bg Z)) ha aB ht
 have cj:aM (∀u,ae w u->u.cell? (B bh 0)=A (J bE 0)/\u.cell? (B bF 0)=A (r c s)/\u.cell? (B d3 0)=A (r c t)):=λu Z=>⟨(bl.aq Z).cell 0,(cL.aq Z).cell 0,(eI.aq Z).cell 0⟩;have d':=I (bx w.heap.size w);clear h bl cL eI ak az ha fi aB ht;go_in;go_wp2_with fail;refine jj (S:=λD=>D.cell? (B bh 0)=A (J bE 0)/\D.cell? (B bF 0)=A (r c s)/\D.cell? (B d3 0)=A (r c t)) rfl ?_;have ax:=cj.o w.drew (d'.o.drew);change gV _ _ _ _ _ 12 _ _ w.drew;have bf:=I (d'.o.drew);repeat refine fA ?_
 refine fs 4 ?_;refine gE 229 (ft.o w.drew bf.o) ?_;rintro yY kw ⟨⟨rfl⟩,hb⟩;have ef:=I (bf.o.trans (hb.mono bf.o.size))
 replace bf:=ef
 clear ef hb ax;have ax:=cj.o kw bf.o;refine⟨ax,?_⟩;simp only[bN,bM,bO];refine fs 9 ?_;refine gE 229 (dT.o kw bf.o) ?_;rintro QT qq ⟨⟨rfl⟩,hb⟩;have ef:=I (bf.o.trans (hb.mono bf.o.size))
 replace bf:=ef
 clear ef hb ax;have ax:=cj.o qq bf.o;refine⟨ax,?_⟩;simp only[bN,bM,bO];refine fs 10 ?_;refine gE 195 (Ss x y qq) ?_;rintro _ _ ⟨⟨rfl⟩,rfl⟩;refine⟨ax,?_⟩;simp only[bN,bM,bO];repeat refine fA ?_
 refine i4 ?_;go_wp2_with fail;go_ret;exact⟨_,rfl,bf.o⟩
theorem cR.adm {w:O} {a:Option cp} {cap:Nat} (h:cR w (E a n cap) L) m (hm:m<=L.length):cR w (E a m cap) (L.take m):=by
 obtain⟨fM,nl,e,h1,h2,ap⟩:=h;obtain⟨rfl,rfl,rfl⟩:a=fM/\n=L.length/\cap=nl:=by simpa using e
 have aw:(L.take m).length=m:=by rw[lS];omega
 refine⟨a,cap,by rw[aw],G,h2,λi ag=>?_⟩;have ia:i<L.length:=G;rw[Mh];exact ap i ia
def Us (n:Nat) (x:Int):Prop:=0<=x/\x<n
theorem arA {w:O} (aC:1<=n/\n<=12) {v:ac} (aK:cR w v L) (Km:L.length=n) (hB:Int->Prop) (dj:∀x∈L,hB x) (many:Int) (hm:1<=many) (fw:Nat) (jm:∀args w,(gM fw args).run aa w= .ok (.enter fw args) w) (eN:Array ac)
 (ah:∀u,ae w u->∀x y,hB x->hB y->aE aa fw (#[r c x,r c y]++eN) u λe D=>∃U,e=au (r c U)/\ae u D):
 aE aa 227 #[v,r c many,.func (.func fw) #[] eN] w λe D=>∃a Q R,e=au (E a (pA Q) R)/\cR D (E a (pA Q) R) Q/\(∀x∈Q,hB x)/\Q.length<=n/\ae w D:=by
 have kl:=I (D' v L w aK G);obtain⟨aN,dw,rfl,_⟩:=id aK;obtain⟨k,K⟩:∃k:Nat,(if(n:Int)<many then(n:Int) else many)=(k:Int)/\k<=n:=by
  by_cases q:(n:Int)<many
  ·exact⟨n,by rw[if_pos q],bY _⟩
  ·exact⟨many.toNat,by rw[if_neg q];omega,G⟩
 obtain⟨jT,s_⟩:=K;have Jo:(k:Int)<=n:=G;have jl:=ew k;have cS:=I ah;have e_:=I dj;have fG:=I Km;clear aK ah dj Km;go_in;go_wp2_with fail;refine kl.o.mono ?_;rintro e ay ⟨v1,rfl,ar,aX⟩;rw[fG.o] at ar;obtain⟨g,R,rfl⟩:∃g R,v1=E (A (B g 0)) n R:=by
  rcases id ar.2 with⟨_,h0⟩|⟨g,R,cur,e,_⟩
  ·omega
  ·exact⟨g,R,e⟩
 have hT:w.heap.size<=g:=(ar.lt g rfl).1;have adn:ou hB ay w.heap.size g n R:=⟨L,fG.o,e_.o,ar⟩;have OL:=I (aoN hB w.heap.size g n R aC.2 fw jm eN ay adn (λu Z x y ak az=>cS.o u (aX.trans (Z.below aX.size (λk K=>by rw[K];exact hT))) x y ak az));have ft:=db aX hT;clear ar aX hT adn kl;go_wp2_with fail;refine OL.o.mono ?_;rintro e aJ ⟨rfl,⟨aj,ql,lE,BB⟩,e6⟩;have cH:=jU ql lE BB (ft.o.1.trans (e6.below ft.o.1.size (λk K=>by rw[K];exact ft.o.2)));have Kp:n<=R/\R<=ff:=by
  obtain⟨_,_,e,q1,q2,_⟩:=jv ql BB;injection e with _ _ en
  subst en;rw[ql] at q1;exact⟨q1,q2⟩
 obtain⟨aDW,arB⟩:=Kp;unfold ff at arB;have aDX:(n:Int)<=R:=G;have EI:(k:Int)<=R:=G;clear ql lE BB e6 OL;go_wp2_with fail;go_ret;have ak:=cR.adm (jv cH.o.1 cH.o.2.2.1) k (by rw[cH.o.1];exact s_);have aw:(aj.take k).length=k:=by rw[lS,cH.o.1];omega
 refine⟨A (B g 0),aj.take k,R,by rw[aw];rfl,by rw[aw];exact ak,λx ak=>cH.o.2.1 x (XT ak),by rw[aw];exact s_,cH.o.2.2.2⟩
def m4 (k:Nat):List Int:=(m8 k).map λ(i:Nat)=>(i:Int)
theorem Ut (k:Nat):m4 (k+1)=m4 k++[(k:Int)]:=by unfold m4;rw[Io,qc];rfl
theorem Kq (k:Nat):(m4 k).length=k:=by unfold m4;rw[iT,tK]
theorem Uu (h:x∈m4 k):Us k x:=by
 obtain⟨i,ag,rfl⟩:=jB.1 h;have:=tI.1 ag;exact⟨G,G⟩
theorem Uv {w:O} (h:jq w bE g N b0) (lv:1<=b0.length/\b0.length<=12) {s t:Nat} (aB:s<N) (ht:t<N) (cr:Int):
 aE aa 141 #[J bE 0,r c s,r c t,r c cr] w λe D=>∃a Q R,e=au (E a (pA Q) R)/\cR D (E a (pA Q) R) Q/\(∀x∈Q,0<=x/\x<b0.length)/\Q.length<=12/\ae w D:=by
 obtain⟨bh,dW⟩:=al w.heap.size;obtain⟨bF,eV⟩:=al (bh+1);obtain⟨d3,eS⟩:=al (bF+1);obtain⟨ba,cg⟩:=al (((w.alloc (an #[J bE 0] 65)).alloc (an #[r c s] 3)).alloc (an #[r c t] 3));have ck:=tW cg;have k4:V ba bh #[J bE 0] 65:=by rw[cg,dW];exact((V.new _ _ _ _).alloc _).alloc _
 have k5:V ba bF #[r c s] 3:=by
  have k:=V.new (w.alloc (an #[J bE 0] 65)) #[r c s] 3 (0,0);rw[d8] at k;rw[cg,eV,dW];exact k.alloc _
 have k6:V ba d3 #[r c t] 3:=by
  have k:=V.new ((w.alloc (an #[J bE 0] 65)).alloc (an #[r c s] 3)) #[r c t] 3 (0,0);rw[d8,d8] at k;rw[cg,eS,eV,dW];exact k
 have eU:=I (Eo (h.a_ (bu.bg ck)));obtain⟨n,aC⟩:=al b0.length;rw[<-aC] at eU lv⊢;obtain⟨OM,lo⟩:∃z:Int,z=max cr 1:=⟨_,rfl⟩;have xm:(if cr<1 then 1 else cr)=OM:=by rw[lo];split<;>omega
 have ado:1<=OM:=G;have ON:aM (∀u v,ae ba u->cR u v (m4 n)->aE aa 227 #[v,r c OM,.func (.func 228) #[] #[J bh 0,J bF 0,J d3 0]] u λe D=>∃a Q R,e=au (E a (pA Q) R)/\cR D (E a (pA Q) R) Q/\(∀x∈Q,Us n x)/\Q.length<=n/\ae u D):=λu v Z aK=>by
  refine arA lv aK (Kq n) (Us n) (λx ak=>Uu ak) OM ado _ (fg func228 bq rfl) _ λcz hu x y ak az=>?_;obtain⟨a,rfl⟩:∃a:Nat,x=(a:Int):=⟨x.toNat,bI ak.1⟩;obtain⟨b,rfl⟩:∃b:Nat,y=(b:Int):=⟨y.toNat,bI az.1⟩;have hb:=Z.next' hu;exact arz (h.a_ (bu.bg (ck.next' hb))) aB ht (bI ak.2) (bI az.2) (k4.aq hb) (k5.aq hb) (k6.aq hb)
 have gR:=aR k4 0;rw[cg,dW] at gR;have h4:=I cg;have bP:=ig dW eV eS;have dh:=I ck;have g_:=@hJ aa;clear h aB ht cg ck k4 k5 k6 aC lo ado;go_in;go_wp2_with fail;rw[<-h4.o,<-dW,<-eV,<-eS];clear gR dW eV eS;refine eU.o.mono ?_;rintro e bi ⟨a,R,rfl,_,c_⟩;have hM:=I (show bi.ownsRow ba.heap.size 3 1 (E T 0 0) (m4 0).length ((m4 0).flatMap ec)/\ae ba bi from⟨oG _ _ _ _,c_⟩);clear c_ eU;go_wp2_with fail;go_loopw [9,14] (λo i wr=>∃(cV:Option cp) (cF k:Nat),k<=n/\o=E cV k cF/\i=r c k/\aM (wr.ownsRow ba.heap.size 3 1 (E cV k cF) (m4 k).length ((m4 k).flatMap ec)/\ae ba wr)) (λ_ i _=>n-(cu i).toNat)
 ·exact⟨T,0,0,cQ _,rfl,rfl,hM⟩
 ·obtain⟨cV,cF,k,K,rfl,rfl,cW⟩:=hrel;by_cases a0:k<n
  ·have ie:(k:Int)<n:=G;obtain⟨j',so⟩:=al (wr.alloc (an #[r c k] 3));have mK:=dx so;have gS:=eK so rfl;have Hh:j'.ownsRow ba.heap.size 3 1 (E cV k cF) (m4 k).length ((m4 k).flatMap ec):=fB cW.o.1 λj av=>mK.block j (di cW.o.1 av).2.choose_spec.lt;obtain⟨a2,cm,bb,cG,hE,wL,kH,gP⟩:=Je ba.heap.size _ (m4 k) (k:Int) j' wr.heap.size Hh gS (by rw[Kq];omega) (cM cW.o.2.size mK.size);have Cb:ae ba cG:=(cW.o.2.next' mK|>λz=>z).grown kH (cM cW.o.2.size mK.size) (λj av=>(Hh.lt j av).1);have kA:cm=k+1:=by
    rcases wL.2 with⟨e,h0⟩|⟨_,_,_,e,_⟩
    ·simp at h0
    ·injection e with _ e _;rw[e,gW,Kq];rfl
   subst kA;rw[<-Ut] at wL;rw[so] at hE;have rC:=I hE;have c9:=db wL Cb;clear so mK gS Hh hE wL kH gP Cb cW hM;go_wp2_with(at_builtin;refine uX rfl _ _ _ _ rfl rC.o ?_)
   go_roundw
   ·exact⟨a2,bb,k+1,a0,rfl,by go_num,c9⟩
   ·simp[cu];omega
  ·obtain rfl:k=n:=G;have dq:=I (ON.o wr _ cW.o.2 (jv rfl cW.o.1));have mX:=I cW.o.2;clear cW K a0 ON hM;go_wp2_with fail;refine dq.o.mono ?_;rintro e gY ⟨a,Q,R,rfl,ak,hA,pO,hb⟩;have cH:=jU ak hA pO (dh.o.next' (mX.o.next' hb));clear ak hA pO hb dq;go_wp2_with fail;go_ret;exact⟨_,Q,_,rfl,cH.o.1,cH.o.2.1,bI cH.o.2.2.1,cH.o.2.2.2⟩
theorem arI (q:Nat) (t:Int) (w:O):aE aa 213 #[J q 0,r c t] w λe D=>e=au (.func (.func 275) #[] #[J w.heap.size 0,J (w.heap.size+1) 0])/\D=(w.alloc (an #[J q 0] 209)).alloc (an #[r c t] 3):=by
 have g_:=@hJ aa;go_in;go_wp2_with fail;go_ret;exact⟨rfl,rfl⟩
theorem vD.path {fe:Nat} (ah:rf bH am af g N s t aG pi cB cy) {kU x:Nat} {v:Nat} {w:O} (h:vD bH am g s t aG pi cB cy q af p ab N aW bs aY bn fe kU x (v:Int) d w) {aJ:O} (cK:aJ=(w.alloc (an #[J q 0] 209)).alloc (an #[r c v] 3)):
 aE aa 23 #[.func (.func 275) #[] #[J w.heap.size 0,J (w.heap.size+1) 0]] aJ λe D=>∃cV iY cF,e=au (E cV iY cF)/\ae w D/\
  aE aa 139 #[E cV iY cF] D λe ba=>e=au (b8 #[])/\ae w ba:=by
 obtain⟨bo,a7,L,de,aS,bL,aD,C,h1,ap,bl,cL,eI,gu,h9,iJ,oO,lF,sc⟩:=h;obtain⟨ce,Ke,zX⟩:=cL.chain;have iH:=ah.dR.jo;have oU:v<N:=G;have kO:=(bx _ w).alloc (bY w.heap.size) (an #[J q 0] 209);have a5:ae w aJ:=by rw[cK];exact kO.alloc a3 _
 have hK:aJ.heap.size=w.heap.size+2:=by rw[cK];simp
 have arJ:V aJ w.heap.size #[J q 0] 209:=by
  have k:=V.new w #[J q 0] 209 (0,0);rw[cK];exact k.aq (fb)
 have ND:V aJ (w.heap.size+1) #[r c v] 3:=by
  have k:=V.new (w.alloc (an #[J q 0] 209)) #[r c v] 3 (0,0);rw[d8] at k;rw[cK];exact k
 have hSt:∀X,Kept (λk=>k=w.heap.size+1) aJ X->Ux af g N q bs w.heap.size (w.heap.size+1) aS X:=λX hy=>
  arC ah (h1.more a5) arJ G (λhf=>by have:=h1.ij.acG hf;omega) (bI h1.lo_le) hy
 have iQ:Es (7-1-1) 275 #[J w.heap.size 0,J (w.heap.size+1) 0] iI (bQ aJ.heap.size) (w.heap.size+1) ce aJ:=λgd bG W hW CD yy ei h0=>
  arD ah.dR h1.ij.Cn (7-1-1) G aJ G hSt oU Ke gd bG W (Kept.bg hW) (ND.aq hW) CD yy ei h0
 refine(im.1 (acp 7 G _ _ ce G (bQ aJ.heap.size) (w.heap.size+1) aJ G iQ (fg aB3 bq rfl) (λh k=>h.trans k) (λ_ _ h _=>h))).mono ?_;rintro e D ⟨ca,rfl,es,K⟩;have gQ:ae w D:=a5.trans (K.below G λk e=>by omega);rcases id es.2 with⟨rfl,h0⟩|⟨qi,R,cur,rfl,aDZ,_⟩
 ·refine⟨T,0,0,rfl,gQ,(reverse_nil D).mono ?_⟩;rintro e ba ⟨rfl,fx⟩;subst ba;exact⟨rfl,gQ⟩
 ·refine⟨_,_,_,rfl,gQ,(acd _ qi ce.length R G D ⟨ce,rfl,es⟩).mono ?_⟩;rintro e ba ⟨rfl,_,dv⟩;exact⟨rfl,gQ.trans (dv.below gQ.size λk e=>by omega)⟩
theorem arK {fe:Nat} (ah:rf bH am af g N s t aG pi cB cy) {a7:Nat->Prop} {w:O} (h:pW bH am s t cB cy w q af p ab N aW bs aY bn (E T 0 0) a7 [] (d5 N 0) (d5 N (-1)) (d5 N ao) 0) (o2:V w fe #[r c 0,E T 0 0,E T 0 0] 202) (aC:¬a7 fe) (ag:s=(i:Int)):
 aE aa 212 #[J q 0,r c i,r c 0,r c (-1)] w λe D=>e=au (b8 #[])/\∃kU,Hj bH am g s t aG pi cB cy q af p ab N aW bs aY bn fe kU D:=by
 have aB:=ah.y5;have s7:i<N:=G;have lB:=ah.acF h.EC h.below s7;have acz:=ah.ms i;have mh:(d5 N ao)[i]? =A ao:=by rw[Il,if_pos s7]
 have qZ:Hf (d5 N ao) []:=λj av=>by
  rw[jD] at av;rw[Il,if_pos av];rfl
 by_cases hf:ev pi i<72057594037927936
 ·refine(acy h.ij s7 lB 0 (-1) ⟨G,hf⟩ ⟨G,G⟩ mh (λk K=>by cases K)).mono ?_;rintro e D ⟨rfl,c',hi,q1,q2,bm,cZ⟩;have n8:Kept (re q aW bs aY (E T 0 0) a7) w D:=bm.mono λk K=>K.elim (λe=> .inl e) λe=>e.elim (λe=> .inr (.inr (.inl e))) λe=> .inr (.inr (.inr (.inl e)));refine⟨rfl,_,_,hi,c',_,_,_,0,[],h.next q1 n8 cZ (λ_ h=> .inl h),.inl (xU.begin 1 (ev pi) g.arcs (kj g aG pi) s N aB (λx=>?_) ?_ a3 ?_ a3),qZ,iS,cQ _,cQ _,rfl,n8.aH o2 (Kg h o2 aC),λaO=>(cZ _ aO).elim aC λe=>by have:=o2.lt;omega⟩
  ·rw[q2 x,ag,aix];constructor
   ·rintro(h|⟨h,_⟩)
    ·exact h
    ·cases h
   ·exact .inl
  ·rw[ag,ko,tJ (by simpa using s7)]
  ·unfold oZ;rw[ag,ko,tJ (by simpa using s7)];rfl
 ·refine dl (Od h.ij s7 lB 0 (-1) (.inr ⟨mh,.inl G⟩)) λD fx=>?_;subst D;exact⟨rfl,_,_,a7,[],_,_,_,0,[],h,.inr ⟨λx ak=>(by cases ak),z_ (ah.cl (by rw[ag];omega))⟩,qZ,iS,cQ _,cQ _,rfl,o2,aC⟩
section
attribute [local go_sem] f'
theorem aq6 {w:O} {b:Nat} (hb:V w b #[aA ad,aA ad,aA ad,aA ad] 4):aE aa 117 #[E (A (B b 0)) 4 4] w λe D=>e=au (aA ad)/\D=w:=by
 have cS:aM (∀k,k<4->w.cell? (B b k)=A (aA ad)):=λk K=>by
  have h:=hb.cell k;rw[h];obtain rfl|rfl|rfl|rfl:k=0\/k=1\/k=2\/k=3:=G;all_goals rfl
 go_in;go_wp2_with fail;go_loopw [7] (λi wr=>∃k:Nat,k<=4/\i=r c k/\wr=w) (λi _=>4-(cu i).toNat)
 ·exact⟨0,G,rfl,rfl⟩
 ·obtain⟨k,K,rfl,rfl⟩:=hrel;by_cases a0:k<4
  ·have ie:(k:Int)<4:=G;have d:=cS.o k a0;go_wp2_with fail;go_roundw
   ·exact⟨k+1,G,by go_num,trivial⟩
   ·simp[cu];omega
  ·obtain rfl:k=4:=G;go_wp2_with fail;go_ret;exact⟨rfl,rfl⟩
theorem adj {w:O} (dE:eq w af g) (ah:mw w dk of many) (hL:(of.length:Int)=g.nodes) (h1:1<=of.length) (h2:of.length<=12):aE aa 60 #[J af 0,J dk 0] w λe D=>e=au (aA ad)/\ae w D:=by
 have gn:aM (∀u,ae w u->aE aa 27 #[J af 0] u λe D=>e=au (r c (of.length:Nat))/\D=u):=λu Z=>by rw[hL];exact l3 af g u (dE.a_ (bu.bg Z))
 have eU:=I (aqp dk of many w ah G);obtain⟨n,aC⟩:=al of.length;have js:(0:Int)<n:=G;have c9:=I aC;rw[<-aC] at gn;clear aC;go_in;go_wp2_with fail;refine dl (gn.o w (bx _ _)) λeM h=>?_;subst eM;go_wp2_with fail;refine eU.o.mono ?_;rintro e aJ ⟨v,rfl,ar,hb⟩;obtain⟨a,R,aK,_⟩:=jv rfl ar;subst aK;rw[<-c9.o];have Ui:=I (gn.o aJ hb);have bP:=I hb;go_wp2_with fail;refine dl Ui.o λeM h=>?_;subst eM;go_wp2_with fail;go_ret;exact⟨rfl,bP.o⟩
theorem aq7 {w:O} {many:Nat} (dE:eq w af g) (ah:mw w dk of many) (hb:fE w du bs many g.arcs.length l) (hL:(of.length:Int)=g.nodes) (h1:1<=of.length) (h2:of.length<=12):aE aa 70 #[J af 0,J dk 0,J du 0] w λe D=>e=au (aA ad)/\ae w D:=by
 obtain⟨M,dU⟩:=al g.arcs.length;rw[<-dU] at hb;have Kn:=I (adj dE ah hL h1 h2);have cW:=I (λu (Z:ae w u)=>EP du bs many M l u (⟨hb.head.aq Z,hb.body.aq Z,hb.ne,hb.AJ,hb.wide,hb.rows,hb.cr⟩));have aq8:=I (λu (Z:ae w u)=>Hs du bs many M l u (⟨hb.head.aq Z,hb.body.aq Z,hb.ne,hb.AJ,hb.wide,hb.rows,hb.cr⟩));have OH:=I (λu (Z:ae w u)=>ac_ dk of many u (ah.a_ (bu.bg Z)));have rN:aM (∀u,ae w u->aE aa 63 #[J af 0] u λe D=>e=au (r c M)/\D=u):=λu Z=>by rw[dU];exact Hg af g u (dE.a_ (bu.bg Z))
 clear dU;go_in;go_wp2_with fail;refine dl Kn.o λu Z=>?_;have jf:=I (cW.o u Z);have jL:=I (OH.o u Z);have pT:=I (aq8.o u Z);have Jw:=I (rN.o u Z);have Uj:=I (aq6 (V.new u #[aA ad,aA ad,aA ad,aA ad] 4 (0,0)));have i7:=I Z;go_wp2_with fail;refine dl jf.o λeM h=>?_;subst eM;go_wp2_with fail;refine dl jL.o λeM h=>?_;subst eM;go_wp2_with fail;refine dl pT.o λeM h=>?_;subst eM;go_wp2_with fail;refine dl Jw.o λeM h=>?_;subst eM;go_wp2_with fail;refine dl Uj.o λeM h=>?_;subst eM;go_wp2_with fail;go_ret;exact⟨rfl,i7.o.next' (fb)⟩
def CA (g:Raw) (of:List Int) (R:Int) (i:Nat):Bool:=(rT of (gw g i).1==R)&&(rT of (gw g i).2.1==R)
theorem aq9 {w:O} (dE:eq w af g) (ah:mw w dk of many) (R:Int) (ag:i<g.arcs.length):aE aa 111 #[J af 0,J dk 0,r c R,r c i] w λe D=>e=au (aA (CA g of R i))/\ae w D:=by
 have tq:=Ub af g i w dE;have Uk:kE g i=A g.arcs[i]:=by unfold kE;rw[if_pos ⟨G,G⟩,ko,eA ag]
 unfold CA;rw[oY ag];rw[Uk] at tq;generalize g.arcs[i]=a at tq⊢;obtain⟨c0,cI,dB⟩:=a;change aE _ _ _ _ (λe D=>e=au (b8 #[.agg #[r c c0,r c cI,r c dB],aA ad])/\ae w D) at tq;dsimp only;have Hp:=I tq;have eH:=I (λu (Z:ae w u) (v:Int)=>ac' dk of many v u (ah.a_ (bu.bg Z)));obtain⟨gc,mi⟩:=al (rT of c0);obtain⟨f8,nN⟩:=al (rT of cI);rw[<-mi,<-nN];have ju:=db mi nN;clear mi nN;obtain⟨q0,zY⟩:∃q,(gc==R)=q:=⟨_,rfl⟩;obtain⟨q1,Ul⟩:∃q,(f8==R)=q:=⟨_,rfl⟩;rw[zY,Ul];go_in;go_wp2_with fail;refine dl Hp.o λcz hb=>?_;obtain⟨hI,kW⟩:=al (cz.alloc (an #[r c c0,r c cI,r c dB] 57));have ck:=dx kW;have hj:=hb.next' ck;have k6:=eK kW rfl;have d0:=aR k6 0;have d1:=aR k6 1;have Um:=eH.o hI hj c0;have jf:=eH.o hI hj cI;rw[<-ju.o.1] at Um;rw[<-ju.o.2] at jf;rw[kW] at d0 d1 Um jf;have ub:=I Um;have xZ:=I jf;have dh:=I hj;have l5:=I kW;clear kW;cases q0 with
 |false=>
  go_wp2_with fail;refine dl ub.o λeM h=>?_;subst eM;go_wp2_with fail;go_ret;rw[<-l5.o];exact⟨rfl,dh.o⟩
 |true=>
  go_wp2_with fail;refine dl ub.o λeM h=>?_;subst eM;go_wp2_with fail;refine dl xZ.o λeM h=>?_;subst eM;go_wp2_with fail;go_ret;rw[<-l5.o];exact⟨rfl,dh.o⟩
theorem aq_ {w:O} {bk:Nat} (dE:eq w af g) (ah:mw w dk of many) (h1:V w cc #[J af 0] 62) (h2:V w a' #[J dk 0] 66) (ap:V w bk #[r c R] 3) (ag:i<g.arcs.length):
 aE aa 110 #[r c i,J cc 0,J a' 0,J bk 0] w λe D=>e=au (aA (CA g of R i))/\ae w D:=by
 have cS:=I (aq9 dE ah R ag);have aV:=aR h1 0;have bb:=aR h2 0;have ch:=aR ap 0;obtain⟨q,aO⟩:=al (CA g of R i);rw[<-aO] at cS⊢;clear aO;go_in;go_wp2_with fail;refine dl cS.o λaJ hb=>?_;have bP:=I hb;go_wp2_with fail;go_ret;exact⟨rfl,bP.o⟩
theorem aq' {w:O} {Mp M:Nat} (h1:V w cc #[E (A (B Mp 0)) M M] 186) (aw:aG.length=M) (hg:V w Mp (iL aG) 4) (ag:i<M):
 aE aa 114 #[r c i,J cc 0] w λe D=>e=au (aA (aG[i]?.getD ao))/\ae w D:=by
 have aV:=aR h1 0;have jF:=hg.cell i;rw[Ey _ _ G] at jF;rw[eA G,sM];generalize aG[i]'G=b at jF⊢;have js:(i:Int)<M:=G;have eP:=ew i;go_in;go_wp2_with fail;go_ret;exact⟨rfl,bx _ _⟩
theorem toBelow {P:Program} {f:Nat} {args:Array ac} {w:O} {v:ac} (h:aE P f args w λe D=>e=au v/\D=w):aE P f args w λe D=>e=au v/\ae w D:=
 h.mono (by rintro e D ⟨rfl,rfl⟩;exact⟨rfl,bx _ _⟩)
def x0 (n b':Nat) (l:List UInt8) (R:Int):List Bool:=(m8 b').map λ(i:Nat)=>m3 n b' l R i
theorem Hu (n b':Nat) (l:List UInt8) (R:Int):(x0 n b' l R).length=b':=by unfold x0;rw[iT,tK]
theorem Ur (h:i<b'):(x0 n b' l R)[i]? =A (m3 n b' l R i):=by unfold x0;rw[w',Ik h];rfl
structure y_ (w:O) (dk du af:Nat) (g:Raw) (N:Nat) (of:List Int) (many bs:Nat) (l:List UInt8):Prop where
 dR:jz g N
 kS:eq w af g
 cells:mw w dk of many
 flags:fE w du bs many g.arcs.length l
 len:of.length=N
 one:1<=N
 ec:∀v:Int,0<=v->v<N->0<=p3 of v/\p3 of v<many
 ok:∀R:Int,0<=R->R<many->rg g of R (x0 many g.arcs.length l R)
theorem y_.later {w:O} {many:Nat} (h:y_ w dk du af g N of many bs l) (hb:ae w D):y_ D dk du af g N of many bs l:=
 ⟨h.dR,h.kS.a_ (bu.bg hb),h.cells.a_ (bu.bg hb),h.flags.later hb,h.len,h.one,h.ec,h.ok⟩
theorem y_.fits {w:O} {many:Nat} (h:y_ w dk du af g N of many bs l):aE aa 70 #[J af 0,J dk 0,J du 0] w λe D=>e=au (aA ad)/\ae w D:=
 aq7 h.kS h.cells h.flags (by rw[h.len];exact h.dR.nodes) (by rw[h.len];exact h.one) (by rw[h.len];exact h.dR.jo)
def qH (w:O) (bn dk du af:Nat) (jX:ac) (dF:Int) (s t:Nat) (cr:Int):Prop:=V w bn #[J dk 0,J du 0,J af 0,jX,r c dF,r c s,r c t,r c cr] 194
theorem qH.cells {w:O} {s t:Nat} {cr:Int} (h:qH w bn dk du af jX dF s t cr):
 w.cell? (B bn 0)=A (J dk 0)/\w.cell? (B bn 1)=A (J du 0)/\w.cell? (B bn 2)=A (J af 0)/\w.cell? (B bn 3)=A jX/\w.cell? (B bn 4)=A (r c dF)/\w.cell? (B bn 5)=A (r c s)/\w.cell? (B bn 6)=A (r c t)/\w.cell? (B bn 7)=A (r c cr):=
 ⟨V.cell h 0,V.cell h 1,V.cell h 2,V.cell h 3,V.cell h 4,V.cell h 5,V.cell h 6,V.cell h 7⟩
theorem adl {w:O} {s t:Nat} {cr:Int} (h:qH w bn dk du af jX dF s t cr) (b1:(N:Int)=g.nodes) (dE:eq w af g) {v:Nat} (aK:v<N):aE aa 206 #[J bn 0,r c v] w λe D=>e=au (aA ad)/\D=w:=by
 have gn:=I (show aE aa 27 #[J af 0] w λe D=>e=au (r c N)/\D=w from by rw[b1];exact l3 af g w dE);obtain⟨_,_,bb,_⟩:=h.cells;have js:(v:Int)<N:=G;have eP:=ew v;clear h dE b1 aK;go_in;go_wp2_with fail;refine eO gn.o ?_;go_wp2_with fail;go_ret;exact⟨rfl,rfl⟩
theorem arl {w:O} {s t:Nat} {cr:Int} (h:qH w bn dk du af (J bE 0) dF s t cr) (dE:eq w af g) (Hv:jq w bE g N b0) (h1:1<=b0.length):aE aa 273 #[J bn 0] w λe D=>e=au (aA ad)/\ae w D:=by
 obtain⟨n,aC⟩:=al b0.length;have js:0<n:=G;have eU:aM (∀u,ae w u->aE aa 69 #[J bE 0] u λe D=>∃a R,e=au (E a n R)/\ae u D):=λu Z=>(Eo (Hv.a_ (bu.bg Z))).mono (by
  rintro e D ⟨a,R,rfl,_,hb⟩;exact⟨a,R,by rw[aC],hb⟩)
 have gn:aM (∀u,ae w u->aE aa 27 #[J af 0] u λe D=>e=au (r c N)/\D=u):=λu Z=>by rw[Hv.nodes];exact l3 af g u (dE.a_ (bu.bg Z))
 have AK:=I (λu (Z:ae w u)=>En (Hv.a_ (bu.bg Z)));have cj:aM (∀u,ae w u->u.cell? (B bn 2)=A (J af 0)/\u.cell? (B bn 3)=A (J bE 0)):=λu Z=>by
  obtain⟨_,_,bb,ch,_⟩:=(show qH u bn dk du af (J bE 0) dF s t cr from V.below h Z (V.lt h)).cells;exact⟨bb,ch⟩
 have d':=I (bx w.heap.size w);clear aC;go_in;go_wp2_with fail;refine jj (S:=λD=>D.cell? (B bn 2)=A (J af 0)/\D.cell? (B bn 3)=A (J bE 0)) rfl ?_;have ax:=cj.o w.drew (d'.o.drew);change gV _ _ _ _ _ 21 _ _ w.drew;have bf:=I (d'.o.drew);repeat refine fA ?_
 refine fs 4 ?_;refine gE 69 (eU.o w.drew bf.o) ?_ (aP:=by rintro _ _ ⟨_,_,h,_⟩;cases h) (aQ:=by rintro _ ⟨_,_,h,_⟩;cases h);rintro e cz ⟨a,R,⟨rfl⟩,hb⟩;have ef:=I (bf.o.trans (hb.mono bf.o.size))
 replace bf:=ef
 have ax:=cj.o cz bf.o;refine⟨ax,?_⟩;simp only[bN,bM,bO];repeat refine fA ?_
 refine fs 12 ?_;refine gE 68 (toBelow (AK.o cz bf.o)) ?_;rintro e hI ⟨⟨rfl⟩,hb⟩;have ef:=I (bf.o.trans (hb.mono bf.o.size))
 replace bf:=ef
 have ax:=cj.o hI bf.o;refine⟨ax,?_⟩;simp only[bN,bM,bO];refine fs 17 ?_;refine gE 27 (toBelow (gn.o hI bf.o)) ?_;rintro e mG ⟨⟨rfl⟩,hb⟩;have ef:=I (bf.o.trans (hb.mono bf.o.size))
 replace bf:=ef
 have ax:=cj.o mG bf.o;refine⟨ax,?_⟩;simp only[bN,bM,bO];repeat refine fA ?_
 refine i4 ?_;go_wp2_with fail;go_ret;exact⟨rfl,bf.o⟩
def AL (w:O) (g:Raw) (N:Nat) (jX:ac) (dF:Int):Prop:=(dF=4)\/(dF=5/\∃bE b0,jX=J bE 0/\jq w bE g N b0/\1<=b0.length/\b0.length<=12)
theorem AL.later {w:O} (h:AL w g N jX dF) (hb:ae w D):AL D g N jX dF:=by
 rcases h with h|⟨h,bE,b0,h1,h2,ap⟩
 ·exact .inl h
 ·exact .inr ⟨h,bE,b0,h1,h2.a_ (bu.bg hb),ap⟩
theorem arm {w:O} {s t:Nat} {cr:Int} {many:Nat} (h:qH w bn dk du af jX dF s t cr) (aP:y_ w dk du af g N of many bs l) (ht:AL w g N jX dF):aE aa 208 #[J bn 0] w λe D=>e=au (aA ad)/\ae w D:=by
 have dq:=I (λu (Z:ae w u)=>(aP.later Z).fits);have d':=I (bx w.heap.size w);have hz:=λu (Z:ae w u)=>(show qH u bn dk du af jX dF s t cr from V.below h Z (V.lt h));rcases ht with rfl|⟨rfl,bE,b0,rfl,h2,ap,_⟩
 ·have cj:aM (∀u,ae w u->u.cell? (B bn 0)=A (J dk 0)/\u.cell? (B bn 1)=A (J du 0)/\u.cell? (B bn 2)=A (J af 0)/\u.cell? (B bn 4)=A (r c 4)):=λu Z=>by
   obtain⟨bR,aV,bb,_,gR,_⟩:=(hz u Z).cells;exact⟨bR,aV,bb,gR⟩
  go_in;go_wp2_with fail;refine jj (S:=λD=>D.cell? (B bn 0)=A (J dk 0)/\D.cell? (B bn 1)=A (J du 0)/\D.cell? (B bn 2)=A (J af 0)/\D.cell? (B bn 4)=A (r c 4)) rfl ?_;have ax:=cj.o w.drew (d'.o.drew);change gV _ _ _ _ _ 28 _ _ w.drew;have bf:=I (d'.o.drew);repeat refine fA ?_
  refine fs 14 ?_;refine gE 70 (dq.o w.drew bf.o) ?_;rintro e cz ⟨⟨rfl⟩,hb⟩;have ef:=I (bf.o.trans (hb.mono bf.o.size))
  replace bf:=ef
  have ax:=cj.o cz bf.o;refine⟨ax,?_⟩;simp only[bN,bM,bO];repeat refine fA ?_
  refine eY 23 ax ?_;refine eY 24 ax ?_;repeat refine fA ?_
  refine i4 ?_;go_wp2_with fail;go_ret;exact⟨rfl,bf.o⟩
 ·have cj:aM (∀u,ae w u->u.cell? (B bn 0)=A (J dk 0)/\u.cell? (B bn 1)=A (J du 0)/\u.cell? (B bn 2)=A (J af 0)/\u.cell? (B bn 4)=A (r c 5)):=λu Z=>by
   obtain⟨bR,aV,bb,_,gR,_⟩:=(hz u Z).cells;exact⟨bR,aV,bb,gR⟩
  have eU:=I (λu (Z:ae w u)=>arl (hz u Z) (aP.kS.a_ (bu.bg Z)) (h2.a_ (bu.bg Z)) ap);go_in;go_wp2_with fail;refine jj (S:=λD=>D.cell? (B bn 0)=A (J dk 0)/\D.cell? (B bn 1)=A (J du 0)/\D.cell? (B bn 2)=A (J af 0)/\D.cell? (B bn 4)=A (r c 5)) rfl ?_;have ax:=cj.o w.drew (d'.o.drew);change gV _ _ _ _ _ 28 _ _ w.drew;have bf:=I (d'.o.drew);repeat refine fA ?_
  refine fs 14 ?_;refine gE 70 (dq.o w.drew bf.o) ?_;rintro e cz ⟨⟨rfl⟩,hb⟩;have ef:=I (bf.o.trans (hb.mono bf.o.size))
  replace bf:=ef
  have ax:=cj.o cz bf.o;refine⟨ax,?_⟩;simp only[bN,bM,bO];repeat refine fA ?_
  refine fs 24 ?_;refine gE 273 (eU.o cz bf.o) ?_;rintro e hI ⟨⟨rfl⟩,hb⟩;have ef:=I (bf.o.trans (hb.mono bf.o.size))
  replace bf:=ef
  have ax:=cj.o hI bf.o;refine⟨ax,?_⟩;simp only[bN,bM,bO];repeat refine fA ?_
  refine i4 ?_;go_wp2_with fail;go_ret;exact⟨rfl,bf.o⟩
theorem arn {w:O} {s t:Nat} {cr:Int} (h1:V w cc #[J bn 0] 192) (h:qH w bn dk du af jX dF s t cr):aE aa 203 #[J cc 0] w λe D=>e=au (aA ad)/\ae w D:=by
 have R:=aR h1 0;obtain⟨bR,aV,bb,ch,gR,gl,kf,lM⟩:=h.cells;go_in;go_wp2_with fail;go_ret;exact⟨rfl,bx _ _⟩
theorem aro {w:O} {s t:Nat} {cr:Int} (h1:V w cc #[J bn 0] 192) (h:qH w bn dk du af jX dF s t cr) (bU:dF=4\/dF=5):aE aa 204 #[J cc 0] w λe D=>e=au (aA ad)/\ae w D:=by
 have R:=aR h1 0;obtain⟨bR,aV,bb,ch,gR,gl,kf,lM⟩:=h.cells;rcases bU with rfl|rfl
 ·go_in;go_wp2_with fail;go_ret;exact⟨rfl,bx _ _⟩
 ·go_in;go_wp2_with fail;go_ret;exact⟨rfl,bx _ _⟩
theorem arp {w:O} {s t:Nat} {cr:Int} (h1:V w cc #[J bn 0] 192) (h:qH w bn dk du af jX dF s t cr) (b1:(N:Int)=g.nodes) (dE:eq w af g) (aK:s<N):aE aa 205 #[J cc 0] w λe D=>e=au (aA ad)/\ae w D:=by
 have R:=aR h1 0;obtain⟨bR,aV,bb,ch,gR,gl,kf,lM⟩:=h.cells;have eW:=I (λu (Z:ae w u)=>adl (show qH u bn dk du af jX dF s t cr from V.below h Z (V.lt h)) b1 (dE.a_ (bu.bg Z)) aK);have cj:aM (∀u,ae w u->u.cell? (B cc 0)=A (J bn 0)/\u.cell? (B bn 5)=A (r c s)):=λu Z=>by
  obtain⟨_,_,_,_,_,ek,jg,_⟩:=(show qH u bn dk du af jX dF s t cr from V.below h Z (V.lt h)).cells;exact⟨(h1.aq Z).cell 0,ek⟩
 have d':=I (bx w.heap.size w);go_in;go_wp2_with fail;refine jj (S:=λD=>D.cell? (B cc 0)=A (J bn 0)/\D.cell? (B bn 5)=A (r c s)) rfl ?_;have ax:=cj.o w.drew (d'.o.drew);change gV _ _ _ _ _ 8 _ _ w.drew;have bf:=I (d'.o.drew);repeat refine fA ?_
 refine fs 6 ?_;refine gE 206 (toBelow (eW.o w.drew bf.o)) ?_;rintro e cz ⟨⟨rfl⟩,hb⟩;have ef:=I (bf.o.trans (hb.mono bf.o.size))
 replace bf:=ef
 have ax:=cj.o cz bf.o;refine⟨ax,?_⟩;simp only[bN,bM,bO];repeat refine fA ?_
 refine i4 ?_;go_wp2_with fail;go_ret;exact⟨rfl,bf.o⟩
theorem arq {w:O} {s t:Nat} {cr:Int} (h1:V w cc #[J bn 0] 192) (h:qH w bn dk du af jX dF s t cr) (b1:(N:Int)=g.nodes) (dE:eq w af g) (aK:t<N):aE aa 207 #[J cc 0] w λe D=>e=au (aA ad)/\ae w D:=by
 have R:=aR h1 0;obtain⟨bR,aV,bb,ch,gR,gl,kf,lM⟩:=h.cells;have eW:=I (λu (Z:ae w u)=>adl (show qH u bn dk du af jX dF s t cr from V.below h Z (V.lt h)) b1 (dE.a_ (bu.bg Z)) aK);have cj:aM (∀u,ae w u->u.cell? (B cc 0)=A (J bn 0)/\u.cell? (B bn 6)=A (r c t)):=λu Z=>by
  obtain⟨_,_,_,_,_,ek,jg,_⟩:=(show qH u bn dk du af jX dF s t cr from V.below h Z (V.lt h)).cells;exact⟨(h1.aq Z).cell 0,jg⟩
 have d':=I (bx w.heap.size w);go_in;go_wp2_with fail;refine jj (S:=λD=>D.cell? (B cc 0)=A (J bn 0)/\D.cell? (B bn 6)=A (r c t)) rfl ?_;have ax:=cj.o w.drew (d'.o.drew);change gV _ _ _ _ _ 8 _ _ w.drew;have bf:=I (d'.o.drew);repeat refine fA ?_
 refine fs 6 ?_;refine gE 206 (toBelow (eW.o w.drew bf.o)) ?_;rintro e cz ⟨⟨rfl⟩,hb⟩;have ef:=I (bf.o.trans (hb.mono bf.o.size))
 replace bf:=ef
 have ax:=cj.o cz bf.o;refine⟨ax,?_⟩;simp only[bN,bM,bO];repeat refine fA ?_
 refine i4 ?_;go_wp2_with fail;go_ret;exact⟨rfl,bf.o⟩
theorem arr (p:Option cp) (w:O):aE aa 121 #[a6 p] w λe D=>e=au (b8 #[E T 0 0,E T 0 0])/\D=w:=by
 go_in;go_wp2_with fail;refine gh (v:=b8 #[E T 0 0,E T 0 0]) (by simp[results,results121,go_sem]) rfl ?_;exact⟨rfl,rfl⟩
theorem ars (bn:Nat) (w:O):aE aa 120 #[J bn 0] w λe D=>e=au (.func (.func 202) #[] #[J w.heap.size 0])/\D=w.alloc (an #[J bn 0] 192):=by
 have g_:=@hJ aa;go_in;go_wp2_with fail;go_ret;exact⟨rfl,rfl⟩
theorem art {w:O} {dH wS:Nat} (h:G_ w p af dH cc g) (hf:V w wS #[.func (.func 263) #[] #[J dH 0,J cc 0]] 285) (x y:Int):
 aE aa 193 #[r c x,r c y,J wS 0] w λe D=>∃U:Int,e=au (r c U)/\ae w D:=by
 have jm:∀args w,(gM 263 args).run aa w= .ok (.enter 263 args) w:=fg func263 bq rfl;have cS:aM (∀u,ae w u->∀v:Int,aE aa 263 #[r c v,J dH 0,J cc 0] u λe D=>∃U:Int,e=au (r c U)/\ae u D):=λu Z v=>(acl (h.later Z) v).mono (by rintro e D ⟨⟨U,rfl⟩,rfl⟩;exact⟨U,rfl,bx _ _⟩);have cj:aM (∀u,ae w u->u.cell? (B wS 0)=A (.func (.func 263) #[] #[J dH 0,J cc 0])):=λu Z=>(hf.aq Z).cell 0;have d':=I (bx w.heap.size w);clear h hf;go_in;go_wp2_with fail;refine jj (S:=λD=>D.cell? (B wS 0)=A (.func (.func 263) #[] #[J dH 0,J cc 0])) rfl ?_;have ax:=cj.o w.drew (d'.o.drew);change gV _ _ _ _ _ 13 _ _ w.drew;have bf:=I (d'.o.drew);repeat refine fA ?_
 refine fs 2 ?_;refine gE 263 (cS.o w.drew bf.o x) ?_ (aP:=by rintro _ _ ⟨_,h,_⟩;cases h) (aQ:=by rintro _ ⟨_,h,_⟩;cases h);rintro yY kw ⟨r1,⟨rfl⟩,hb⟩;have ef:=I (bf.o.trans (hb.mono bf.o.size))
 replace bf:=ef
 clear ef hb ax;have ax:=cj.o kw bf.o;refine⟨ax,?_⟩;simp only[bN,bM,bO];refine fs 5 ?_;refine gE 263 (cS.o kw bf.o y) ?_ (aP:=by rintro _ _ ⟨_,h,_⟩;cases h) (aQ:=by rintro _ ⟨_,h,_⟩;cases h);rintro QT qq ⟨r2,⟨rfl⟩,hb⟩;have ef:=I (bf.o.trans (hb.mono bf.o.size))
 replace bf:=ef
 clear ef hb ax;have ax:=cj.o qq bf.o;refine⟨ax,?_⟩;simp only[bN,bM,bO];refine fs 6 ?_;refine gE 195 (toBelow (Ss r1 r2 qq)) ?_;rintro aru t8 ⟨⟨rfl⟩,hb⟩;have ef:=I (bf.o.trans (hb.mono bf.o.size))
 replace bf:=ef
 clear ef hb ax;have ax:=cj.o t8 bf.o;refine⟨ax,?_⟩;simp only[bN,bM,bO];refine fs 9 ?_;refine gE 196 (toBelow (aal x y t8)) ?_;rintro aDV u8 ⟨⟨rfl⟩,hb⟩;have ef:=I (bf.o.trans (hb.mono bf.o.size))
 replace bf:=ef
 clear ef hb ax;have ax:=cj.o u8 bf.o;refine⟨ax,?_⟩;simp only[bN,bM,bO];refine fs 10 ?_;obtain⟨dV,dz⟩:=al (u8.alloc (an #[r c (pf r1 r2),r c (pf x y)] 3));have hb:=dx dz;have gS:=eK dz rfl;refine Dw (v:=E (A (B u8.heap.size 0)) 2 2) (D:=dV) rfl rfl (by rfl) (by rw[dz];go_simp) ?_;have ef:=I (bf.o.trans (hb.mono bf.o.size))
 replace bf:=ef
 clear ef hb ax dz;have ax:=cj.o dV bf.o;refine⟨ax,?_⟩;simp only[bN,bM,bO];refine fs 11 ?_;refine gE 194 (aam (pf r1 r2) (pf x y) _ dV (gS.cell 0) (gS.cell 1)) ?_;rintro _ _ ⟨⟨rfl⟩,rfl⟩;refine⟨ax,?_⟩;simp only[bN,bM,bO];repeat refine fA ?_
 refine i4 ?_;go_wp2_with fail;all_goals(go_ret;exact⟨⟨_,rfl⟩,bf.o⟩)
end
end Go.Proofs.YtnmliebconiefaaGreatDoor
